/-
  Plain Lean: what a calm round does to what was heard.
-/
import Derived.Test.YtejhbiefhpgjeaaGreatKz5
import Derived.Test.YtejhbiefhpgjeaaGreatTreeI4z
import Derived.Test.YtejhbiefhpgjeaaGreatTreeRz
import Derived.Test.YtejhbiefhpgjeaaGreatTreeCiz
set_option linter.all false
namespace Go.Proofs.YtejhbiefhpgjeaaGreat
open Go Go.Ab
set_option maxHeartbeats 400000
theorem slot_thinks (w:TreeWorld) (b i:Nat) (e:Int):slotAt (thinks w b) i e=slotAt w i e:=by unfold slotAt; rw [thinks_sh]
theorem slot_set {w:TreeWorld} {k:Nat} (ha:k<w.AtA.length) (hb:k<w.AtB.length) {e e':Int} (he:e=0 ∨ e=1) (he':e'=0 ∨ e'=1) (s:TreeSlot) (i:Nat):slotAt (setSlot w k e s) i e'=if i=k∧e'=e then s else slotAt w i e':=by
  have p:∀ q:Prop,∀ (_:Decidable (i=k∧q)) x y,q→(if i=k then x else y:TreeSlot)=if i=k∧q then x else y:=fun q _ x y hq=>by
    by_cases c:i=k
    · rw [if_pos c,if_pos ⟨c,hq⟩]
    · rw [if_neg c,if_neg (fun h=>c h.1)]
  rcases he with rfl | rfl <;> rcases he' with rfl | rfl
  · show (setSlot w k 0 s).AtA.getD i default=if i=k∧(0:Int)=0 then s else w.AtA.getD i default
    rw [setSlot_A ha]; exact p _ _ _ _ rfl
  · show (setSlot w k 0 s).AtB.getD i default=if i=k∧(1:Int)=0 then s else w.AtB.getD i default
    rw [if_neg (fun h=>absurd h.2 (by decide))]; rfl
  · show (setSlot w k 1 s).AtA.getD i default=if i=k∧(0:Int)=1 then s else w.AtA.getD i default
    rw [if_neg (fun h=>absurd h.2 (by decide))]; rfl
  · show (setSlot w k 1 s).AtB.getD i default=if i=k∧(1:Int)=1 then s else w.AtB.getD i default
    rw [setSlot_B hb]; exact p _ _ _ _ rfl
structure Nt (w v:TreeWorld):Prop where
  k:Kp w v
  up:∀ c,upAt v c=upAt w c
  id:∀ c,idAt v c=idAt w c
theorem Nt.refl {w:TreeWorld} (h:Good w):Nt w w:=⟨.refl h,fun _=>rfl,fun _=>rfl⟩
theorem Nt.trans {u v w:TreeWorld} (h:Nt u v) (k:Nt v w):Nt u w:=⟨h.k.trans k.k,fun c=>(k.up c).trans (h.up c),fun c=>(k.id c).trans (h.id c)⟩
theorem Nt.symm {w v:TreeWorld} (h:Nt w v) (g:Good w):Nt v w:=⟨⟨g,⟨h.k.s.n.symm,h.k.s.links.symm⟩,h.k.d.symm⟩,fun c=>(h.up c).symm,fun c=>(h.id c).symm⟩
theorem Nt.op {w v:TreeWorld} (h:Nt w v) (i:Nat):isOpen v i=isOpen w i:=by
  have h1:=h.up (w.Links.getD i default).A
  have h2:=h.up (w.Links.getD i default).B
  unfold upAt at h1 h2
  unfold isOpen
  rw [h.k.d,h.k.s.links,h1,h2]
theorem Nt.br {w v:TreeWorld} (h:Nt w v) (i:Nat) (e:Int):brAt v i e=brAt w i e:=br_same h.k.s i e
theorem Nt.l {w v:TreeWorld} (h:Nt w v):v.Links.length=w.Links.length:=congrArg List.length h.k.s.links
theorem nt_thinks {w:TreeWorld} (h:Good w) {b:Nat} (hb:b<w.Bridges.length):Nt w (thinks w b) :=
  ⟨⟨good_thinks h hb,same_thinks,by rw [thinks_sh]⟩,fun c=>up_thinks hb c,fun c=>id_thinks hb c⟩
theorem nt_radio {w:TreeWorld} {rs:List TreeWord} (g:Good (setRadio w rs)):Nt w (setRadio w rs):=⟨⟨g,⟨rfl,rfl⟩,rfl⟩,fun _=>rfl,fun _=>rfl⟩
theorem id_hear {w:TreeWorld} (h:Good w) {x:TreeWord} (hx:wordOk w x=true) (c:Nat):idAt (hear w x) c=idAt w c:=by
  obtain ⟨h1,h2,h3,h4⟩:=word_iff.1 hx
  have hi:x.Link.toNat<w.Links.length:=by omega
  have hbr:=brAt_in' h hi x.End
  unfold hear
  split
  · rfl
  · unfold idAt
    rw [id_thinks (by rw [same_setSlot.n]; omega)]
    unfold setSlot
    split <;> rfl
theorem nt_hear {w:TreeWorld} (h:Good w) {x:TreeWord} (hx:wordOk w x=true):Nt w (hear w x):=⟨kp_hear h hx,fun c=>up_hear h hx c,id_hear h hx⟩
theorem nt_drain1 {w:TreeWorld} (h:Good w) (hr:0<w.Radio.length):Nt w (words w ⟨2,0,0⟩):=by
  unfold words
  rw [if_pos (inR_iff.2 ⟨Int.le_refl _,(show (0:Int)≤(w.Radio.length:Int) - 1 by omega)⟩),if_pos rfl]
  have g:=good_out h (a:=0) hr
  have hx:wordOk w (w.Radio.getD 0 default)=true:=h.radio _ hr
  exact (nt_radio g).trans (nt_hear g hx)
theorem nt_drain {w:TreeWorld} (h:Good w):Nt w (drain w)∧(drain w).Radio=[]:=by
  have key:∀ j,j≤w.Radio.length→Nt w ((List.range j).foldl drainStep w)∧((List.range j).foldl drainStep w).Radio.length+j=w.Radio.length:=by
    intro j
    induction j with
    | zero=>exact fun _=>⟨.refl h,by simp⟩
    | succ j ih =>
      intro hj
      obtain ⟨i1,i2⟩:=ih (by omega)
      rw [List.range_succ,List.foldl_append]
      refine ⟨i1.trans (nt_drain1 i1.k.g (by omega)),?_⟩
      show (words ((List.range j).foldl drainStep w) ⟨2,0,0⟩).Radio.length+(j+1)=w.Radio.length
      rw [drain_len (by omega)]
      omega
  have k:=key _ (Nat.le_refl _)
  exact ⟨k.1,List.eq_nil_of_length_eq_zero (show (drain w).Radio.length=0 by have:=k.2; unfold drain; omega)⟩
theorem aged_slot {w:TreeWorld} (h:Good w) {i:Nat} (hi:i<w.Links.length) {e:Int} (he:e=0 ∨ e=1):slotAt (aged w) i e=older (slotAt w i e):=by
  have hA:=h.a
  have hB:=h.b
  have key:∀ j,j≤w.Links.length→∀ k,k<w.Links.length→∀ e,(e=0 ∨ e=1)→slotAt ((List.range j).foldl ageStep w) k e=if k<j then older (slotAt w k e) else slotAt w k e:=by
    intro j
    induction j with
    | zero=>intro _ k _ e _; rw [if_neg (Nat.not_lt_zero _)]; rfl
    | succ j ih =>
      intro hj k hk e he
      obtain ⟨i1,i2⟩:=aged_in h j (by omega)
      have ih:=ih (by omega)
      rw [List.range_succ,List.foldl_append]
      show slotAt (ageStep ((List.range j).foldl ageStep w) j) k e=_
      generalize (List.range j).foldl ageStep w=v at *
      have vl:v.Links.length=w.Links.length:=congrArg List.length i2.links
      have vA:=i1.a
      have vB:=i1.b
      unfold ageStep
      have e0:v.AtA.getD j default=slotAt v j 0:=rfl
      have e1:v.AtB.getD j default=slotAt v j 1:=rfl
      rw [e0,e1,slot_set (by simp [setSlot]; omega) (by simp [setSlot]; omega) (.inr rfl) he,slot_set (by omega) (by omega) (.inl rfl) he,ih j (by omega) 0 (.inl rfl),ih j (by omega) 1 (.inr rfl),ih k hk e he,if_neg (Nat.lt_irrefl _),if_neg (Nat.lt_irrefl _)]
      by_cases c:k=j
      · subst c
        rcases he with rfl | rfl
        · rw [if_neg (fun hh=>absurd hh.2 (by decide)),if_pos ⟨rfl,rfl⟩,if_pos (Nat.lt_succ_self _)]
        · rw [if_pos ⟨rfl,rfl⟩,if_pos (Nat.lt_succ_self _)]
      · rw [if_neg (fun hh=>c hh.1),if_neg (fun hh=>c hh.1)]
        by_cases c2:k<j
        · rw [if_pos c2,if_pos (by omega)]
        · rw [if_neg c2,if_neg (by omega)]
  have:=key _ (Nat.le_refl _) i hi e he
  rw [if_pos hi] at this
  exact this
theorem tick_nt {w:TreeWorld} (h:Good w):Nt w (ticked w)∧∀ i e,slotAt (ticked w) i e=slotAt (aged w) i e:=by
  obtain ⟨g,s⟩:=aged_good h
  have sa:Nt w (aged w):=⟨⟨g,⟨by rw [s.br],s.links⟩,s.down⟩,fun c=>by unfold upAt; rw [s.br],fun c=>by unfold idAt; rw [s.br]⟩
  have key:∀ j,j≤w.Bridges.length→Nt w ((List.range j).foldl thinks (aged w))∧∀ i e,slotAt ((List.range j).foldl thinks (aged w)) i e=slotAt (aged w) i e:=by
    intro j
    induction j with
    | zero=>exact fun _=>⟨sa,fun _ _=>rfl⟩
    | succ j ih =>
      intro hj
      obtain ⟨i1,i2⟩:=ih (by omega)
      rw [List.range_succ,List.foldl_append]
      exact ⟨i1.trans (nt_thinks i1.k.g (by rw [i1.k.s.n]; omega)),fun i e=>(slot_thinks _ _ _ _).trans (i2 i e)⟩
  exact key _ (Nat.le_refl _)
theorem tick_slot {w:TreeWorld} (h:Good w) {i:Nat} (hi:i<w.Links.length) {e:Int} (he:e=0 ∨ e=1):slotAt (ticked w) i e=older (slotAt w i e):=((tick_nt h).2 i e).trans (aged_slot h hi he)
structure Calm (T:Prop) (m:Int) (w v:TreeWorld):Prop where
  nt:Nt w v
  th:T→Th v
  rd:v.Radio=[]
  cl:∀ i e,i<w.Links.length→(e=0 ∨ e=1)→isOpen w i=false→(slotAt v i e).Left≤m
def Sl (φ:Nat→Int→TreeVector→Prop) (w v:TreeWorld):Prop:=∀ i e,i<w.Links.length→(e=0 ∨ e=1)→isOpen w i=true→φ i e (slotAt v i e).Vector
def Dn (φ:Nat→Int→TreeVector→Prop) (d:Nat→Int→Prop) (w v:TreeWorld):Prop:=∀ i e,i<w.Links.length→(e=0 ∨ e=1)→isOpen w i=true→d i e→φ i e (slotAt v i e).Vector∧(slotAt v i e).Left=3
def Says (T:Prop) (m:Int) (φ φ':Nat→Int→TreeVector→Prop) (w:TreeWorld):Prop:=∀ v,Calm T m w v→Sl φ w v→∀ k e,k<w.Links.length→(e=0 ∨ e=1)→isOpen w k=true→φ' k e (v.Bridges.getD (brAt v k (1 - e)).toNat default).Mind.Vector
theorem hear_slot {T:Prop} {m:Int} {w v:TreeWorld} (h:Calm T m w v) {k:Nat} {e:Int} (hk:k<w.Links.length) (he:e=0 ∨ e=1) (ho:isOpen w k=true) :
    wordOk v (wordFor v k e)=true∧∀ i e',(e'=0 ∨ e'=1)→slotAt (hear v (wordFor v k e)) i e'=if i=k∧e'=e then ⟨(v.Bridges.getD (brAt v k (1 - e)).toNat default).Mind.Vector,3⟩ else slotAt v i e':=by
  have g:=h.nt.k.g
  have hkv:k<v.Links.length:=by rw [h.nt.l]; exact hk
  have ov:isOpen v k=true:=by rw [h.nt.op]; exact ho
  refine ⟨wordFor_ok g hkv he (open_up ov _),fun i e' he'=>?_⟩
  have hd:hasI v.Down (k:Int)=false:=by
    unfold isOpen at ov
    simp only [Bool.and_eq_true,Bool.not_eq_true'] at ov
    exact ov.1.1
  have hA:=g.a
  have hB:=g.b
  unfold hear
  rw [if_neg (by
    rintro (c | c)
    · rw [show (wordFor v k e).Link=(k:Int) from rfl,hd] at c; exact absurd c (by decide)
    · rw [show (wordFor v k e).Link.toNat=k from Int.toNat_natCast k,show (wordFor v k e).End=e from rfl,open_up ov e] at c; exact absurd c (by decide))]
  rw [slot_thinks,show (wordFor v k e).Link.toNat=k from Int.toNat_natCast k]
  exact slot_set (by omega) (by omega) he he' _ i
theorem hear_dn {T:Prop} {m:Int} {w v:TreeWorld} {φ φ':Nat→Int→TreeVector→Prop} {d:Nat→Int→Prop} (hφ:∀ i e x,φ' i e x→φ i e x) (Hs:Says T m φ φ' w) (h:Calm T m w v) (hs:Sl φ w v) (hd:Dn φ' d w v) {k:Nat} {e:Int} (hk:k<w.Links.length) (he:e=0 ∨ e=1) (ho:isOpen w k=true) :
    Calm T m w (hear v (wordFor v k e))∧Sl φ w (hear v (wordFor v k e))∧Dn φ' (fun a b=>d a b ∨ (a=k∧b=e)) w (hear v (wordFor v k e)):=by
  obtain ⟨hx,sl⟩:=hear_slot h hk he ho
  have new:=Hs v h hs k e hk he ho
  refine ⟨⟨h.nt.trans (nt_hear h.nt.k.g hx),fun t=>th_hear h.nt.k.g (h.th t) hx,by rw [hear_radio]; exact h.rd,fun i e' hi he' hc=>?_⟩,fun i e' hi he' hc=>?_,fun i e' hi he' hc hdd=>?_⟩
  · rw [sl i e' he',if_neg (fun hh=>by rw [hh.1,ho] at hc; exact absurd hc (by decide))]
    exact h.cl i e' hi he' hc
  · rw [sl i e' he']
    split
    · rename_i hh
      rw [hh.1,hh.2]
      exact hφ _ _ _ new
    · exact hs i e' hi he' hc
  · rw [sl i e' he']
    split
    · rename_i hh
      rw [hh.1,hh.2]
      exact ⟨new,rfl⟩
    · rename_i hh
      exact hd i e' hi he' hc (hdd.resolve_right hh)
theorem linkR_dn {T:Prop} {m:Int} {w v:TreeWorld} {φ φ':Nat→Int→TreeVector→Prop} {d:Nat→Int→Prop} (hφ:∀ i e x,φ' i e x→φ i e x) (Hs:Says T m φ φ' w) (h:Calm T m w v) (hs:Sl φ w v) (hd:Dn φ' d w v) (t i:Nat) (hL:0<w.Links.length) :
    Calm T m w (linkR t v i)∧Sl φ w (linkR t v i)∧Dn φ' (fun a b=>d a b ∨ a=(i+t) % w.Links.length) w (linkR t v i):=by
  have hk:(i+t) % w.Links.length<w.Links.length:=Nat.mod_lt _ hL
  unfold linkR
  rw [h.nt.l,h.nt.op]
  generalize (i+t) % w.Links.length=k at *
  by_cases ho:isOpen w k=true
  · rw [if_pos ho]
    obtain ⟨a1,a2,a3⟩:=hear_dn hφ Hs h hs hd hk (.inl rfl) ho
    obtain ⟨b1,b2,b3⟩:=hear_dn hφ Hs a1 a2 a3 hk (.inr rfl) ho
    refine ⟨b1,b2,fun i e hi he hc hdd=>b3 i e hi he hc ?_⟩
    rcases hdd with hdd | hdd
    · exact .inl (.inl hdd)
    · rcases he with rfl | rfl
      · exact .inl (.inr ⟨hdd,rfl⟩)
      · exact .inr ⟨hdd,rfl⟩
  · rw [if_neg ho]
    refine ⟨h,hs,fun i e hi he hc hdd=>hd i e hi he hc (hdd.resolve_right fun hh=>?_)⟩
    rw [hh] at hc
    exact ho hc
theorem mod_onto {a t l:Nat} (ha:a<l):∃ i,i<l∧(i+t) % l=a:=by
  refine ⟨(a+(l - t % l)) % l,Nat.mod_lt _ (by omega),?_⟩
  have h1:=Nat.mod_lt t (show 0<l by omega)
  have h2:=Nat.mod_add_div t l
  rw [Nat.mod_add_mod,show a+(l - t % l)+t=a+l*(t / l+1) by rw [Nat.mul_add]; omega,Nat.add_mul_mod_self_left,Nat.mod_eq_of_lt ha]
theorem links_dn {T:Prop} {m:Int} {w v:TreeWorld} {φ φ':Nat→Int→TreeVector→Prop} (hφ:∀ i e x,φ' i e x→φ i e x) (Hs:Says T m φ φ' w) (h:Calm T m w v) (hs:Sl φ w v) (t:Nat) :
    Calm T m w ((List.range w.Links.length).foldl (linkR t) v)∧Dn φ' (fun _ _=>True) w ((List.range w.Links.length).foldl (linkR t) v):=by
  have key:∀ j,j≤w.Links.length→Calm T m w ((List.range j).foldl (linkR t) v)∧Sl φ w ((List.range j).foldl (linkR t) v)∧Dn φ' (fun a _=>∃ i,i<j∧a=(i+t) % w.Links.length) w ((List.range j).foldl (linkR t) v):=by
    intro j
    induction j with
    | zero=>exact fun _=>⟨h,hs,fun i e hi he hc hdd=>by obtain ⟨x,hx,_⟩:=hdd; exact absurd hx (Nat.not_lt_zero _)⟩
    | succ j ih =>
      intro hj
      obtain ⟨i1,i2,i3⟩:=ih (by omega)
      rw [List.range_succ,List.foldl_append]
      obtain ⟨k1,k2,k3⟩:=linkR_dn hφ Hs i1 i2 i3 t j (by omega)
      refine ⟨k1,k2,fun i e hi he hc hdd=>k3 i e hi he hc ?_⟩
      obtain ⟨x,hx,hxe⟩:=hdd
      by_cases c:x=j
      · exact .inr (c ▸ hxe)
      · exact .inl ⟨x,by omega,hxe⟩
  obtain ⟨k1,_,k3⟩:=key _ (Nat.le_refl _)
  refine ⟨k1,fun i e hi he hc _=>k3 i e hi he hc ?_⟩
  obtain ⟨x,hx,hxe⟩:=mod_onto (t:=t) hi
  exact ⟨x,hx,hxe.symm⟩
theorem older_left {s:TreeSlot} {m:Int} (h:s.Left≤m) (hm:0≤m):(older s).Left≤m - 1 ∨ ((older s).Left≤0):=by
  unfold older
  split
  · exact .inr (Int.le_refl _)
  · exact .inl (by dsimp only; omega)
theorem round_dn {T:Prop} {m m':Int} {w v:TreeWorld} {φ φ':Nat→Int→TreeVector→Prop} (hφ:∀ i e x,φ' i e x→φ i e x) (Hs:Says T m φ φ' w) (hm:0≤m') (hmm:m≤m'+1) (h:Calm T m w (drain v)) (hs:Sl φ w (drain v)) (t:Nat) :
    Calm True m' w (roundR t v)∧Sl φ' w (roundR t v):=by
  obtain ⟨k1,k2⟩:=links_dn hφ Hs h hs t
  unfold roundR
  have e:v.Links.length=w.Links.length:=by
    have h1:(drain v).Links.length=w.Links.length:=h.nt.l
    have h2:(drain v).Links=v.Links:=by
      have key:∀ j,((List.range j).foldl drainStep v).Links=v.Links:=by
        intro j
        induction j with
        | zero=>rfl
        | succ j ih=>rw [List.range_succ,List.foldl_append]; exact same_words.links.trans ih
      exact key _
    rw [h2] at h1; exact h1
  rw [e]
  generalize (List.range w.Links.length).foldl (linkR t) (drain v)=u at *
  have g:=k1.nt.k.g
  obtain ⟨t1,_⟩:=tick_nt g
  have ul:=k1.nt.l
  refine ⟨⟨k1.nt.trans t1,fun _=>th_tick g,by rw [tick_sh g]; exact k1.rd,fun i e' hi he' hc=>?_⟩,fun i e' hi he' hc=>?_⟩
  · rw [tick_slot g (by omega) he']
    have:=older_left (m:=max m 0) (Int.le_trans (k1.cl i e' hi he' hc) (by omega)) (by omega)
    omega
  · obtain ⟨d1,d2⟩:=k2 i e' hi he' hc trivial
    rw [tick_slot g (by omega) he']
    unfold older
    rw [if_neg (by omega)]
    exact d1
theorem drain_nil {v:TreeWorld} (h:v.Radio=[]):drain v=v:=by unfold drain; rw [h]; rfl
theorem says_any {T:Prop} {m:Int} {w:TreeWorld}:Says T m (fun _ _ _=>True) (fun _ _ _=>True) w:=fun _ _ _ _ _ _ _ _=>trivial
theorem sl_any {w v:TreeWorld}:Sl (fun _ _ _=>True) w v:=fun _ _ _ _ _=>trivial
theorem three {w v:TreeWorld} (h:Nt w v) (t:Nat):Calm True 0 w (itN (roundR t) 3 v):=by
  have g:=h.k.g
  obtain ⟨n0,r0⟩:=nt_drain g
  have c0:Calm False 3 w (drain v):=⟨h.trans n0,False.elim,r0,fun i e hi he _=>by
    have:=slotLeft (n0.k.g.wok.slot (i:=i) (by rw [n0.l,h.l]; exact hi) e)
    omega⟩
  have c1:=(round_dn (m':=2) (fun _ _ _ h=>h) says_any (by decide) (by decide) c0 sl_any t).1
  have c2:=(round_dn (m:=2) (m':=1) (fun _ _ _ h=>h) says_any (by decide) (by decide) (by rw [drain_nil c1.rd]; exact c1) sl_any t).1
  exact (round_dn (m:=1) (m':=0) (fun _ _ _ h=>h) says_any (by decide) (by decide) (v:=roundR t (roundR t v)) (by rw [drain_nil c2.rd]; exact c2) sl_any t).1
theorem rounds_dn {w v:TreeWorld} (φ:Nat→Nat→Int→TreeVector→Prop) (hφ:∀ j i e x,φ (j+1) i e x→φ j i e x) (Hs:∀ j,Says True 0 (φ j) (φ (j+1)) w) (h:Calm True 0 w v) (hs:Sl (φ 0) w v) (t:Nat):∀ n,Calm True 0 w (itN (roundR t) n v)∧Sl (φ n) w (itN (roundR t) n v)
  | 0=>⟨h,hs⟩
  | n+1=>by
    obtain ⟨i1,i2⟩:=rounds_dn φ hφ Hs h hs t n
    exact round_dn (hφ n) (Hs n) (by decide) (by decide) (by rw [drain_nil i1.rd]; exact i1) (by rw [drain_nil i1.rd]; exact i2) t
end Go.Proofs.YtejhbiefhpgjeaaGreat
