/-
  Plain Lean: a whole step, a calm round, calm: they give a world that is ok.
-/
import Derived.Test.YtejhbiefhpgjeaaGreatKz5
import Derived.Test.YtejhbiefhpgjeaaGreatTreeS3z
set_option linter.all false
namespace Go.Proofs.YtejhbiefhpgjeaaGreat
open Go Go.Ab
set_option maxHeartbeats 400000
theorem brAt_in' {w:TreeWorld} (h:Good w) {i:Nat} (hi:i < w.Links.length) (e:Int):0≤brAt w i e∧brAt w i e < w.Bridges.length:=by
  have hl:=linkAt h.link hi;unfold brAt;split <;> omega
def wordFor (w:TreeWorld) (i:Nat) (e:Int):TreeWord:=⟨i,e,(w.Bridges.getD (brAt w i (1 - e)).toNat default).Mind.Vector⟩
theorem word_p {w:TreeWorld} (h:Good w) {i:Nat} (hi:i < w.Links.length) {e:Int} (he:e=0 ∨ e=1):spec_l83Word_m w (i:Int) e=some (wordFor w i e):=by
  have hb:=brAt_in' h hi (1 - e);unfold spec_l83Word_m spec_l83End_m wordFor;rw [wrap_i64 (n:=1 - e) (by omega) (by omega)];rcases he with rfl | rfl
  · rw [if_neg (by decide),gd_pos (by omega),bd_val,Int.toNat_natCast,gd_pos (show 0≤(w.Links.getD i default).B∧(w.Links.getD i default).B < (w.Bridges.length:Int) from hb)]
    rfl
  · rw [if_pos (by decide),gd_pos (by omega),bd_val,Int.toNat_natCast,gd_pos (show 0≤(w.Links.getD i default).A∧(w.Links.getD i default).A < (w.Bridges.length:Int) from hb)]
    rfl
theorem wordFor_ok {w:TreeWorld} (h:Good w) {i:Nat} (hi:i < w.Links.length) {e:Int} (he:e=0 ∨ e=1) (hu:upAt w (brAt w i (1 - e))=true):wordOk w (wordFor w i e)=true:=by
  have hb:=brAt_in' h hi (1 - e);have hm:=(bridge_iff.1 (h.br (brAt w i (1 - e)).toNat (by omega))).2.2;rw [if_pos (show (w.Bridges.getD (brAt w i (1 - e)).toNat default).Up=true from hu)] at hm;exact word_iff.2 ⟨⟨by show (0:Int)≤i; omega,by show (i:Int)≤_; omega⟩,by show 0≤e∧e≤1; omega,hm.1,hm.2.1⟩
theorem open_up {w:TreeWorld} {i:Nat} (h:isOpen w i=true) (e:Int):upAt w (brAt w i e)=true:=by
  unfold isOpen at h;rw [Bool.and_eq_true,Bool.and_eq_true] at h;unfold upAt brAt;split
  · exact h.1.2
  · exact h.2
def sayEv (w:TreeWorld) (e:TreeEvent):TreeWorld :=
  if (inR e.At 0 ((w.Links.length:Int) - 1)=true∧inR e.End 0 1=true)∧isOpen w e.At.toNat=true then putR w (wordFor w e.At.toNat e.End) else w
theorem say_p {w:TreeWorld} (h:Good w) (e:TreeEvent):spec_l83Say_m w e=some (sayEv w e)∧Good (sayEv w e)∧Same w (sayEv w e):=by
  have h12:=h.l12;have hd:=h.len.d;unfold spec_l83Say_m;rw [wrap_i64 (by omega) (by omega),l81In_p,bd_val,l81In_p,gcall_val,bd_val]
  by_cases c1:inR e.At 0 ((w.Links.length:Int) - 1)=true
  · have hi:=inR_iff.1 c1;have ha:e.At.toNat < w.Links.length:=by omega
    have ea:((e.At.toNat:Nat):Int)=e.At:=by omega
    by_cases c2:inR e.End 0 1=true
    · have he:=inR_iff.1 c2;have he':e.End=0 ∨ e.End=1:=by omega
      have ho:=specOpenL_p h.wok (by omega) ha;rw [ea] at ho;rw [c1,c2,ho]
      by_cases c3:isOpen w e.At.toNat=true
      · have ev:sayEv w e=putR w (wordFor w e.At.toNat e.End):=if_pos ⟨⟨c1,c2⟩,c3⟩;have wp:=word_p h ha he';rw [ea] at wp;have wo:=wordFor_ok h ha he' (open_up c3 _);rw [ev,c3];refine ⟨?_,good_put h wo,?_⟩
        · simp only [gcall_val,bd_val,Bool.not_true,if_true,Bool.or_self,Bool.false_eq_true,if_false];rw [wp,bd_val,put_p,bd_val]
        · unfold putR;split
          · exact ⟨rfl,rfl⟩
          · exact .refl _
      · have ev:sayEv w e=w:=if_neg fun h=>c3 h.2;have c3:isOpen w e.At.toNat=false:=by simpa using c3
        rw [ev,c3];exact ⟨by simp [gcall_val],h,.refl _⟩
    · have ev:sayEv w e=w:=if_neg fun h=>c2 h.1.2;have c2:inR e.End 0 1=false:=by simpa using c2
      rw [ev,c1,c2];exact ⟨by simp [gcall],h,.refl _⟩
  · have ev:sayEv w e=w:=if_neg fun h=>c1 h.1.1;have c1:inR e.At 0 ((w.Links.length:Int) - 1)=false:=by simpa using c1
    rw [ev,c1];exact ⟨by simp [gcall],h,.refl _⟩
def doEv (w:TreeWorld) (e:TreeEvent):TreeWorld :=
  if e.Kind=1 then sayEv w e else if e.Kind=2 ∨ e.Kind=3 ∨ e.Kind=4 then words w e else if e.Kind=5 then ticked w else if e.Kind=6 ∨ e.Kind=7 then bridgeEv w e else if e.Kind=8 ∨ e.Kind=9 then linkEv w e else w
theorem do_good {w:TreeWorld} (h:Good w) (e:TreeEvent):Good (doEv w e)∧Same w (doEv w e):=by
  unfold doEv;split
  · exact (say_p h e).2
  · split
    · exact ⟨good_words h e,same_words⟩
    · split
      · exact ⟨good_ticked h,same_ticked h⟩
      · split
        · exact ⟨good_bridgeEv h e,same_bridgeEv h e⟩
        · split
          · exact linkEv_good h e
          · exact ⟨h,.refl _⟩
theorem do_p {w:TreeWorld} (h:Good w) (e:TreeEvent):spec_l83Do_m w e=some (doEv w e):=by
  unfold spec_l83Do_m doEv
  by_cases k1:e.Kind=1
  · rw [if_pos (by simpa using k1),if_pos k1,(say_p h e).1,bd_val]
  · rw [if_neg (by simpa using k1),if_neg k1];have e2:((if (e.Kind == 2)=true then some (e.Kind == 2) else (if (e.Kind == 3)=true then some (e.Kind == 3) else some (e.Kind == 4))):Option Bool)=some (decide (e.Kind=2 ∨ e.Kind=3 ∨ e.Kind=4)):=by
      by_cases a:e.Kind=2
      · simp [a]
      · by_cases b:e.Kind=3
        · simp [b]
        · by_cases c:e.Kind=4
          · simp [c]
          · simp [a,b,c]
    rw [e2,bd_val]
    by_cases k2:e.Kind=2 ∨ e.Kind=3 ∨ e.Kind=4
    · rw [if_pos (by simpa using k2),if_pos k2,words_p h,bd_val]
    · rw [if_neg (by simpa using k2),if_neg k2]
      by_cases k5:e.Kind=5
      · rw [if_pos (by simpa using k5),if_pos k5,tick_p h,bd_val]
      · rw [if_neg (by simpa using k5),if_neg k5];have e6:((if (e.Kind == 6)=true then some (e.Kind == 6) else some (e.Kind == 7)):Option Bool)=some (decide (e.Kind=6 ∨ e.Kind=7)):=by
          by_cases a:e.Kind=6
          · simp [a]
          · by_cases b:e.Kind=7
            · simp [b]
            · simp [a,b]
        rw [e6,bd_val]
        by_cases k6:e.Kind=6 ∨ e.Kind=7
        · rw [if_pos (by simpa using k6),if_pos k6,bridge_p h,bd_val]
        · rw [if_neg (by simpa using k6),if_neg k6]
          by_cases k8:e.Kind=8
          · rw [if_pos (by simpa using k8),if_pos (by simpa using k8),if_pos (.inl k8),link_p h,bd_val]
          · rw [if_neg (by simpa using k8)]
            by_cases k9:e.Kind=9
            · rw [if_pos (by simpa using k9),if_pos (.inr k9),link_p h,bd_val]
            · rw [if_neg (by simpa using k9),if_neg (by omega)]
theorem copyA_p (w:TreeWorld):spec_l82Copy_o01f_02f_m w=spec_l82Copy_m w:=rfl
theorem copyB_p (w:TreeWorld):spec_l82Copy_o03_04_05_m w=spec_l82Copy_m w:=rfl
theorem Good.copy {w:TreeWorld} (h:Good w):spec_l82Copy_m w=some w:=copy_p ⟨by have:=h.len.b; omega,by have:=h.len.l; omega,by have:=h.len.d; omega,by have:=h.len.a; omega,by have:=h.len.z; omega,by have:=h.len.r; omega⟩
theorem step_post {w:TreeWorld} (h:Good w) (e:TreeEvent):Post (spec_TreeStep_m w e) fun v=>Good v∧Same w v:=by
  have hl:=h.len;obtain ⟨g,s⟩:=do_good h e;refine ⟨doEv w e,?_,g,s⟩;unfold spec_TreeStep_m;rw [specWorldOk_p (by have:=hl.b; omega) (by have:=hl.l; omega) (by have:=hl.d; omega) (by have:=hl.r; omega),bd_val,good_iff.2 h,if_neg (by decide),copyA_p,h.copy,bd_val,do_p h,bd_val,g.copy,bd_val]
theorem up_thinks {w:TreeWorld} {b:Nat} (hb:b < w.Bridges.length) (c:Int):upAt (thinks w b) c=upAt w c:=by
  unfold thinks;split
  · unfold upAt;rw [getD_setB hb];split
    · rename_i e; rw [e]
    · rfl
  · rfl
theorem up_slot {w:TreeWorld} {i:Nat} {e:Int} {s:TreeSlot} (c:Int):upAt (setSlot w i e s) c=upAt w c:=by
  unfold setSlot;split <;> rfl
theorem up_hear {w:TreeWorld} (h:Good w) {x:TreeWord} (hx:wordOk w x=true) (c:Int):upAt (hear w x) c=upAt w c:=by
  obtain ⟨h1,h2,_⟩:=word_iff.1 hx;have hb:=brAt_in' h (i:=x.Link.toNat) (by omega) x.End;unfold hear;split
  · rfl
  · rw [up_thinks (by rw [same_setSlot.n]; omega),up_slot]
theorem hear_radio {w:TreeWorld} {x:TreeWord}:(hear w x).Radio=w.Radio:=by
  unfold hear thinks setBr setSlot;split
  · rfl
  · split <;> split <;> rfl
theorem br_same {w v:TreeWorld} (h:Same w v) (i:Nat) (e:Int):brAt v i e=brAt w i e:=by unfold brAt; rw [h.links]
theorem round_post {w:TreeWorld} (h:Good w) {t:Int} (ht:0≤t∧t≤12):Post (spec_l83Round_o03_04_05_m w t) fun v=>Good v∧Same w v:=by
  have h12:=h.l12;unfold spec_l83Round_o03_04_05_m;refine .bd (Q:=fun x=>Good ⟨x.2.2.2.2.2.2.1,x.2.1,x.2.2.1,x.2.2.2.2.2.2.2.1,x.2.2.2.2.2.2.2.2.1,x.2.2.2.2.2.2.2.2.2⟩∧Same w ⟨x.2.2.2.2.2.2.1,x.2.1,x.2.2.1,x.2.2.2.2.2.2.2.1,x.2.2.2.2.2.2.2.2.1,x.2.2.2.2.2.2.2.2.2⟩) (.lp (fun s=>Good ⟨s.1,s.2.2.2.2.1,s.2.2.2.2.2,s.2.1,s.2.2.1,s.2.2.2.1⟩∧Same w ⟨s.1,s.2.2.2.2.1,s.2.2.2.2.2,s.2.1,s.2.2.1,s.2.2.2.1⟩) (fun s=>s.2.2.2.1.length) ⟨h,.refl _⟩ fun s ⟨g,sm⟩=>?_) fun x4 ⟨g4,s4⟩=>?_
  · refine .ite (fun c=>?_) fun c=>.ret ⟨g,sm⟩;simp only [decide_eq_true_eq] at c;have hx:(0:Nat) < s.2.2.2.1.length:=by omega
    rw [words4_p,words_p g,bd_val];refine .ret ⟨⟨good_words g _,sm.trans same_words⟩,?_⟩;show (words ⟨s.1,s.2.2.2.2.1,s.2.2.2.2.2,s.2.1,s.2.2.1,s.2.2.2.1⟩ ⟨2,0,0⟩).Radio.length < _;unfold words;rw [if_pos (inR_iff.2 ⟨Int.le_refl _,(show (0:Int)≤(s.2.2.2.1.length:Int) - 1 by omega)⟩),if_pos rfl,hear_radio];have:=outR_len (w:=⟨s.1,s.2.2.2.2.1,s.2.2.2.2.2,s.2.1,s.2.2.1,s.2.2.2.1⟩) (a:=0) hx;show (outR _ 0).Radio.length < s.2.2.2.1.length;rw [this];show s.2.2.2.1.length - 1 < _;omega
  · have hn:x4.2.1.length=w.Links.length:=congrArg List.length s4.links;refine .bd (Q:=fun x=>Good ⟨x.2.2.2.2.2.2.1,x.2.1,x.2.2.1,x.2.2.2.2.2.2.2.1,x.2.2.2.2.2.2.2.2.1,x.2.2.2.2.2.2.2.2.2⟩∧Same w ⟨x.2.2.2.2.2.2.1,x.2.1,x.2.2.1,x.2.2.2.2.2.2.2.1,x.2.2.2.2.2.2.2.2.1,x.2.2.2.2.2.2.2.2.2⟩) (.lp (fun s=>(Good ⟨s.1,s.2.2.2.2.1,s.2.2.2.2.2.1,s.2.1,s.2.2.1,s.2.2.2.1⟩∧Same w ⟨s.1,s.2.2.2.2.1,s.2.2.2.2.2.1,s.2.1,s.2.2.1,s.2.2.2.1⟩)∧0≤s.2.2.2.2.2.2∧s.2.2.2.2.2.2≤12) (fun s=>(12 - s.2.2.2.2.2.2).toNat) ⟨⟨g4,s4⟩,Int.le_refl _,(show (0:Int)≤12 by decide)⟩ fun s ⟨⟨g,sm⟩,i1,i2⟩=>?_) fun x10 ⟨g10,s10⟩=>?_
    · refine .ite (fun c=>?_) fun c=>.ret ⟨g,sm⟩;simp only [decide_eq_true_eq] at c;have hn':s.2.2.2.2.1.length=w.Links.length:=congrArg List.length sm.links;refine .gd (by omega) ?_;have wr:IntKind.i64.wrap (s.2.2.2.2.2.2+t)=s.2.2.2.2.2.2+t:=wrap_i64 (by omega) (by omega);have ws:IntKind.i64.wrap (s.2.2.2.2.2.2+1)=s.2.2.2.2.2.2+1:=wrap_i64 (by omega) (by omega);rw [wr,ws];have hk:0≤(s.2.2.2.2.2.2+t).tmod (x4.2.1.length:Nat)∧(s.2.2.2.2.2.2+t).tmod (x4.2.1.length:Nat) < (x4.2.1.length:Nat):=⟨Int.tmod_nonneg _ (by omega),Int.tmod_lt_of_pos _ (by omega)⟩;obtain ⟨k,ek⟩:∃ k:Nat,(s.2.2.2.2.2.2+t).tmod (x4.2.1.length:Nat)=(k:Int):=⟨_,(Int.toNat_of_nonneg hk.1).symm⟩;rw [ek] at hk ⊢;generalize hv:(⟨s.1,s.2.2.2.2.1,s.2.2.2.2.2.1,s.2.1,s.2.2.1,s.2.2.2.1⟩:TreeWorld)=v at *;have hl:v.Links.length=w.Links.length:=congrArg List.length sm.links;have hkl:k < v.Links.length:=by omega
      rw [specOpenL_p g.wok (by have:=g.len.d; omega) hkl,bd_val];refine .ite (fun ho=>?_) fun ho=>?_
      · have w1:=wordFor_ok g hkl (e:=0) (.inl rfl) (open_up ho _);have g1:=good_hear g w1;have sm1:Same v (hear v (wordFor v k 0)):=same_hear;have hkl1:k < (hear v (wordFor v k 0)).Links.length:=by rw [sm1.links]; exact hkl
        have w2:=wordFor_ok g1 hkl1 (e:=1) (.inr rfl) (by rw [up_hear g w1,br_same sm1]; exact open_up ho _);rw [word_p g hkl (.inl rfl),bd_val,hear4_p,hear_p g w1,bd_val,word_p g1 hkl1 (.inr rfl),bd_val,hear4_p,hear_p g1 w2,bd_val];exact .ret ⟨⟨⟨good_hear g1 w2,(sm.trans sm1).trans same_hear⟩,by dsimp only; omega,by dsimp only; omega⟩,by dsimp only; omega⟩
      · refine .ret ⟨⟨⟨?_,?_⟩,by dsimp only; omega,by dsimp only; omega⟩,by dsimp only; omega⟩
        · show Good ⟨s.1,s.2.2.2.2.1,s.2.2.2.2.2.1,s.2.1,s.2.2.1,s.2.2.2.1⟩;rw [hv]; exact g
        · show Same w ⟨s.1,s.2.2.2.2.1,s.2.2.2.2.2.1,s.2.1,s.2.2.1,s.2.2.2.1⟩;rw [hv]; exact sm
    · rw [tick4_p g10,bd_val];exact .ret ⟨good_ticked g10,s10.trans (same_ticked g10)⟩
theorem calm_post {w:TreeWorld} (h:Good w) {r t:Int} (ht:0≤t∧t≤1000000):Post (spec_TreeCalm_m w r t) fun v=>Good v∧Same w v:=by
  have hl:=h.len;have h12:=h.l12;unfold spec_TreeCalm_m;rw [specWorldOk_p (by have:=hl.b; omega) (by have:=hl.l; omega) (by have:=hl.d; omega) (by have:=hl.r; omega),bd_val,good_iff.2 h,if_neg (by decide),copyB_p,h.copy,bd_val];refine .bd (Q:=fun x=>0≤x∧x≤12) (.ite (fun c=>?_) fun _=>.ret ⟨Int.le_refl _,by decide⟩) fun x3 h3=>?_
  · simp only [Bool.and_eq_true,decide_eq_true_eq] at c;have:=Int.tmod_lt_of_pos t (b:=(w.Links.length:Int)) (by omega);exact .gd (by omega) (.ret ⟨Int.tmod_nonneg _ (by omega),by omega⟩)
  · refine .bd (Q:=fun x=>Good ⟨x.2.2.2.2.2.2.1,x.2.1,x.2.2.1,x.2.2.2.2.2.2.2.1,x.2.2.2.2.2.2.2.2.1,x.2.2.2.2.2.2.2.2.2⟩∧Same w ⟨x.2.2.2.2.2.2.1,x.2.1,x.2.2.1,x.2.2.2.2.2.2.2.1,x.2.2.2.2.2.2.2.2.1,x.2.2.2.2.2.2.2.2.2⟩) (.lp (fun s=>(Good ⟨s.1,s.2.2.2.2.1,s.2.2.2.2.2.1,s.2.1,s.2.2.1,s.2.2.2.1⟩∧Same w ⟨s.1,s.2.2.2.2.1,s.2.2.2.2.2.1,s.2.1,s.2.2.1,s.2.2.2.1⟩)∧0≤s.2.2.2.2.2.2∧s.2.2.2.2.2.2≤60) (fun s=>(60 - s.2.2.2.2.2.2).toNat) ⟨⟨h,.refl _⟩,Int.le_refl _,(show (0:Int)≤60 by decide)⟩ fun s ⟨⟨g,sm⟩,i1,i2⟩=>?_) fun x10 ⟨g10,s10⟩=>?_
    · refine .ite (fun c=>?_) fun c=>.ret ⟨g,sm⟩;simp only [Bool.and_eq_true,decide_eq_true_eq] at c;have ws:IntKind.i64.wrap (s.2.2.2.2.2.2+1)=s.2.2.2.2.2.2+1:=wrap_i64 (by omega) (by omega);rw [ws];refine .bd (round_post g h3) fun v ⟨gv,sv⟩=>.ret ⟨⟨⟨gv,sm.trans sv⟩,by dsimp only; omega,by dsimp only; omega⟩,by dsimp only; omega⟩
    · rw [g10.copy,bd_val];exact .ret ⟨g10,s10⟩
end Go.Proofs.YtejhbiefhpgjeaaGreat
