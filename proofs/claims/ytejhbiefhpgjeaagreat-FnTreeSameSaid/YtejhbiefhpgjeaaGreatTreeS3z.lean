/-
  Plain Lean: links cut and mended, words said; a whole step, a calm round, calm: they leave a world ok.
-/
import Derived.Test.YtejhbiefhpgjeaaGreatKz5
import Derived.Test.YtejhbiefhpgjeaaGreatTreeS2z
import Derived.Test.YtejhbiefhpgjeaaGreatPoBz
set_option linter.all false
namespace Go.Proofs.YtejhbiefhpgjeaaGreat
open Go Go.Ab
set_option maxHeartbeats 400000
theorem mem_hasI {xs:List Int} {a:Int}:hasI xs a=true ↔ a ∈ xs:=by
  constructor
  · intro h;refine Classical.byContradiction fun hn=>?_;have:allR xs.length (fun i=>!(xs.getD i default == a))=true:=allR_of fun i hi=>by
      rw [Bool.not_eq_true',beq_eq_false_iff_ne];exact fun e=>hn (e ▸ getD_mem hi)
    unfold hasI hasR at h;rw [this] at h;exact absurd h (by decide)
  · intro h;obtain ⟨i,hi,e⟩:=List.getElem_of_mem h;have:allR xs.length (fun i=>!(xs.getD i default == a))=false:=allR_false hi (by
      rw [List.getD_eq_getElem?_getD,List.getElem?_eq_getElem hi];simp [e])
    unfold hasI hasR;rw [this]; rfl
theorem downs_pw {w:TreeWorld} (h:∀ i,i < w.Down.length→downAt w i=true):w.Down.Pairwise (· < ·)∧∀ x ∈ w.Down,0≤x∧x≤(w.Links.length:Int) - 1:=by
  refine ⟨?_,mem_getD (p:=fun x=>0≤x∧x≤(w.Links.length:Int) - 1) fun i hi=>(downAt_iff.1 (h i hi)).1⟩;have key:∀ d i,i+d+1 < w.Down.length→w.Down.getD i default < w.Down.getD (i+d+1) default:=by
    intro d
    induction d with
    | zero =>
      intro i hi;have:=(downAt_iff.1 (h (i+1) hi)).2 (by omega);simpa using this
    | succ d ih =>
      intro i hi;have h1:=ih i (by omega);have h2:=(downAt_iff.1 (h (i+d+1+1) (by omega))).2 (by omega);rw [Nat.add_sub_cancel] at h2;exact Int.lt_trans h1 h2
  refine List.pairwise_iff_getElem.2 fun i j hi hj hij=>?_;have:=key (j - i - 1) i (by omega);rw [show i+(j - i - 1)+1=j by omega,List.getD_eq_getElem?_getD,List.getD_eq_getElem?_getD,List.getElem?_eq_getElem hi,List.getElem?_eq_getElem hj] at this;exact this
theorem downs_of {w:TreeWorld} (h1:w.Down.Pairwise (· < ·)) (h2:∀ x ∈ w.Down,0≤x∧x≤(w.Links.length:Int) - 1) {i:Nat} (hi:i < w.Down.length):downAt w i=true:=by
  refine downAt_iff.2 ⟨h2 _ (getD_mem hi),fun h0=>?_⟩;have:=List.pairwise_iff_getElem.1 h1 (i - 1) i (by omega) hi (by omega);rw [List.getD_eq_getElem?_getD,List.getD_eq_getElem?_getD,List.getElem?_eq_getElem hi,List.getElem?_eq_getElem (by omega:i - 1 < w.Down.length)];exact this
def downL (xs:List Int) (a:Int):List Int:=xs.takeWhile (fun x=>decide (x < a))
def downR (xs:List Int) (a:Int):List Int:=xs.dropWhile (fun x=>decide (x < a))
def downN (xs:List Int) (a:Int) (k:Int):List Int:=(downL xs a ++ if k=8 then [a] else []) ++ (downR xs a).filter (fun x=>x != a)
theorem downLR (xs:List Int) (a:Int):downL xs a ++ downR xs a=xs:=List.takeWhile_append_dropWhile
theorem downs_left {xs:List Int} {a:Int} {k:Nat} (hk:k < (downL xs a).length):xs[k]?=(downL xs a)[k]? :=
  calc xs[k]?=(downL xs a ++ downR xs a)[k]?:=by rw [downLR]
    _=(downL xs a)[k]?:=List.getElem?_append_left hk
theorem downs_take (xs:List Int) (a:Int):xs.take (downL xs a).length=downL xs a :=
  calc xs.take (downL xs a).length=(downL xs a ++ downR xs a).take (downL xs a).length:=by rw [downLR]
    _=downL xs a:=List.take_left
theorem downs_right (xs:List Int) (a:Int) (k:Nat):xs.getD ((downL xs a).length+k) default=(downR xs a).getD k default:=by
  have:xs[(downL xs a).length+k]?=(downR xs a)[k]? :=
    calc xs[(downL xs a).length+k]?=(downL xs a ++ downR xs a)[(downL xs a).length+k]?:=by rw [downLR]
      _=(downR xs a)[k]?:=by rw [List.getElem?_append_right (by omega),Nat.add_sub_cancel_left]
  rw [List.getD_eq_getElem?_getD,List.getD_eq_getElem?_getD,this]
theorem downL_lt {xs:List Int} {a:Int}:∀ x ∈ downL xs a,x < a:=by
  induction xs with
  | nil=>intro x hx; exact absurd hx (by simp [downL])
  | cons y ys ih =>
    intro x hx;unfold downL at hx ih;rw [List.takeWhile_cons] at hx;split at hx
    · rename_i hy;rcases List.mem_cons.1 hx with rfl | hx
      · simpa using hy
      · exact ih x hx
    · exact absurd hx (by simp)
theorem downR_ge {xs:List Int} {a:Int} (h:xs.Pairwise (· < ·)):∀ x ∈ downR xs a,a≤x:=by
  induction xs with
  | nil=>intro x hx; exact absurd hx (by simp [downR])
  | cons y ys ih =>
    intro x hx;rw [List.pairwise_cons] at h;unfold downR at hx ih;rw [List.dropWhile_cons] at hx;split at hx
    · exact ih h.2 x hx
    · rename_i hy;have hy:¬ y < a:=by simpa using hy
      rcases List.mem_cons.1 hx with rfl | hx
      · omega
      · have:=h.1 x hx; omega
theorem downN_mem {xs:List Int} {a k x:Int} (h:x ∈ downN xs a k):(k=8∧x=a) ∨ (x ∈ xs∧(x < a ∨ x ≠ a)):=by
  unfold downN at h;rcases List.mem_append.1 h with h | h
  · rcases List.mem_append.1 h with h | h
    · exact .inr ⟨by rw [← downLR xs a]; exact List.mem_append_left _ h,.inl (downL_lt x h)⟩
    · split at h
      · rename_i hk; exact .inl ⟨hk,List.mem_singleton.1 h⟩
      · exact absurd h (by simp)
  · rw [List.mem_filter] at h;exact .inr ⟨by rw [← downLR xs a]; exact List.mem_append_right _ h.1,.inr (by simpa using h.2)⟩
theorem downN_pw {xs:List Int} {a k:Int} (h:xs.Pairwise (· < ·)):(downN xs a k).Pairwise (· < ·):=by
  have hx:=h;rw [← downLR xs a,List.pairwise_append] at hx;unfold downN;have gr:∀ x ∈ (downR xs a).filter (fun x=>x != a),a < x:=fun x hx=>by
    rw [List.mem_filter] at hx;have h1:=downR_ge h x hx.1;have h2:x ≠ a:=by simpa using hx.2
    omega
  refine List.pairwise_append.2 ⟨List.pairwise_append.2 ⟨hx.1,by split <;> simp,fun x hxl y hy=>?_⟩,hx.2.1.filter _,fun x hxl y hy=>?_⟩
  · split at hy
    · rw [List.mem_singleton.1 hy]; exact downL_lt x hxl
    · exact absurd hy (by simp)
  · have hy':=gr y hy;rcases List.mem_append.1 hxl with hxl | hxl
    · have:=downL_lt x hxl; omega
    · split at hxl
      · rw [List.mem_singleton.1 hxl]; exact hy'
      · exact absurd hxl (by simp)
def setDown (w:TreeWorld) (d:List Int):TreeWorld:={ w with Down:=d }
theorem good_setDown {w:TreeWorld} (h:Good w) {d:List Int} (h1:d.Pairwise (· < ·)) (h2:∀ x ∈ d,0≤x∧x≤(w.Links.length:Int) - 1)
    (h3:∀ i:Nat,i < w.Links.length→(i:Int) ∈ d→(i:Int) ∈ w.Down ∨ (w.AtA.getD i default=noSlot∧w.AtB.getD i default=noSlot)):Good (setDown w d):=by
  refine ⟨h.link,h.br,h.a,h.b,h.rl,fun i hi=>downs_of (w:=setDown w d) h1 h2 hi,h.radio,fun i hi=>?_⟩;have he:=h.ends i hi
  by_cases hd:(i:Int) ∈ d
  · rcases h3 i hi hd with hm | ⟨ha,hb⟩
    · have hw:hasI w.Down i=true:=mem_hasI.2 hm;unfold endsOk endOk at he ⊢;rw [hw] at he;simp only [Bool.not_true,Bool.false_and,Bool.or_false,Bool.and_eq_true] at he;rw [Bool.and_eq_true,Bool.and_eq_true,Bool.and_eq_true];exact ⟨⟨he.1.1,by rw [show nothing ((setDown w d).AtA.getD i default).Vector=true from he.1.2]; rfl⟩,⟨he.2.1,by rw [show nothing ((setDown w d).AtB.getD i default).Vector=true from he.2.2]; rfl⟩⟩
    · unfold endsOk;rw [show (setDown w d).AtA.getD i default=noSlot from ha,show (setDown w d).AtB.getD i default=noSlot from hb]
      rfl
  · have hn:hasI d i=false:=Bool.eq_false_iff.2 fun e=>hd (mem_hasI.1 e);unfold endsOk endOk at he ⊢;rw [Bool.and_eq_true,Bool.and_eq_true,Bool.and_eq_true,Bool.or_eq_true,Bool.or_eq_true,Bool.and_eq_true,Bool.and_eq_true] at he ⊢;show ((_∧(_ ∨ (!hasI d i)=true∧_))∧(_∧(_ ∨ (!hasI d i)=true∧_)));rw [hn];exact ⟨⟨he.1.1,he.1.2.imp id fun h=>⟨rfl,h.2⟩⟩,⟨he.2.1,he.2.2.imp id fun h=>⟨rfl,h.2⟩⟩⟩
def forget (w:TreeWorld) (a:Nat) (e:Int):TreeWorld:=thinks (setSlot w a e noSlot) (brAt w a e).toNat
def linkEv (w:TreeWorld) (e:TreeEvent):TreeWorld :=
  if inR e.At 0 ((w.Links.length:Int) - 1)=true then
    if e.Kind=8 then forget (forget (setDown w (downN w.Down e.At e.Kind)) e.At.toNat 0) e.At.toNat 1 else setDown w (downN w.Down e.At e.Kind)
  else w
theorem wok_slot {w:TreeWorld} (h:WOk w) {i:Nat} (hi:i < w.Links.length) {e:Int}:WOk (setSlot w i e noSlot):=by
  have ha:=h.a;have hb:=h.b;unfold setSlot;split
  · refine ⟨h.l,h.link,by simp [h.a],h.b,fun k hk=>⟨?_,(h.slots k hk).2⟩,h.br⟩;rw [getD_setS (by omega)];split
    · rfl
    · exact (h.slots k hk).1
  · refine ⟨h.l,h.link,h.a,by simp [h.b],fun k hk=>⟨(h.slots k hk).1,?_⟩,h.br⟩;rw [getD_setS (by omega)];split
    · rfl
    · exact (h.slots k hk).2
theorem cut_good {w:TreeWorld} (h:Good w) {a:Nat} (ha:a < w.Links.length) {d:List Int} (h1:d.Pairwise (· < ·)) (h2:∀ x ∈ d,0≤x∧x≤(w.Links.length:Int) - 1) (h3:∀ x ∈ d,x=(a:Int) ∨ x ∈ w.Down) :
    WOk (setSlot (setDown w d) a 0 noSlot)∧Good (setSlot (forget (setDown w d) a 0) a 1 noSlot):=by
  have hl:=linkAt h.link ha;have wk:WOk (setDown w d):=⟨h.wok.l,h.link,h.a,h.b,h.wok.slots,h.br⟩;have wk1:WOk (setSlot (setDown w d) a 0 noSlot):=wok_slot wk ha;refine ⟨wk1,?_⟩;have g1:=good_setSlot (e:=0) h ha (empty_end _ _ _);have g2:=good_setSlot (e:=1) g1 (i:=a) (by exact ha) (s:=noSlot) (empty_end _ _ _);have hA:=h.a;have hB:=h.b;have g3:Good (setDown (setSlot (setSlot w a 0 noSlot) a 1 noSlot) d):=good_setDown g2 h1 h2 fun i hi hm=>by
    by_cases e:i=a
    · subst e
      right
      refine ⟨?_,?_⟩
      · show (w.AtA.set i noSlot).getD i default=noSlot;exact getD_set (by omega)
      · show (w.AtB.set i noSlot).getD i default=noSlot;exact getD_set (by omega)
    · rcases h3 _ hm with e' | hm
      · exact absurd (Int.ofNat.inj e') e
      · exact .inl hm
  have hbr:0≤brAt (setDown w d) a 0∧brAt (setDown w d) a 0 < w.Bridges.length:=by
    have:brAt (setDown w d) a 0=(w.Links.getD a default).A:=rfl;omega
  unfold forget thinks;split
  · rename_i hu;have:=good_mind g3 (b:=(brAt (setDown w d) a 0).toNat) (show _ < w.Bridges.length by omega) hu (m:=think (setSlot (setDown w d) a 0 noSlot) ((brAt (setDown w d) a 0).toNat:Nat)) (think_ok wk1 (show 0≤_∧_ < (w.Bridges.length:Int) by omega));exact this
  · exact g3
theorem linkEv_good {w:TreeWorld} (h:Good w) (e:TreeEvent):Good (linkEv w e)∧Same w (linkEv w e):=by
  unfold linkEv;split
  · rename_i hi;rw [inR_iff] at hi;have ha:e.At.toNat < w.Links.length:=by omega
    have ea:((e.At.toNat:Nat):Int)=e.At:=by omega
    obtain ⟨p1,p2⟩:=downs_pw h.down;have n1:=downN_pw (a:=e.At) (k:=e.Kind) p1;have n2:∀ x ∈ downN w.Down e.At e.Kind,0≤x∧x≤(w.Links.length:Int) - 1:=fun x hx=>by
      rcases downN_mem hx with ⟨_,rfl⟩ | ⟨hx,_⟩
      · exact hi
      · exact p2 x hx
    have hl:=linkAt h.link ha;split
    · obtain ⟨c1,c2⟩:=cut_good h ha n1 n2 (fun x hx=>by
        rcases downN_mem hx with ⟨_,rfl⟩ | ⟨hx,_⟩
        · exact .inl ea.symm
        · exact .inr hx)
      have s0:Same w (setDown w (downN w.Down e.At e.Kind)):=⟨rfl,rfl⟩;have s1:Same w (forget (setDown w (downN w.Down e.At e.Kind)) e.At.toNat 0):=(s0.trans same_setSlot).trans same_thinks;refine ⟨good_thinks c2 ?_,(s1.trans same_setSlot).trans same_thinks⟩;rw [same_setSlot.n,s1.n];have:brAt (forget (setDown w (downN w.Down e.At e.Kind)) e.At.toNat 0) e.At.toNat 1=(w.Links.getD e.At.toNat default).B:=by
        unfold brAt;rw [if_neg (by decide),s1.links]
      omega
    · rename_i hk;refine ⟨good_setDown h n1 n2 fun i hi hm=>?_,⟨rfl,rfl⟩⟩;rcases downN_mem hm with ⟨h8,_⟩ | ⟨hx,_⟩
      · exact absurd h8 hk
      · exact .inl hx
  · exact ⟨h,.refl _⟩
theorem forget_p {w:TreeWorld} (h:WOk w) {a:Nat} (ha:a < w.Links.length) {e:Int} (he:e=0 ∨ e=1) (hw:WOk (setSlot w a e noSlot)):spec_l83Forget_m w (a:Int) e=some (forget w a e):=by
  have hA:=h.a;have hB:=h.b;have hl:=linkAt h.link ha;have hbr:0≤brAt w a e∧brAt w a e < w.Bridges.length:=by unfold brAt; split <;> omega
  have tp:=thinks_q hw (b:=(brAt w a e).toNat) (by rw [same_setSlot.n]; omega);have eb:(((brAt w a e).toNat:Nat):Int)=brAt w a e:=by omega
  rw [eb] at tp;unfold spec_l83Forget_m forget spec_l83End_m;rcases he with rfl | rfl
  · rw [if_pos (by decide),gd_pos (by omega),bd_val,if_pos (by decide),gd_pos (by dsimp only; omega),bd_val,Int.toNat_natCast];exact (bd_of tp).trans rfl
  · rw [if_neg (by decide),gd_pos (by omega),bd_val,if_neg (by decide),gd_pos (by dsimp only; omega),bd_val,Int.toNat_natCast];exact (bd_of tp).trans rfl
theorem forget3_p (w:TreeWorld) (a e:Int):spec_l83Forget_o03_04_m w a e=spec_l83Forget_m w a e:=rfl
theorem link_p {w:TreeWorld} (h:Good w) (e:TreeEvent):spec_l83Link_m w e=some (linkEv w e):=by
  have h12:=h.l12;have hd12:=h.d12;unfold spec_l83Link_m linkEv;rw [wrap_i64 (by omega) (by omega),l81In_p,bd_val]
  cases hi:inR e.At 0 ((w.Links.length:Int) - 1)
  · rfl
  · have hi':=inR_iff.1 hi;rw [if_neg (by decide),if_pos rfl];have hLR:(downL w.Down e.At).length+(downR w.Down e.At).length=w.Down.length:=by
      have:=congrArg List.length (downLR w.Down e.At);rw [List.length_append] at this;exact this
    have getL:∀ k,k < (downL w.Down e.At).length→w.Down[k]?=(downL w.Down e.At)[k]?:=fun k hk=>downs_left hk;have takeL:w.Down.take (downL w.Down e.At).length=downL w.Down e.At:=downs_take _ _;have loop1:=lp_at (σ:=List Int × Int) (β:=Nat × Int × List Int) (step:=(fun s2 =>
      gd ((decide (s2.2 < ((w.Down.length:Nat):Int)))=true→((0:Int)≤s2.2∧s2.2 < ((w.Down.length:Nat):Int))) <|
      (if ((decide (s2.2 < ((w.Down.length:Nat):Int))) && (decide ((w.Down.getD s2.2.toNat default) < e.At)))=true then
      gd ((0:Int)≤s2.2∧s2.2 < ((w.Down.length:Nat):Int)) <|
      gd (((s2.1.length)+(([(w.Down.getD s2.2.toNat default)]:List Int).length))*(8+1)≤70368744177664) <|
      some (.inl ((s2.1 ++ ([(w.Down.getD s2.2.toNat default)]:List Int)),IntKind.i64.wrap (s2.2+1)))
      else
      some (.inr (s2.1.length,s2.2,s2.1))))) (downL w.Down e.At).length (fun k=>(w.Down.take k,(k:Int))) ((downL w.Down e.At).length,((downL w.Down e.At).length:Int),downL w.Down e.At) (fun k hk=>by
        have e1:=getL k hk;have hlt:w.Down.getD k default < e.At:=by
          rw [List.getD_eq_getElem?_getD,e1,List.getElem?_eq_getElem hk];exact downL_lt _ (List.getElem_mem hk)
        dsimp only;rw [gd_pos (fun _=>by omega),Int.toNat_natCast,if_pos (by simp only [Bool.and_eq_true,decide_eq_true_eq]; exact ⟨by omega,hlt⟩),gd_pos (by omega),gd_pos (by simp; omega),wrap_succ (n:=w.Down.length) (by omega) (by omega),List.take_succ,List.getElem?_eq_getElem (by omega:k < w.Down.length),List.getD_eq_getElem?_getD,List.getElem?_eq_getElem (by omega:k < w.Down.length)]
        rfl) (by
        dsimp only;rw [gd_pos (fun _=>by simp at *; omega),takeL,if_neg];rw [Int.toNat_natCast];simp only [Bool.and_eq_true,decide_eq_true_eq];rintro ⟨c1,c2⟩;have hR:0 < (downR w.Down e.At).length:=by omega
        have hg:w.Down.getD (downL w.Down e.At).length default=(downR w.Down e.At).getD 0 default:=downs_right w.Down e.At 0;rw [hg] at c2;have:=downR_ge (a:=e.At) (downs_pw h.down).1 _ (getD_mem hR);omega)
    refine (bd_of loop1).trans ?_;dsimp only;have mid:((if (e.Kind == 8)=true then
      gd (((downL w.Down e.At).length+(([e.At]:List Int).length))*(8+1)≤70368744177664) <|
      some (downL w.Down e.At ++ ([e.At]:List Int))
      else
      some (downL w.Down e.At)):Option (List Int))=some (downL w.Down e.At ++ if e.Kind=8 then [e.At] else []):=by
      by_cases h8:e.Kind=8
      · rw [if_pos (by simpa using h8),if_pos h8,gd_pos (by simp; omega)]
      · rw [if_neg (by simpa using h8),if_neg h8,List.append_nil]
    rw [mid,bd_val];have hml:(downL w.Down e.At ++ if e.Kind=8 then [e.At] else []).length≤13:=by
      rw [List.length_append];split <;> simp <;> omega
    generalize hM:(downL w.Down e.At ++ if e.Kind=8 then [e.At] else [])=M at *;have loop2:=lp_at (σ:=List Int × Int) (β:=Nat × List Int) (step:=(fun s14 =>
      (if (decide (s14.2 < ((w.Down.length:Nat):Int)))=true then
      gd ((0:Int)≤s14.2∧s14.2 < ((w.Down.length:Nat):Int)) <|
      (if ((w.Down.getD s14.2.toNat default) != e.At)=true then
      gd ((0:Int)≤s14.2∧s14.2 < ((w.Down.length:Nat):Int)) <|
      gd (((s14.1.length)+(([(w.Down.getD s14.2.toNat default)]:List Int).length))*(8+1)≤70368744177664) <|
      some (.inl ((s14.1 ++ ([(w.Down.getD s14.2.toNat default)]:List Int)),IntKind.i64.wrap (s14.2+1)))
      else
      some (.inl (s14.1,IntKind.i64.wrap (s14.2+1))))
      else
      some (.inr (s14.1.length,s14.1))))) (downR w.Down e.At).length (fun j=>(M ++ ((downR w.Down e.At).take j).filter (fun x=>x != e.At),(((downL w.Down e.At).length+j:Nat):Int))) ((M ++ (downR w.Down e.At).filter (fun x=>x != e.At)).length,M ++ (downR w.Down e.At).filter (fun x=>x != e.At)) (fun j hj=>by
        have hfl:(((downR w.Down e.At).take j).filter (fun x=>x != e.At)).length≤j:=Nat.le_trans (List.length_filter_le _ _) (by simp; omega);have hg:w.Down.getD ((downL w.Down e.At).length+j) default=(downR w.Down e.At).getD j default:=downs_right w.Down e.At j;have ht:(downR w.Down e.At).take (j+1)=(downR w.Down e.At).take j ++ [(downR w.Down e.At).getD j default]:=by
          rw [List.take_succ,List.getD_eq_getElem?_getD,List.getElem?_eq_getElem hj]; rfl
        dsimp only;rw [if_pos (by simp; omega),gd_pos (by omega),Int.toNat_natCast,hg,ht,List.filter_append,wrap_i64 (by omega) (by omega)];have ei:(((downL w.Down e.At).length+j:Nat):Int)+1=(((downL w.Down e.At).length+(j+1):Nat):Int):=by omega
        rw [ei]
        by_cases c:((downR w.Down e.At).getD j default != e.At)=true
        · rw [if_pos c,gd_pos (by omega),gd_pos (by simp only [List.length_append,List.length_singleton]; omega),List.filter_cons,if_pos c,List.filter_nil,List.append_assoc]
        · rw [if_neg c,List.filter_cons,if_neg c,List.filter_nil,List.append_nil]) (by
        dsimp only;rw [if_neg (by simp; omega),List.take_length])
    have st0:(M ++ ((downR w.Down e.At).take 0).filter (fun x=>x != e.At),(((downL w.Down e.At).length+0:Nat):Int))=(M,((downL w.Down e.At).length:Int)):=by simp
    rw [st0] at loop2;refine (bd_of loop2).trans ?_;dsimp only;have hN:M ++ (downR w.Down e.At).filter (fun x=>x != e.At)=downN w.Down e.At e.Kind:=by rw [← hM]; rfl
    rw [hN]
    by_cases h8:e.Kind=8
    · rw [if_pos (by simpa using h8),if_pos h8,forget3_p];have ha:e.At.toNat < w.Links.length:=by omega
      have ea:((e.At.toNat:Nat):Int)=e.At:=by omega
      obtain ⟨p1,p2⟩:=downs_pw h.down;have n1:=downN_pw (a:=e.At) (k:=e.Kind) p1;have n2:∀ x ∈ downN w.Down e.At e.Kind,0≤x∧x≤(w.Links.length:Int) - 1:=fun x hx=>by
        rcases downN_mem hx with ⟨_,rfl⟩ | ⟨hx,_⟩
        · exact hi'
        · exact p2 x hx
      obtain ⟨c1,c2⟩:=cut_good h ha n1 n2 (fun x hx=>by
        rcases downN_mem hx with ⟨_,rfl⟩ | ⟨hx,_⟩
        · exact .inl ea.symm
        · exact .inr hx)
      have f1:=forget_p (w:=setDown w (downN w.Down e.At e.Kind)) ⟨h.wok.l,h.link,h.a,h.b,h.wok.slots,h.br⟩ ha (.inl rfl) c1;have s0:Same w (setDown w (downN w.Down e.At e.Kind)):=⟨rfl,rfl⟩;have s1:Same w (forget (setDown w (downN w.Down e.At e.Kind)) e.At.toNat 0):=(s0.trans same_setSlot).trans same_thinks;rw [ea] at f1;refine (bd_of f1).trans ?_;have wv:WOk (forget (setDown w (downN w.Down e.At e.Kind)) e.At.toNat 0):=by
        unfold forget;have lt:(brAt (setDown w (downN w.Down e.At e.Kind)) e.At.toNat 0).toNat < w.Bridges.length:=by
          have hl:=linkAt h.link ha;have:brAt (setDown w (downN w.Down e.At e.Kind)) e.At.toNat 0=(w.Links.getD e.At.toNat default).A:=rfl;omega
        have gb:=c2.br;refine ⟨by rw [same_thinks.links]; exact c1.l,by rw [same_thinks.n,same_thinks.links]; exact c1.link,?_,?_,?_,fun i hi=>?_⟩
        · rw [same_thinks.links];unfold thinks; split <;> exact c1.a
        · rw [same_thinks.links];unfold thinks; split <;> exact c1.b
        · intro i hi;rw [same_thinks.links] at hi;unfold thinks; split <;> exact c1.slots i hi
        · have:=gb i (by rw [same_setSlot.n]; exact hi);exact this
      have f2:=forget_p wv (a:=e.At.toNat) (by rw [s1.links]; exact ha) (.inr rfl) c2.wok;rw [ea] at f2;exact (bd_of f2).trans rfl
    · rw [if_neg (by simpa using h8),if_neg h8]
      rfl
end Go.Proofs.YtejhbiefhpgjeaaGreat
