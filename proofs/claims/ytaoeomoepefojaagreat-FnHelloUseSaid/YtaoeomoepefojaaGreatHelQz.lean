/-
  Plain Lean: tables behind a change; what ends are ok, the program's and the reference's alike.
-/
import Derived.Test.YtaoeomoepefojaaGreatKz6
import Derived.Test.YtaoeomoepefojaaGreatHelPz
import Derived.Test.YtaoeomoepefojaaGreatPoBz
set_option linter.all false
namespace Go.Proofs.YtaoeomoepefojaaGreat
open Go Go.Ab
set_option maxHeartbeats 400000
set_option maxRecDepth 100000
theorem getD_mem {α:Type} [Inhabited α] {xs:List α} {i:Nat} (h:i < xs.length):xs.getD i default ∈ xs:=by
  rw [List.getD_eq_getElem?_getD,List.getElem?_eq_getElem h];exact List.getElem_mem h
theorem mem_getD {α:Type} [Inhabited α] {xs:List α} {x:α} (h:x ∈ xs):∃ i,i < xs.length∧xs.getD i default=x:=by
  obtain ⟨i,hi,e⟩:=List.getElem_of_mem h;exact ⟨i,hi,by rw [List.getD_eq_getElem?_getD,List.getElem?_eq_getElem hi]; exact e⟩
theorem half_p {a:Int} (h0:0≤a) (h1:a≤4611686018427387904):IntKind.i64.wrap ((IntKind.u64.wrap (IntKind.i64.wrap a):Int).fdiv (2 ^ min (1:Int).toNat IntKind.u64.bits))=a / 2:=by
  rw [wrap_i64 (n:=a) (by omega) (by omega)];have e:IntKind.u64.wrap a=a:=by
    show a % 18446744073709551616=a;omega
  rw [e,show (2:Int) ^ min (1:Int).toNat IntKind.u64.bits=2 from rfl,Int.fdiv_eq_ediv_of_nonneg _ (by decide),wrap_i64 (by omega) (by omega)]
theorem takeWhile_len {α:Type} {p:α→Bool} [Inhabited α]:∀ (xs:List α),(∀ k,k < (xs.takeWhile p).length→p (xs.getD k default)=true)∧(∀ h:(xs.takeWhile p).length < xs.length,p (xs.getD (xs.takeWhile p).length default)=false)∧(xs.takeWhile p).length≤xs.length
  | []=>⟨fun k h=>by simp at h,fun h=>by simp at h,Nat.le_refl _⟩
  | x :: r=>by
    obtain ⟨i1,i2,i3⟩:=takeWhile_len (p:=p) r;rw [List.takeWhile_cons]
    cases hp:p x
    · exact ⟨fun k h=>by simp at h,fun h=>by simpa using hp,by simp⟩
    · simp only [if_true,List.length_cons];refine ⟨fun k h=>?_,fun h=>?_,by omega⟩
      · cases k with
        | zero=>simpa using hp
        | succ k=>simpa using i1 k (by omega)
      · simpa using i2 (by omega)
theorem lessE_trans {a b c:HelloEntry} (h:lessE a b=true) (k:lessE b c=true):lessE a c=true:=by
  simp only [lessE,Bool.or_eq_true,Bool.and_eq_true,decide_eq_true_eq,beq_iff_eq] at *;omega
section
variable {α:Type} [Inhabited α] (f:α→HelloEntry)
def posK (t:List α) (e:HelloEntry):Nat:=(t.takeWhile fun x=>lessE (f x) e).length
def hasK (t:List α) (e:HelloEntry):Bool:=decide (posK f t e < t.length) && ((f (t.getD (posK f t e) default)).Addr == e.Addr && (f (t.getD (posK f t e) default)).Len == e.Len)
structure Ord (t:List α):Prop where
  ord:t.Pairwise fun x y=>lessE (f x) (f y)=true
  rng:∀ x ∈ t,0≤(f x).Len∧(f x).Len≤16∧0≤(f x).Addr∧(f x).Addr≤65535
variable {f}
theorem posK_le (t:List α) (e:HelloEntry):posK f t e≤t.length:=(takeWhile_len (p:=fun x=>lessE (f x) e) t).2.2
theorem posK_lt {t:List α} {e:HelloEntry} {k:Nat} (h:k < posK f t e):lessE (f (t.getD k default)) e=true:=(takeWhile_len (p:=fun x=>lessE (f x) e) t).1 k h
theorem posK_ge {t:List α} (ho:Ord f t) {e:HelloEntry} {k:Nat} (h:posK f t e≤k) (hk:k < t.length):lessE (f (t.getD k default)) e=false:=by
  have h0:=(takeWhile_len (p:=fun x=>lessE (f x) e) t).2.1 (Nat.lt_of_le_of_lt h hk)
  cases hc:lessE (f (t.getD k default)) e
  · rfl
  · rcases Nat.eq_or_lt_of_le h with c | c
    · have:lessE (f (t.getD (posK f t e) default)) e=false:=h0;rw [← c,this] at hc; cases hc
    · have:=List.pairwise_iff_getElem.1 ho.ord (posK f t e) k (by omega) hk c;have g1:t.getD k default=t[k]:=by rw [List.getD_eq_getElem?_getD,List.getElem?_eq_getElem hk]; rfl
      have g2:t.getD (posK f t e) default=t[posK f t e]'(by omega):=by rw [List.getD_eq_getElem?_getD,List.getElem?_eq_getElem (by omega)]; rfl
      have h0:lessE (f (t.getD (posK f t e) default)) e=false:=h0;rw [g2] at h0;rw [g1] at hc;rw [lessE_trans this hc] at h0
      cases h0
theorem hasK_iff {t:List α} {e:HelloEntry}:hasK f t e=true ↔ posK f t e < t.length∧(f (t.getD (posK f t e) default)).Addr=e.Addr∧(f (t.getD (posK f t e) default)).Len=e.Len:=by
  simp only [hasK,Bool.and_eq_true,decide_eq_true_eq,beq_iff_eq]
theorem hasK_of {t:List α} (ho:Ord f t) {e:HelloEntry} {k:Nat} (hk:k < t.length) (h:(f (t.getD k default)).Addr=e.Addr∧(f (t.getD k default)).Len=e.Len):k=posK f t e∧hasK f t e=true:=by
  have e1:k=posK f t e:=by
    rcases Nat.lt_trichotomy k (posK f t e) with c | c | c
    · have:=posK_lt (f:=f) c;simp only [lessE,Bool.or_eq_true,Bool.and_eq_true,decide_eq_true_eq,beq_iff_eq] at this;omega
    · exact c
    · exfalso;have h0:=posK_ge ho (e:=e) (Nat.le_refl _) (by omega);have:=List.pairwise_iff_getElem.1 ho.ord (posK f t e) k (by omega) hk c;have g1:t.getD k default=t[k]:=by rw [List.getD_eq_getElem?_getD,List.getElem?_eq_getElem hk]; rfl
      have g2:t.getD (posK f t e) default=t[posK f t e]'(by omega):=by rw [List.getD_eq_getElem?_getD,List.getElem?_eq_getElem (by omega)]; rfl
      rw [g1] at h;rw [g2] at h0;generalize f (t[posK f t e]'(by omega))=x at *;generalize f t[k]=y at *;have:lessE x e=true:=by
        simp only [lessE,Bool.or_eq_true,Bool.and_eq_true,decide_eq_true_eq,beq_iff_eq] at *;omega
      rw [this] at h0; cases h0
  refine ⟨e1,?_⟩;subst e1;exact hasK_iff.2 ⟨hk,h.1,h.2⟩
end
abbrev idE (e:HelloEntry):HelloEntry:=e
theorem tableOk_ord {t:List HelloEntry} (h:tableOk t=true):Ord idE t∧t.length≤8:=by
  simp only [tableOk,Bool.and_eq_true,decide_eq_true_eq] at h;have at_:∀ i,i < t.length→entryOk (t.getD i default)=true∧(i=0 ∨ lessE (t.getD (i - 1) default) (t.getD i default)=true):=fun i hi=>by
    have:=allR_get h.2 hi;simp only [tabP,Bool.and_eq_true,Bool.or_eq_true,decide_eq_true_eq] at this;exact this
  refine ⟨⟨List.pairwise_iff_getElem.2 fun k i hk hi hki=>?_,fun x hx=>?_⟩,h.1⟩
  · have l:=chain (r:=fun x y=>lessE x y) (fun h k=>lessE_trans h k) (f:=fun i=>t.getD i default) (n:=t.length) (fun i h0 hi=>by
      rcases (at_ i hi).2 with h | h
      · omega
      · exact h) i hi k hki
    rw [List.getD_eq_getElem?_getD,List.getD_eq_getElem?_getD,List.getElem?_eq_getElem hk,List.getElem?_eq_getElem hi] at l;exact l
  · obtain ⟨i,hi,rfl⟩:=mem_getD hx;exact entry_range (at_ i hi).1
def putT (t:List HelloEntry) (e:HelloEntry):List HelloEntry:=if hasK idE t e=true then t.set (posK idE t e) e else t.take (posK idE t e) ++ [e] ++ t.drop (posK idE t e)
def dropT (t:List HelloEntry) (e:HelloEntry):List HelloEntry:=if hasK idE t e=true then t.take (posK idE t e) ++ t.drop (posK idE t e+1) else t
def applyT (t:List HelloEntry) (c:HelloChange):List HelloEntry:=if c.Kind=1 then putT t c.Entry else if c.Kind=2 then dropT t c.Entry else t
theorem sTab_p {t:List HelloEntry} (h:t.length≤1048576):spec_l42Table_m t=some t:=by
  unfold spec_l42Table_m;rw [gd_pos (by omega)]
theorem sPutT_p {t:List HelloEntry} (h:t.length≤1048576) (e:HelloEntry):spec_l43Put_m t e=some (putT t e):=by
  have w3:=posK_le (f:=idE) t e;have w1:=fun k=>posK_lt (f:=idE) (t:=t) (e:=e) (k:=k);have w2:posK idE t e < t.length→lessE (t.getD (posK idE t e) default) e=false:=(takeWhile_len (p:=fun x=>lessE (idE x) e) t).2.1;unfold spec_l43Put_m putT;have hh:hasK idE t e=(decide (posK idE t e < t.length) && ((t.getD (posK idE t e) default).Addr == e.Addr && (t.getD (posK idE t e) default).Len == e.Len)):=rfl;rw [hh];generalize posK idE t e=L at *;have key:lp (σ:=Int) (β:=(Int)) (fun s1 =>
      gd ((decide (s1 < ((t.length:Nat):Int)))=true→((0:Int)≤s1∧s1 < ((t.length:Nat):Int))) <|
      bd (gcall ((decide (s1 < ((t.length:Nat):Int)))=true) (spec_l41Less_m (t.getD s1.toNat default) e)) fun x6 =>
      (if ((decide (s1 < ((t.length:Nat):Int))) && x6)=true then
      some (.inl (IntKind.i64.wrap (s1+1)))
      else
      some (.inr s1))) 0=some (L:Int):=by
    have:=lp_all (step:=(fun s1:Int =>
      gd ((decide (s1 < ((t.length:Nat):Int)))=true→((0:Int)≤s1∧s1 < ((t.length:Nat):Int))) <|
      bd (gcall ((decide (s1 < ((t.length:Nat):Int)))=true) (spec_l41Less_m (t.getD s1.toNat default) e)) fun x6 =>
      (if ((decide (s1 < ((t.length:Nat):Int))) && x6)=true then
      some (.inl (IntKind.i64.wrap (s1+1)))
      else
      some (.inr s1):Option (Int ⊕ Int)))) L (fun _=>true) (L:Int) (L:Int) (fun i hi _=>by
        have hd:decide ((i:Int) < ((t.length:Nat):Int))=true:=by simp; omega
        have hl:lessE (t.getD i default) e=true:=w1 i hi;rw [gd_pos (fun _=>by omega),Int.toNat_natCast,sLess_p,gcall_pos hd,bd_val,hl,hd,Bool.and_self,if_pos rfl,wrap_succ hi (by omega),if_pos rfl]) (fun _=>by
        rw [gd_pos (fun c=>by simp only [decide_eq_true_eq] at c; omega),Int.toNat_natCast,sLess_p,gcall_b,bd_val]
        by_cases c:L < t.length
        · rw [w2 c,if_neg (by simp)]
        · rw [if_neg (by simp; omega)])
    rw [this,if_pos (allR_of fun _ _=>rfl)]
  rw [key,bd_val,Int.toNat_natCast];have hd:decide ((L:Int) < ((t.length:Nat):Int))=decide (L < t.length):=decide_eq_decide.2 (by omega);rw [gd_pos (fun c=>by simp only [decide_eq_true_eq] at c; omega),gd_pos (fun c=>by simp only [Bool.and_eq_true,decide_eq_true_eq] at c; omega),hd,Bool.and_assoc]
  by_cases c:(decide (L < t.length) && ((t.getD L default).Addr == e.Addr && (t.getD L default).Len == e.Len))=true
  · rw [if_pos c,if_pos c,sTab_p h,bd_val];simp only [Bool.and_eq_true,decide_eq_true_eq] at c;rw [gd_pos (by omega)]
  · rw [if_neg c,if_neg c,gd_pos (by omega),sTab_p (by simp; omega),bd_val,gd_pos (by simp; omega),gd_pos (by omega),gd_pos (by simp [dsub_eq]; omega)];have e1:(t.take (L+dsub ((t.length:Nat):Int) (L:Int))).drop L=t.drop L:=by
      rw [List.take_of_length_le (by simp [dsub_eq]; omega)]
    rw [e1]
theorem sAt_p {t:List HelloEntry} (h:t.length≤1048576) (ho:Ord idE t) (e:HelloEntry):spec_l42At_m t e=some (if hasK idE t e=true then (posK idE t e:Int) else -1):=by
  unfold spec_l42At_m;rw [lp_first t.length (fun i=>(t.getD i default).Addr == e.Addr && (t.getD i default).Len == e.Len) (fun i=>Sum.inl (i:Int)) (.inr ()) (fun i hi=>?_) (by rw [if_neg (by simp)]),bd_val]
  · cases hf:firstR (fun i=>(t.getD i default).Addr == e.Addr && (t.getD i default).Len == e.Len) t.length with
    | some i =>
      obtain ⟨q1,q2,_⟩:=firstR_some hf;simp only [Bool.and_eq_true,beq_iff_eq] at q2;obtain ⟨p1,p2⟩:=hasK_of ho q1 q2;rw [p2,if_pos rfl,← p1]; rfl
    | none =>
      rw [if_neg]
      · rfl
      · intro c;obtain ⟨q1,q2,q3⟩:=hasK_iff.1 c;have:=firstR_none hf _ q1;have q2:(t.getD (posK idE t e) default).Addr=e.Addr:=q2;have q3:(t.getD (posK idE t e) default).Len=e.Len:=q3;rw [q2,q3] at this;simp at this
  · rw [if_pos (by simp; omega),gd_pos (by omega),gd_pos (fun _=>by omega),Int.toNat_natCast,wrap_succ hi (by omega)];split <;> rfl
theorem sDropT_p {t:List HelloEntry} (h:t.length≤1048576) (ho:Ord idE t) (e:HelloEntry):spec_l43Drop_m t e=some (dropT t e):=by
  unfold spec_l43Drop_m dropT;rw [sAt_p h ho,bd_val]
  by_cases c:hasK idE t e=true
  · obtain ⟨q1,_,_⟩:=hasK_iff.1 c;rw [if_pos c,if_pos c,if_neg (by simp),gd_pos (by omega),Int.toNat_natCast,sTab_p (by simp; omega),bd_val,wrap_i64 (n:=(posK idE t e:Int)+1) (by omega) (by omega)];rw [gd_pos (by omega),gd_pos (by simp [dsub_eq]; omega),show ((posK idE t e:Int)+1).toNat=posK idE t e+1 by omega];have e1:t.take (posK idE t e+1+dsub ((t.length:Nat):Int) ((posK idE t e:Int)+1))=t:=List.take_of_length_le (by simp [dsub_eq]; omega);rw [e1]
  · rw [if_neg c,if_neg c,if_pos (by decide),sTab_p h,bd_val]
theorem sApply_p {t:List HelloEntry} (h:t.length≤1048576) (ho:Ord idE t) (c:HelloChange):spec_l43Apply_m t c=some (applyT t c):=by
  unfold spec_l43Apply_m applyT;rw [sPutT_p h,sDropT_p h ho,sTab_p h];simp only [beq_iff_eq,bd_val];split
  · rfl
  · split <;> rfl
theorem sApplyF_p {t:List HelloEntry} (h:t.length≤1048576) (ho:Ord idE t) (c:HelloChange):spec_l43Apply_fz_m t c=some (applyT t c):=sApply_p h ho c
theorem change_range {c:HelloChange} (h:changeOk c=true):0≤c.Entry.Len∧c.Entry.Len≤16∧0≤c.Entry.Addr∧c.Entry.Addr≤65535:=by
  unfold changeOk at h;split at h
  · simp only [noEntry,Bool.and_eq_true,beq_iff_eq] at h;omega
  · split at h
    · exact entry_range h
    · split at h
      · simp only [Bool.and_eq_true] at h;exact prefOk_range h.1.1
      · cases h
theorem iFind_p {t:List HelloEntry} (h:t.length≤1048576) (ho:Ord idE t) {e:HelloEntry} (he:0≤e.Len∧e.Len≤16∧0≤e.Addr∧e.Addr≤65535):impl_findEntry_m t ⟨e.Addr,e.Len⟩=some ((posK idE t e:Int),hasK idE t e):=by
  have w3:=posK_le (f:=idE) t e;have w1:=fun k=>posK_lt (f:=idE) (t:=t) (e:=e) (k:=k);have w2:=fun k=>posK_ge ho (e:=e) (k:=k);have hcmp:∀ k,k < t.length→impl_findEntry_1_m (t.getD k default) ⟨e.Addr,e.Len⟩=some (cmpV (t.getD k default).Addr (t.getD k default).Len e.Addr e.Len):=fun k hk=>by
    unfold impl_findEntry_1_m;have:=ho.rng _ (getD_mem hk);rw [iPrefix_p,bd_val,cmp_p (by exact this) he,bd_val]
  have hneg:∀ k,k < t.length→(cmpV (t.getD k default).Addr (t.getD k default).Len e.Addr e.Len < 0 ↔ lessE (t.getD k default) e=true):=fun k hk=>by
    have:=ho.rng _ (getD_mem hk);rw [cmpV_neg (a:=t.getD k default) (b:=e) ⟨this.1,this.2.1⟩ ⟨he.1,he.2.1⟩,lessE_iff ⟨this.1,this.2.1⟩ ⟨he.1,he.2.1⟩]
  have key:Post (slices_BinarySearchFunc_HelloEntry_HelloEntry_NetPrefix_impl_findEntry_1_m t ⟨e.Addr,e.Len⟩) fun x=>x=((posK idE t e:Int),hasK idE t e):=by
    have hh:hasK idE t e=(decide (posK idE t e < t.length) && ((t.getD (posK idE t e) default).Addr == e.Addr && (t.getD (posK idE t e) default).Len == e.Len)):=rfl;rw [hh];unfold slices_BinarySearchFunc_HelloEntry_HelloEntry_NetPrefix_impl_findEntry_1_m;generalize posK idE t e=L at *;refine .bd (Q:=fun x=>x=(L:Int)) (.lp (fun s=>0≤s.2∧s.2≤(L:Int)∧(L:Int)≤s.1∧s.1≤(t.length:Int)) (fun s=>(s.1 - s.2).toNat) ⟨Int.le_refl _,by dsimp only; omega,by dsimp only; omega,Int.le_refl _⟩ fun s ⟨i1,i2,i3,i4⟩=>?_) fun x hx=>?_
    · refine .ite (fun c=>?_) fun c=>.ret ?_
      · simp only [decide_eq_true_eq] at c;rw [half_p (by omega) (by omega)];refine .gd (by decide) (.gd ⟨by omega,by omega⟩ ?_);have hm:((s.2+s.1) / 2).toNat < t.length:=by omega
        rw [hcmp _ hm,bd_val,wrap_i64 (n:=(s.2+s.1) / 2+1) (by omega) (by omega)];refine .ite (fun c2=>?_) fun c2=>?_
        · simp only [decide_eq_true_eq] at c2;have c3:=(hneg _ hm).1 c2;refine .ret ⟨⟨by dsimp only; omega,?_,by dsimp only; omega,i4⟩,by dsimp only; omega⟩;dsimp only;refine Int.not_lt.1 fun hlt=>?_;have:lessE (t.getD ((s.2+s.1) / 2).toNat default) e=false:=w2 ((s.2+s.1) / 2).toNat (by omega) (by omega);rw [this] at c3; cases c3
        · simp only [decide_eq_true_eq] at c2;refine .ret ⟨⟨i1,i2,?_,by dsimp only; omega⟩,by dsimp only; omega⟩;dsimp only;exact Int.not_lt.1 fun hlt=>c2 ((hneg _ hm).2 (w1 _ (by omega)))
      · simp only [decide_eq_true_eq] at c;show s.2=_;omega
    · subst hx;refine .gd (fun c=>?_) ?_
      · simp only [decide_eq_true_eq] at c; omega
      · rw [Int.toNat_natCast];have hd:decide ((L:Int) < ((t.length:Nat):Int))=decide (L < t.length):=decide_eq_decide.2 (by omega);rw [hd]
        by_cases c:L < t.length
        · rw [hcmp L c,decide_eq_true c,gcall_pos rfl,bd_val];refine .ret ?_;have hr:=ho.rng _ (getD_mem c);have:=cmpV_zero (a:=t.getD L default) (b:=e) ⟨hr.1,hr.2.1⟩ ⟨he.1,he.2.1⟩;rw [pk_eq ⟨hr.1,hr.2.1⟩ ⟨he.1,he.2.1⟩] at this;rw [Prod.mk.injEq];refine ⟨rfl,?_⟩;rw [Bool.eq_iff_iff];simp only [Bool.true_and,Bool.and_eq_true,beq_iff_eq];exact this
        · rw [decide_eq_false c,gcall_neg (by decide),bd_val];exact .ret rfl
  obtain ⟨x,ex,rfl⟩:=key;unfold impl_findEntry_m;refine (congrArg (fun m=>bd m _) ex).trans ?_;rw [bd_val]
theorem iChanged_p {t:List HelloEntry} (h:t.length≤1048576) (ho:Ord idE t) {c:HelloChange} (hc:changeOk c=true):impl_changed_m t c=some (applyT t c):=by
  have e1:impl_clone_HelloEntry_m t=some t:=by
    unfold impl_clone_HelloEntry_m;rw [gd_pos (by omega),gd_pos (by simp; omega)]; rfl
  have w3:=posK_le (f:=idE) t c.Entry;unfold impl_changed_m applyT putT dropT;rw [e1,bd_val,iPrefix_p,bd_val,iFind_p h ho (change_range hc),bd_val];dsimp only;have hk:hasK idE t c.Entry=true→posK idE t c.Entry < t.length:=fun q=>(hasK_iff.1 q).1
  cases hh:hasK idE t c.Entry
  · simp only [Bool.and_false,Bool.false_eq_true,if_false,beq_iff_eq]
    by_cases k1:c.Kind=1
    · rw [if_pos k1,if_pos k1];unfold slices_Insert_HelloEntry_HelloEntry_m;rw [gd_pos ⟨by omega,by simp,by simp; omega⟩,bd_val,Int.toNat_natCast]
      rfl
    · rw [if_neg k1,if_neg k1];split <;> rfl
  · have hk:=hk hh;simp only [Bool.and_true,if_true,beq_iff_eq]
    by_cases k1:c.Kind=1
    · rw [if_pos k1,if_pos k1,gd_pos (by omega),Int.toNat_natCast]
    · rw [if_neg k1,if_neg k1,if_neg k1]
      by_cases k2:c.Kind=2
      · rw [if_pos k2,if_pos k2];unfold slices_Delete_HelloEntry_HelloEntry_m;rw [wrap_i64 (by omega) (by omega),gd_pos (by omega),bd_val,Int.toNat_natCast,show ((posK idE t c.Entry:Int)+1).toNat=posK idE t c.Entry+1 by omega]
        rfl
      · rw [if_neg k2,if_neg k2]
theorem iChangedF_p {t:List HelloEntry} (h:t.length≤1048576) (ho:Ord idE t) {c:HelloChange} (hc:changeOk c=true):impl_changed_fz_m t c=some (applyT t c):=iChanged_p h ho hc
theorem applyT_len {t:List HelloEntry} (c:HelloChange):(applyT t c).length≤t.length+1:=by
  have w3:=posK_le (f:=idE) t c.Entry;unfold applyT putT dropT;split
  · split
    · simp
    · simp; omega
  · split
    · split
      · simp; omega
      · omega
    · omega
end Go.Proofs.YtaoeomoepefojaaGreat
