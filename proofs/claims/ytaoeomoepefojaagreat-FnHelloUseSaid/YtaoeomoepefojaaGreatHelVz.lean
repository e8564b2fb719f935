/-
  Plain Lean: routes behind a change that is heard.
-/
import Derived.Test.YtaoeomoepefojaaGreatKz6
import Derived.Test.YtaoeomoepefojaaGreatHelUz
import Derived.Test.YtaoeomoepefojaaGreatHelTz
set_option linter.all false
namespace Go.Proofs.YtaoeomoepefojaaGreat
open Go Go.Ab
set_option maxHeartbeats 1000000
set_option maxRecDepth 100000
theorem heardOk_ord {e:HelloEnd} (h:heardOk e=true):Ord rE e.Heard∧e.Heard.length≤16:=by
  simp only [heardOk,Bool.and_eq_true,decide_eq_true_eq] at h;obtain ⟨⟨⟨hl,_⟩,hh⟩,_⟩:=h;have at_:∀ i,i < e.Heard.length→entryOk (e.Heard.getD i default).Entry=true∧(i=0 ∨ lessE (e.Heard.getD (i - 1) default).Entry (e.Heard.getD i default).Entry=true):=fun i hi=>by
    have:=allR_get hh hi;simp only [heardP,Bool.and_eq_true,Bool.or_eq_true,decide_eq_true_eq] at this;exact this.1
  refine ⟨⟨List.pairwise_iff_getElem.2 fun k i hk hi hki=>?_,fun x hx=>?_⟩,hl⟩
  · have l:=chain (r:=fun x y=>lessE x y) (fun h k=>lessE_trans h k) (f:=fun i=>(e.Heard.getD i default).Entry) (n:=e.Heard.length) (fun i h0 hi=>by
      rcases (at_ i hi).2 with h | h
      · omega
      · exact h) i hi k hki
    rw [List.getD_eq_getElem?_getD,List.getD_eq_getElem?_getD,List.getElem?_eq_getElem hk,List.getElem?_eq_getElem hi] at l;exact l
  · obtain ⟨i,hi,rfl⟩:=mem_getD hx;exact entry_range (at_ i hi).1
theorem stales_ord {t:List HelloRoute} (h:Ord rE t):Ord rE (stales t):=by
  refine ⟨List.pairwise_map.2 (h.ord.imp fun q=>q),fun x hx=>?_⟩;obtain ⟨y,hy,rfl⟩:=List.mem_map.1 hx;exact h.rng y hy
theorem sub_ord {s t:List HelloRoute} (h:Ord rE t) (k:s.Sublist t):Ord rE s:=⟨h.ord.sublist k,fun x hx=>h.rng x (k.subset hx)⟩
def outR (t:List HelloRoute) (k:Nat):List HelloRoute:=t.take k ++ t.drop (k+1)
theorem outR_sub (t:List HelloRoute) (k:Nat):(outR t k).Sublist t:=by
  have:=List.take_append_drop k t;rw [outR]
  conv=>rhs; rw [← this]
  refine List.Sublist.append (List.Sublist.refl _) ?_;rw [← List.drop_drop];exact List.drop_sublist _ _
theorem outR_len {t:List HelloRoute} {k:Nat} (h:k < t.length):(outR t k).length=t.length - 1:=by simp [outR]; omega
theorem hasK_mem {t:List HelloRoute} (h:Ord rE t) {e:HelloEntry}:hasK rE t e=true ↔ ∃ r ∈ t,r.Entry.Addr=e.Addr∧r.Entry.Len=e.Len:=by
  constructor
  · intro q;obtain ⟨q1,q2,q3⟩:=hasK_iff.1 q;exact ⟨_,getD_mem q1,q2,q3⟩
  · intro ⟨r,hr,q⟩;obtain ⟨i,hi,rfl⟩:=mem_getD hr;exact (hasK_of h hi q).2
theorem hasK_out {t:List HelloRoute} (h:Ord rE t) {e:HelloEntry} (k:Nat) (q:hasK rE t e=false):hasK rE (outR t k) e=false:=by
  rw [Bool.eq_false_iff];intro c;obtain ⟨r,hr,p⟩:=(hasK_mem (sub_ord h (outR_sub t k))).1 c;rw [(hasK_mem h).2 ⟨r,(outR_sub t k).subset hr,p⟩] at q
  cases q
def intoR (t:List HelloRoute) (e:HelloEntry):List HelloRoute:=t.take (posK rE t e) ++ [⟨e,false⟩] ++ t.drop (posK rE t e)
def firstStale (t:List HelloRoute):Option Nat:=firstR (fun i=>(t.getD i default).Stale) t.length
def hasV (t:List HelloRoute) (e:HelloEntry):List HelloRoute × Bool :=
  if hasK rE t e=true then (t.set (posK rE t e) ⟨e,false⟩,true)
  else if t.length=16 then match firstStale t with
    | none=>(t,false)
    | some s=>(intoR (outR t s) e,true)
  else (intoR t e,true)
def toldV (t:List HelloRoute) (c:HelloChange):List HelloRoute × Bool :=
  if c.Kind=1 then hasV t c.Entry
  else if c.Kind=2 then (if hasK rE t c.Entry=true then outR t (posK rE t c.Entry) else t,true)
  else (fresh t,true)
theorem sWhere_p {t:List HelloRoute} (h:t.length≤1048576) (e:HelloEntry):spec_l43Where_m t e=some (posK rE t e:Int):=by
  have w3:=posK_le (f:=rE) t e;have w1:=fun k=>posK_lt (f:=rE) (t:=t) (e:=e) (k:=k);have w2:posK rE t e < t.length→lessE (t.getD (posK rE t e) default).Entry e=false:=(takeWhile_len (p:=fun x=>lessE (rE x) e) t).2.1;unfold spec_l43Where_m;generalize posK rE t e=L at *;have key:lp (σ:=Int) (β:=(Int)) (fun s1 =>
      gd ((decide (s1 < ((t.length:Nat):Int)))=true→((0:Int)≤s1∧s1 < ((t.length:Nat):Int))) <|
      bd (gcall ((decide (s1 < ((t.length:Nat):Int)))=true) (spec_l41Less_m ((t.getD s1.toNat default).Entry) e)) fun x6 =>
      (if ((decide (s1 < ((t.length:Nat):Int))) && x6)=true then
      some (.inl (IntKind.i64.wrap (s1+1)))
      else
      some (.inr s1))) 0=some (L:Int):=by
    have:=lp_all (step:=(fun s1:Int =>
      gd ((decide (s1 < ((t.length:Nat):Int)))=true→((0:Int)≤s1∧s1 < ((t.length:Nat):Int))) <|
      bd (gcall ((decide (s1 < ((t.length:Nat):Int)))=true) (spec_l41Less_m ((t.getD s1.toNat default).Entry) e)) fun x6 =>
      (if ((decide (s1 < ((t.length:Nat):Int))) && x6)=true then
      some (.inl (IntKind.i64.wrap (s1+1)))
      else
      some (.inr s1):Option (Int ⊕ Int)))) L (fun _=>true) (L:Int) (L:Int) (fun i hi _=>by
        have hd:decide ((i:Int) < ((t.length:Nat):Int))=true:=by simp; omega
        have hl:lessE (t.getD i default).Entry e=true:=w1 i hi;rw [gd_pos (fun _=>by omega),Int.toNat_natCast,sLess_p,gcall_pos hd,bd_val,hl,hd,Bool.and_self,if_pos rfl,wrap_succ hi (by omega),if_pos rfl]) (fun _=>by
        rw [gd_pos (fun c=>by simp only [decide_eq_true_eq] at c; omega),Int.toNat_natCast,sLess_p,gcall_b,bd_val]
        by_cases c:L < t.length
        · rw [w2 c,if_neg (by simp)]
        · rw [if_neg (by simp; omega)])
    rw [this,if_pos (allR_of fun _ _=>rfl)]
  rw [key,bd_val]
theorem sRoutes_p {t:List HelloRoute} (h:t.length≤1048576):spec_l42Routes_m t=some t:=by
  unfold spec_l42Routes_m;rw [gd_pos (by omega)]
theorem sFirst_p {t:List HelloRoute} (h:t.length≤1048576):spec_l43FirstStale_m t=some (match firstStale t with | some i=>(i:Int) | none=>-1):=by
  unfold spec_l43FirstStale_m firstStale;rw [lp_first t.length (fun i=>(t.getD i default).Stale) (fun i=>Sum.inl (i:Int)) (.inr ()) (fun i hi=>?_) (by rw [if_neg (by simp)]),bd_val]
  · cases firstR (fun i=>(t.getD i default).Stale) t.length <;> rfl
  · rw [if_pos (by simp; omega),gd_pos (by omega),Int.toNat_natCast,wrap_succ hi (by omega)];split <;> rfl
theorem sWithout_p {t:List HelloRoute} (h:t.length≤1048576) {k:Nat} (hk:k < t.length):spec_l43Without_m t (k:Int)=some (outR t k):=by
  unfold spec_l43Without_m outR;rw [gd_pos (by omega),Int.toNat_natCast,sRoutes_p (by simp; omega),bd_val,wrap_i64 (n:=(k:Int)+1) (by omega) (by omega)];rw [gd_pos (by omega),gd_pos (by simp [dsub_eq]; omega),show ((k:Int)+1).toNat=k+1 by omega];have e1:t.take (k+1+dsub ((t.length:Nat):Int) ((k:Int)+1))=t:=List.take_of_length_le (by simp [dsub_eq]; omega);rw [e1]
theorem sWithoutF_p {t:List HelloRoute} (h:t.length≤1048576) {k:Nat} (hk:k < t.length):spec_l43Without_o00f_m t (k:Int)=some (outR t k):=sWithout_p h hk
theorem has_aux {t:List HelloRoute} (e:HelloEntry):((decide ((posK rE t e:Int) < ((t.length:Nat):Int)) && (t.getD (posK rE t e) default).Entry.Addr == e.Addr) && (t.getD (posK rE t e) default).Entry.Len == e.Len)=hasK rE t e:=by
  have hd:decide ((posK rE t e:Int) < ((t.length:Nat):Int))=decide (posK rE t e < t.length):=decide_eq_decide.2 (by omega);rw [hd,Bool.and_assoc]; rfl
theorem into_aux {t:List HelloRoute} (h:t.length≤1048576) (e:HelloEntry):(gd ((0:Int)≤(0:Int)∧(0:Int)≤(posK rE t e:Int)∧(posK rE t e:Int)≤((t.length:Nat):Int)) <|
    bd (spec_l42Routes_m (t.take (posK rE t e))) fun x8 =>
    gd (((x8.length)+(([(⟨e,false⟩:HelloRoute)]:List HelloRoute).length))*(40+1)≤70368744177664) <|
    gd ((0:Int)≤(posK rE t e:Int)∧(posK rE t e:Int)≤((t.length:Nat):Int)∧((t.length:Nat):Int)≤((t.length:Nat):Int)) <|
    gd ((((x8 ++ ([(⟨e,false⟩:HelloRoute)]:List HelloRoute)).length)+((dsub ((t.length:Nat):Int) (posK rE t e:Int))))*(40+1)≤70368744177664) <|
    some (((x8 ++ ([(⟨e,false⟩:HelloRoute)]:List HelloRoute)) ++ (((t).take (posK rE t e+(dsub ((t.length:Nat):Int) (posK rE t e:Int)))).drop (posK rE t e))),true))=some (intoR t e,true):=by
  have w3:=posK_le (f:=rE) t e;unfold intoR;generalize posK rE t e=L at *;rw [gd_pos (by omega),sRoutes_p (by simp; omega),bd_val,gd_pos (by simp; omega),gd_pos (by omega),gd_pos (by simp [dsub_eq]; omega)];have e1:(t.take (L+dsub ((t.length:Nat):Int) (L:Int))).drop L=t.drop L:=by
    rw [List.take_of_length_le (by simp [dsub_eq]; omega)]
  rw [e1]
theorem sHas1_p {t:List HelloRoute} (h:t.length≤1048576) (h1:t.length ≠ 16) (e:HelloEntry):spec_l43Has_d1_m t e=some (hasV t e):=by
  have w3:=posK_le (f:=rE) t e;unfold spec_l43Has_d1_m hasV;rw [sWhere_p h,bd_val,Int.toNat_natCast,gd_pos (fun c=>by simp only [decide_eq_true_eq] at c; omega),gd_pos (fun c=>by simp only [Bool.and_eq_true,decide_eq_true_eq] at c; omega),has_aux,into_aux h,sRoutes_p h,bd_val]
  cases hh:hasK rE t e
  · rw [if_neg (by decide),if_neg (by simp; omega),if_neg (by decide),if_neg h1]
  · have:=(hasK_iff.1 hh).1;rw [if_pos rfl,if_pos rfl,gd_pos (by omega)]
theorem sHas_p {t:List HelloRoute} (h:t.length≤1048576) (ho:Ord rE t) (e:HelloEntry):spec_l43Has_m t e=some (hasV t e):=by
  have w3:=posK_le (f:=rE) t e;unfold spec_l43Has_m hasV;rw [sWhere_p h,bd_val,Int.toNat_natCast,gd_pos (fun c=>by simp only [decide_eq_true_eq] at c; omega),gd_pos (fun c=>by simp only [Bool.and_eq_true,decide_eq_true_eq] at c; omega),has_aux,into_aux h,sRoutes_p h,bd_val,sFirst_p h,bd_val]
  cases hh:hasK rE t e
  · simp only [Bool.false_eq_true,if_false]
    by_cases c:t.length=16
    · rw [if_pos (by simp; omega),if_pos c]
      cases hf:firstStale t with
      | none=>rfl
      | some s =>
        have hs:=(firstR_some hf).1;have hl:=outR_len hs;dsimp only;rw [if_neg (by simp <;> omega),sWithoutF_p h hs,bd_val,sHas1_p (by omega) (by omega),bd_val];unfold hasV;rw [hasK_out ho s hh,if_neg (by decide),if_neg (by omega)]
    · rw [if_neg (by simp <;> omega),if_neg c]
  · have:=(hasK_iff.1 hh).1;rw [if_pos rfl,if_pos rfl,gd_pos (by omega)]
theorem sTold_p {t:List HelloRoute} (h:t.length≤1048576) (ho:Ord rE t) (c:HelloChange):spec_l43Told_m t c=some (toldV t c):=by
  have w3:=posK_le (f:=rE) t c.Entry;unfold spec_l43Told_m toldV;rw [sHas_p h ho,bd_val,sWhere_p h,bd_val,Int.toNat_natCast,gd_pos (fun c=>by simp only [decide_eq_true_eq] at c; omega),gd_pos (fun c=>by simp only [Bool.and_eq_true,decide_eq_true_eq] at c; omega),has_aux,sFresh_p h,bd_val]
  by_cases c1:c.Kind=1
  · rw [if_pos (by simpa using c1),if_pos c1]
  · rw [if_neg (by simpa using c1),if_neg c1]
    by_cases c2:c.Kind=2
    · rw [if_pos (by simpa using c2),if_pos c2]
      cases hh:hasK rE t c.Entry
      · rfl
      · rw [if_pos rfl,if_pos rfl,sWithout_p h (hasK_iff.1 hh).1,bd_val]
    · rw [if_neg (by simpa using c2),if_neg c2]
theorem firstStale_any (t:List HelloRoute):(firstStale t).isSome=staleAny t:=by
  unfold firstStale staleAny
  cases hf:firstR (fun i=>(t.getD i default).Stale) t.length with
  | some i =>
    obtain ⟨q1,q2,_⟩:=firstR_some hf;exact (List.any_eq_true.2 ⟨_,getD_mem q1,q2⟩).symm
  | none =>
    symm
    rw [Option.isSome,Bool.eq_false_iff];intro c;obtain ⟨r,hr,ht⟩:=List.any_eq_true.1 c;obtain ⟨i,hi,rfl⟩:=mem_getD hr;have:=firstR_none hf i hi;rw [ht] at this; cases this
def kept (e:HelloEnd):HelloEnd:=if staleAny e.Heard=true then e else { e with Keep:=0 }
theorem sKept_p {e:HelloEnd} (h:e.Heard.length≤1048576):spec_l43Kept_m e=some (kept e):=by
  unfold spec_l43Kept_m kept;rw [sFirst_p h,bd_val,← firstStale_any]
  cases hf:firstStale e.Heard with
  | none=>rfl
  | some i =>
    dsimp only [Option.isSome];rw [if_neg (by simp <;> omega),if_pos rfl]
theorem iFindR_p {t:List HelloRoute} (h:t.length≤1048576) (ho:Ord rE t) {e:HelloEntry} (he:0≤e.Len∧e.Len≤16∧0≤e.Addr∧e.Addr≤65535):slices_BinarySearchFunc_HelloRoute_HelloRoute_NetPrefix_impl_HelloEnd_findRoute_1_m t ⟨e.Addr,e.Len⟩=some ((posK rE t e:Int),hasK rE t e):=by
  have w3:=posK_le (f:=rE) t e;have w1:=fun k=>posK_lt (f:=rE) (t:=t) (e:=e) (k:=k);have w2:=fun k=>posK_ge ho (e:=e) (k:=k);have hcmp:∀ k,k < t.length→impl_HelloEnd_findRoute_1_m (⟨(t.getD k default).Entry,(t.getD k default).Stale⟩:HelloRoute) ⟨e.Addr,e.Len⟩=some (cmpV (t.getD k default).Entry.Addr (t.getD k default).Entry.Len e.Addr e.Len):=fun k hk=>by
    unfold impl_HelloEnd_findRoute_1_m;have:=ho.rng _ (getD_mem hk);rw [iPrefix_p,bd_val,cmp_p (by exact this) he,bd_val]
  have hneg:∀ k,k < t.length→(cmpV (t.getD k default).Entry.Addr (t.getD k default).Entry.Len e.Addr e.Len < 0 ↔ lessE (t.getD k default).Entry e=true):=fun k hk=>by
    have:=ho.rng _ (getD_mem hk);rw [cmpV_neg (a:=(t.getD k default).Entry) (b:=e) ⟨this.1,this.2.1⟩ ⟨he.1,he.2.1⟩,lessE_iff ⟨this.1,this.2.1⟩ ⟨he.1,he.2.1⟩]
  have key:Post (slices_BinarySearchFunc_HelloRoute_HelloRoute_NetPrefix_impl_HelloEnd_findRoute_1_m t ⟨e.Addr,e.Len⟩) fun x=>x=((posK rE t e:Int),hasK rE t e):=by
    have hh:hasK rE t e=(decide (posK rE t e < t.length) && ((t.getD (posK rE t e) default).Entry.Addr == e.Addr && (t.getD (posK rE t e) default).Entry.Len == e.Len)):=rfl;rw [hh];unfold slices_BinarySearchFunc_HelloRoute_HelloRoute_NetPrefix_impl_HelloEnd_findRoute_1_m;generalize posK rE t e=L at *;refine .bd (Q:=fun x=>x=(L:Int)) (.lp (fun s=>0≤s.2∧s.2≤(L:Int)∧(L:Int)≤s.1∧s.1≤(t.length:Int)) (fun s=>(s.1 - s.2).toNat) ⟨Int.le_refl _,by dsimp only; omega,by dsimp only; omega,Int.le_refl _⟩ fun s ⟨i1,i2,i3,i4⟩=>?_) fun x hx=>?_
    · refine .ite (fun c=>?_) fun c=>.ret ?_
      · simp only [decide_eq_true_eq] at c;rw [half_p (by omega) (by omega)];refine .gd (by decide) (.gd ⟨by omega,by omega⟩ ?_);have hm:((s.2+s.1) / 2).toNat < t.length:=by omega
        rw [hcmp _ hm,bd_val,wrap_i64 (n:=(s.2+s.1) / 2+1) (by omega) (by omega)];refine .ite (fun c2=>?_) fun c2=>?_
        · simp only [decide_eq_true_eq] at c2;have c3:=(hneg _ hm).1 c2;refine .ret ⟨⟨by dsimp only; omega,?_,by dsimp only; omega,i4⟩,by dsimp only; omega⟩;dsimp only;refine Int.not_lt.1 fun hlt=>?_;have:lessE (t.getD ((s.2+s.1) / 2).toNat default).Entry e=false:=w2 ((s.2+s.1) / 2).toNat (by omega) (by omega);rw [this] at c3; cases c3
        · simp only [decide_eq_true_eq] at c2;refine .ret ⟨⟨i1,i2,?_,by dsimp only; omega⟩,by dsimp only; omega⟩;dsimp only;exact Int.not_lt.1 fun hlt=>c2 ((hneg _ hm).2 (w1 _ (by omega)))
      · simp only [decide_eq_true_eq] at c;show s.2=_;omega
    · subst hx;refine .gd (fun c=>?_) ?_
      · simp only [decide_eq_true_eq] at c; omega
      · rw [Int.toNat_natCast];have hd:decide ((L:Int) < ((t.length:Nat):Int))=decide (L < t.length):=decide_eq_decide.2 (by omega);rw [hd]
        by_cases c:L < t.length
        · rw [hcmp L c,decide_eq_true c,gcall_pos rfl,bd_val];refine .ret ?_;have hr:=ho.rng _ (getD_mem c);have:=cmpV_zero (a:=(t.getD L default).Entry) (b:=e) ⟨hr.1,hr.2.1⟩ ⟨he.1,he.2.1⟩;rw [pk_eq ⟨hr.1,hr.2.1⟩ ⟨he.1,he.2.1⟩] at this;rw [Prod.mk.injEq];refine ⟨rfl,?_⟩;rw [Bool.eq_iff_iff];simp only [Bool.true_and,Bool.and_eq_true,beq_iff_eq];exact this
        · rw [decide_eq_false c,gcall_neg (by decide),bd_val];exact .ret rfl
  obtain ⟨x,ex,rfl⟩:=key;exact ex
theorem iFindE_p {x:HelloEnd} (h:x.Heard.length≤1048576) (ho:Ord rE x.Heard) {e:HelloEntry} (he:0≤e.Len∧e.Len≤16∧0≤e.Addr∧e.Addr≤65535):impl_HelloEnd_findRoute_m x ⟨e.Addr,e.Len⟩=some ((posK rE x.Heard e:Int),hasK rE x.Heard e):=by
  unfold impl_HelloEnd_findRoute_m;rw [iFindR_p h ho he,bd_val]
theorem iDelR_p {t:List HelloRoute} (h:t.length≤1048576) {k:Nat} (hk:k < t.length):slices_Delete_HelloRoute_HelloRoute_m t (k:Int) (IntKind.i64.wrap ((k:Int)+1))=some (outR t k):=by
  unfold slices_Delete_HelloRoute_HelloRoute_m;rw [wrap_i64 (by omega) (by omega),gd_pos (by omega),Int.toNat_natCast,show ((k:Int)+1).toNat=k+1 by omega]
  rfl
theorem iInsR_p {t:List HelloRoute} (h:t.length≤1048576) (e:HelloEntry):slices_Insert_HelloRoute_HelloRoute_m t (posK rE t e:Int) [⟨e,false⟩]=some (intoR t e):=by
  have w3:=posK_le (f:=rE) t e;unfold slices_Insert_HelloRoute_HelloRoute_m;rw [gd_pos ⟨by omega,by simp,by simp; omega⟩,Int.toNat_natCast]
  rfl
theorem iFirstL_p {xs:List HelloRoute} (h:xs.length≤1048576):slices_IndexFunc_HelloRoute_HelloRoute_impl_HelloEnd_learn_1_m xs=some (match firstStale xs with | some i=>(i:Int) | none=>-1):=by
  unfold slices_IndexFunc_HelloRoute_HelloRoute_impl_HelloEnd_learn_1_m firstStale;rw [lp_first xs.length (fun i=>(xs.getD i default).Stale) (fun i=>Sum.inl (i:Int)) (.inr ()) (fun i hi=>?_) (by rw [if_neg (by simp)]),bd_val]
  · cases firstR (fun i=>(xs.getD i default).Stale) xs.length <;> rfl
  · rw [if_pos (by simp; omega),gd_pos (by omega),Int.toNat_natCast,wrap_succ hi (by omega)];unfold impl_HelloEnd_learn_1_m;rw [bd_val];split <;> simp_all
end Go.Proofs.YtaoeomoepefojaaGreat
