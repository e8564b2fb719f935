/-
  Plain Lean: checksums of words, words that are ok, words that are right.
-/
import Derived.Test.YtaoeomoepefojaaGreatKz6
import Derived.Test.YtaoeomoepefojaaGreatHelTz
import Derived.Test.YtaoeomoepefojaaGreatHelLz
set_option linter.all false
namespace Go.Proofs.YtaoeomoepefojaaGreat
open Go Go.Ab
set_option maxHeartbeats 1000000
set_option maxRecDepth 100000
def mixV (a b:Int):Int:=(a*48271+b % 2147483647+1) % 2147483647
theorem mixV_range (a b:Int):0≤mixV a b∧mixV a b < 2147483647:=by unfold mixV; omega
theorem tmodP (x:Int):x.tmod 2147483647=if 0≤x then x % 2147483647 else -((-x) % 2147483647):=by
  split
  · exact Int.tmod_eq_emod_of_nonneg (by assumption)
  · have:x=-(-x):=by omega
    rw [this,Int.neg_tmod,Int.tmod_eq_emod_of_nonneg (by omega)];simp
theorem mix_aux {x:Int} (h:0≤x) (h1:x≤9223372036854775807):(IntKind.i64.wrap x).tmod 2147483647=x % 2147483647:=by
  rw [wrap_i64 (by omega) (by omega),tmodP,if_pos h]
theorem sMix_p {a b:Int} (h:0≤a∧a < 2147483647):spec_l41Mix_m a b=some (mixV a b):=by
  have hb:=tmodP b;unfold spec_l41Mix_m mixV;rw [gd_pos (by decide)];generalize b.tmod 2147483647=r at *;have hr:-2147483647 < r∧r < 2147483647∧(r < 0→r+2147483647=b % 2147483647)∧(0≤r→r=b % 2147483647):=by
    split at hb <;> omega
  by_cases c:r < 0
  · rw [if_pos (by simpa using c),gd_pos (by decide),wrap_i64 (n:=r+2147483647) (by omega) (by omega),wrap_i64 (n:=a*48271) (by omega) (by omega),hr.2.2.1 c,wrap_i64 (n:=a*48271+b % 2147483647) (by omega) (by omega),mix_aux (by omega) (by omega)]
  · rw [if_neg (by simpa using c),gd_pos (by decide),wrap_i64 (n:=a*48271) (by omega) (by omega),hr.2.2.2 (by omega),wrap_i64 (n:=a*48271+b % 2147483647) (by omega) (by omega),mix_aux (by omega) (by omega)]
theorem fold_range (xs:List Int) {a:Int} (h:0≤a∧a < 2147483647):0≤xs.foldl mixV a∧xs.foldl mixV a < 2147483647:=by
  induction xs generalizing a with
  | nil=>exact h
  | cons x r ih=>exact ih (mixV_range a x)
theorem fold_take {xs:List Int} {i:Nat} (hi:i < xs.length) (a:Int):(xs.take (i+1)).foldl mixV a=mixV ((xs.take i).foldl mixV a) (xs.getD i default):=by
  have g1:xs.getD i default=xs[i]:=by rw [List.getD_eq_getElem?_getD,List.getElem?_eq_getElem hi]; rfl
  rw [List.take_succ,List.getElem?_eq_getElem hi,List.foldl_append,g1]
  rfl
theorem takeIn_p {a:Int} (h:0≤a∧a < 2147483647) {xs:List Int} (hl:xs.length≤1048576):impl_takeIn_m a xs=some (xs.foldl mixV a):=by
  unfold impl_takeIn_m;obtain ⟨e,inv⟩:=lp_fold (step:=(fun s1:Int × Int =>
    (if (decide (s1.2 < ((xs.length:Nat):Int)))=true then
    gd ((0:Int)≤s1.2∧s1.2 < ((xs.length:Nat):Int)) <|
    gd ((2147483647:Int) ≠ 0) <|
    gd ((2147483647:Int) ≠ 0) <|
    gd ((2147483647:Int) ≠ 0) <|
    some (.inl (((IntKind.i64.wrap ((IntKind.i64.wrap ((IntKind.i64.wrap (48271*s1.1))+((IntKind.i64.wrap ((((xs.getD s1.2.toNat default):Int).tmod 2147483647)+2147483647):Int).tmod 2147483647)))+1):Int).tmod 2147483647),IntKind.i64.wrap (s1.2+1)))
    else
    some (.inr s1.1):Option ((Int × Int) ⊕ Int)))) xs.length (fun s i=>mixV s (xs.getD i default)) (fun s=>s) a
    (fun i s=>s=(xs.take i).foldl mixV a) (by simp) (fun i s hi hs=>by rw [fold_take hi,hs]) (fun i s hi hs=>by
      have hr:=fold_range (xs.take i) h;rw [← hs] at hr;dsimp only;rw [if_pos (by simp; omega),gd_pos (by omega),gd_pos (by decide),gd_pos (by decide),gd_pos (by decide),Int.toNat_natCast,wrap_succ hi (by omega)];generalize xs.getD i default=b;have hb:=tmodP b;unfold mixV;generalize b.tmod 2147483647=r at *;have hq:0≤r+2147483647∧r+2147483647≤9223372036854775807∧(r+2147483647) % 2147483647=b % 2147483647:=by
        split at hb <;> omega
      rw [mix_aux hq.1 hq.2.1,hq.2.2,wrap_i64 (n:=48271*s) (by omega) (by omega),wrap_i64 (n:=48271*s+b % 2147483647) (by omega) (by omega),mix_aux (by omega) (by omega),Int.mul_comm]) (fun s _=>by
      dsimp only;rw [if_neg (by simp)])
  rw [e,bd_val,inv,List.take_length]
def sumL (s:Int) (w:HelloWord):List Int:=[s,w.From,w.To,w.Key,w.Boot,w.Yours,w.Turn,w.Num,w.Heard,w.Change.Kind,w.Change.Entry.Addr,w.Change.Entry.Len,w.Change.Entry.Cost,w.Change.Entry.Label,s]
def sumV (s:Int) (w:HelloWord):Int:=(sumL s w).foldl mixV 0
theorem iSum_p (s:Int) (w:HelloWord):impl_HelloSum_m s w=some (sumV s w):=by
  unfold impl_HelloSum_m;rw [takeIn_p (by decide) (by simp),bd_val,takeIn_p (fold_range _ (by decide)) (by simp),bd_val]
  rfl
theorem sSum_p (s:Int) (w:HelloWord):spec_HelloSum_m s w=some (sumV s w):=by
  unfold spec_HelloSum_m;rw [sMix_p (by decide),bd_val];have hs:sumV s w=mixV (([w.From,w.To,w.Key,w.Boot,w.Yours,w.Turn,w.Num,w.Heard,w.Change.Kind,w.Change.Entry.Addr,w.Change.Entry.Len,w.Change.Entry.Cost,w.Change.Entry.Label]:List Int).foldl mixV (mixV 0 s)) s:=rfl;rw [hs];have hl:([w.From,w.To,w.Key,w.Boot,w.Yours,w.Turn,w.Num,w.Heard,w.Change.Kind,w.Change.Entry.Addr,w.Change.Entry.Len,w.Change.Entry.Cost,w.Change.Entry.Label]:List Int).length≤13:=by simp
  generalize ([w.From,w.To,w.Key,w.Boot,w.Yours,w.Turn,w.Num,w.Heard,w.Change.Kind,w.Change.Entry.Addr,w.Change.Entry.Len,w.Change.Entry.Cost,w.Change.Entry.Label]:List Int)=xs at *;obtain ⟨e,inv⟩:=lp_fold (step:=(fun s2:Int × Int =>
    (if (decide (s2.2 < ((xs.length:Nat):Int)))=true then
    gd ((0:Int)≤s2.2∧s2.2 < ((xs.length:Nat):Int)) <|
    bd (spec_l41Mix_m s2.1 (xs.getD s2.2.toNat default)) fun x7 =>
    some (.inl (x7,IntKind.i64.wrap (s2.2+1)))
    else
    some (.inr s2.1):Option ((Int × Int) ⊕ Int)))) xs.length (fun s i=>mixV s (xs.getD i default)) (fun s=>s) (mixV 0 s)
    (fun i s1=>s1=(xs.take i).foldl mixV (mixV 0 s)) (by simp) (fun i s1 hi hs=>by rw [fold_take hi,hs]) (fun i s1 hi hs=>by
      have hr:=fold_range (xs.take i) (mixV_range 0 s);rw [← hs] at hr;dsimp only;rw [if_pos (by simp; omega),gd_pos (by omega),Int.toNat_natCast,wrap_succ hi (by omega),sMix_p hr,bd_val]) (fun s _=>by
      dsimp only;rw [if_neg (by simp)])
  rw [e,bd_val,inv,List.take_length,sMix_p (fold_range _ (mixV_range _ _)),bd_val]
def wordOk (w:HelloWord):Bool:=inR w.From 0 65535 && inR w.To 0 65535 && inR w.Key 1 9 && inR w.Boot 1 999 && inR w.Yours 0 999 && inR w.Turn 1 1000000 && inR w.Num 0 w.Turn && inR w.Heard 0 1000000 && inR w.Sum 0 2147483646 && changeOk w.Change && ((w.Change.Kind == 0) || decide (w.Num > 0))
theorem iWord_p (w:HelloWord):impl_HelloWordOk_m w=some (wordOk w):=by
  unfold impl_HelloWordOk_m wordOk;rw [within_p,bd_val,within_p,gcall_nb,bd_val,within_p,gcall_nb,bd_val];split
  · rename_i c; congr 1; grind
  · rename_i c1;rw [within_p,bd_val,within_p,gcall_nb,bd_val,within_p,gcall_nb,bd_val];split
    · rename_i c; congr 1; grind
    · rename_i c2;rw [within_p,bd_val,within_p,gcall_nb,bd_val,within_p,gcall_nb,bd_val];split
      · rename_i c; congr 1; grind
      · rename_i c3;rw [iChange_p,bd_val]
        congr 1; grind
theorem sWord_p (w:HelloWord):spec_HelloWordOk_m w=some (wordOk w):=by
  unfold spec_HelloWordOk_m wordOk;rw [l41In_p,bd_val,l41In_p,gcall_nb,bd_val,l41In_p,gcall_nb,bd_val,l41In_p,gcall_nb,bd_val,l41In_p,gcall_nb,bd_val];split
  · rename_i c; congr 1; grind
  · rename_i c1;rw [l41In_p,bd_val,l41In_p,gcall_nb,bd_val,l41In_p,gcall_nb,bd_val,l41In_p,gcall_nb,bd_val];split
    · rename_i c; congr 1; grind
    · rename_i c2;rw [sChange_p,bd_val]
      congr 1; grind
def keyFits (w:HelloWord) (k:HelloKey):Bool:=(k.Id == w.Key) && (sumV k.Secret w == w.Sum)
def rightV (ks:List HelloKey) (w:HelloWord):Bool:=keysOk ks && wordOk w && ks.any (keyFits w)
theorem first_any {ks:List HelloKey} {p:HelloKey→Bool}:(firstR (fun i=>p (ks.getD i default)) ks.length).isSome=ks.any p:=by
  cases hf:firstR (fun i=>p (ks.getD i default)) ks.length with
  | some i =>
    obtain ⟨q1,q2,_⟩:=firstR_some hf;exact (List.any_eq_true.2 ⟨_,getD_mem q1,q2⟩).symm
  | none =>
    cases hs:ks.any p
    · rfl
    · obtain ⟨r,hr,ht⟩:=List.any_eq_true.1 hs;obtain ⟨i,hi,rfl⟩:=mem_getD hr;have:=firstR_none hf i hi;rw [ht] at this; cases this
theorem iRight_p {ks:List HelloKey} (h:ks.length≤1048576) (w:HelloWord):impl_HelloRight_m ks w=some (rightV ks w):=by
  have e0:∀ k:HelloKey,impl_HelloRight_1_m k w=some (keyFits w k):=fun k=>by
    unfold impl_HelloRight_1_m keyFits;rw [iSum_p,gcall_val,bd_val]
    cases k.Id == w.Key <;> rfl
  have e:slices_IndexFunc_HelloKey_HelloKey_impl_HelloRight_1_m ks w=some (match firstR (fun i=>keyFits w (ks.getD i default)) ks.length with | some i=>(i:Int) | none=>-1):=by
    unfold slices_IndexFunc_HelloKey_HelloKey_impl_HelloRight_1_m;rw [lp_first ks.length (fun i=>keyFits w (ks.getD i default)) (fun i=>Sum.inl (i:Int)) (.inr ()) (fun i hi=>?_) (by rw [if_neg (by simp)]),bd_val]
    · cases firstR (fun i=>keyFits w (ks.getD i default)) ks.length <;> rfl
    · rw [if_pos (by simp; omega),gd_pos (by omega),Int.toNat_natCast,wrap_succ hi (by omega),e0,bd_val];split <;> simp_all
  unfold impl_HelloRight_m rightV slices_ContainsFunc_HelloKey_HelloKey_impl_HelloRight_1_m;rw [iKeys_p h,bd_val,iWord_p,gcall_b,bd_val,e,bd_val,gcall_b,bd_val,← first_any]
  cases hf:firstR (fun i=>keyFits w (ks.getD i default)) ks.length with
  | some i =>
    have:decide ((i:Int) ≥ 0)=true:=by simp
    dsimp only [Option.isSome];rw [this]
    cases keysOk ks <;> cases wordOk w <;> rfl
  | none =>
    dsimp only [Option.isSome]
    cases keysOk ks <;> cases wordOk w <;> rfl
theorem keys_one {ks:List HelloKey} (h:keysOk ks=true) {i j:Nat} (hi:i < ks.length) (hj:j < ks.length) (e:(ks.getD i default).Id=(ks.getD j default).Id):i=j:=by
  simp only [keysOk,Bool.and_eq_true] at h;have st:∀ n,0 < n→n < ks.length→(ks.getD (n - 1) default).Id < (ks.getD n default).Id:=fun n h0 hn=>by
    have:=allR_get h.2 hn;simp only [keyP,Bool.and_eq_true,Bool.or_eq_true,decide_eq_true_eq] at this;rcases this.2 with c | c
    · omega
    · exact c
  have lt:∀ a b,a < b→b < ks.length→(ks.getD a default).Id < (ks.getD b default).Id:=fun a b hab hb=>by
    induction b with
    | zero=>omega
    | succ b ih =>
      have s:=st (b+1) (by omega) hb;rw [Nat.add_sub_cancel] at s;rcases Nat.lt_or_ge a b with c | c
      · have:=ih c (by omega); omega
      · have:a=b:=by omega
        subst this; exact s
  rcases Nat.lt_trichotomy i j with c | c | c
  · have:=lt i j c hj; omega
  · exact c
  · have:=lt j i c hi; omega
theorem sRight_p {ks:List HelloKey} (h:ks.length≤1048576) (w:HelloWord):spec_HelloRight_m ks w=some (rightV ks w):=by
  unfold spec_HelloRight_m rightV;rw [sKeys_p h,bd_val,sWord_p,gcall_nb,bd_val]
  cases hk:keysOk ks
  · rfl
  · cases hw:wordOk w
    · rfl
    · rw [if_neg (by decide),lp_first ks.length (fun i=>(ks.getD i default).Id == w.Key) (fun i=>Sum.inl (sumV (ks.getD i default).Secret w == w.Sum)) (.inr ()) (fun i hi=>?_) (by rw [if_neg (by simp)]),bd_val]
      · cases hf:firstR (fun i=>(ks.getD i default).Id == w.Key) ks.length with
        | some i =>
          obtain ⟨q1,q2,_⟩:=firstR_some hf;dsimp only [Option.map,Option.getD]
          congr 1
          rw [Bool.true_and,Bool.true_and]
          cases hs:(sumV (ks.getD i default).Secret w == w.Sum)
          · symm
            rw [Bool.eq_false_iff];intro c;obtain ⟨r,hr,ht⟩:=List.any_eq_true.1 c;obtain ⟨j,hj,rfl⟩:=mem_getD hr;simp only [keyFits,Bool.and_eq_true] at ht;have:i=j:=keys_one hk q1 hj (by rw [eq_of_beq q2,eq_of_beq ht.1]);subst this;rw [hs] at ht
            cases ht.2
          · symm
            refine List.any_eq_true.2 ⟨_,getD_mem q1,?_⟩;unfold keyFits;rw [q2,hs]; rfl
        | none =>
          dsimp only [Option.map,Option.getD]
          congr 1
          rw [Bool.true_and,Bool.true_and]
          symm
          rw [Bool.eq_false_iff];intro c;obtain ⟨r,hr,ht⟩:=List.any_eq_true.1 c;obtain ⟨j,hj,rfl⟩:=mem_getD hr;simp only [keyFits,Bool.and_eq_true] at ht;have:=firstR_none hf j hj;rw [ht.1] at this
          cases this
      · rw [if_pos (by simp; omega),gd_pos (by omega),Int.toNat_natCast,wrap_succ hi (by omega),gd_pos (by omega),sSum_p,bd_val];split <;> rfl
end Go.Proofs.YtaoeomoepefojaaGreat
