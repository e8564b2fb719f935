/-
  Plain Lean: checksums of words, words that are ok, words that are right.
-/
import Derived.Test.YtjgjdobkahdgfaaGreatKz5
import Derived.Test.YtjgjdobkahdgfaaGreatHelTz
import Derived.Test.YtjgjdobkahdgfaaGreatHelLz
set_option linter.all false
namespace Go.Proofs.YtjgjdobkahdgfaaGreat
open Go Go.Ab
set_option maxHeartbeats 1000000
set_option maxRecDepth 100000
def Qj4 (a b:Int):Int:=(a*48271+b % 2147483647+1) % 2147483647
theorem Qh4 (a b:Int):0≤Qj4 a b∧Qj4 a b < 2147483647:=by unfold Qj4; omega
theorem Qur (x:Int):x.tmod 2147483647=if 0≤x then x % 2147483647 else -((-x) % 2147483647):=by
  split
  · exact Int.tmod_eq_emod_of_nonneg (by assumption)
  · have:x=-(-x):=by omega
    rw [this,Int.neg_tmod,Int.tmod_eq_emod_of_nonneg (by omega)];simp
theorem QlU {x:Int} (h:0≤x) (h1:x≤9223372036854775807):(IntKind.i64.wrap x).tmod 2147483647=x % 2147483647:=by
  rw [wrap_i64 (by omega) (by omega),Qur,if_pos h]
theorem Qrb {a b:Int} (h:0≤a∧a < 2147483647):Qat a b=some (Qj4 a b):=by
  have hb:=Qur b;unfold Qat Qj4;rw [Qn (by decide)];generalize b.tmod 2147483647=r at *;have hr:-2147483647 < r∧r < 2147483647∧(r < 0→r+2147483647=b % 2147483647)∧(0≤r→r=b % 2147483647):=by
    split at hb <;> omega
  by_cases c:r < 0
  · rw [if_pos (by simpa using c),Qn (by decide),wrap_i64 (n:=r+2147483647) (by omega) (by omega),wrap_i64 (n:=a*48271) (by omega) (by omega),hr.2.2.1 c,wrap_i64 (n:=a*48271+b % 2147483647) (by omega) (by omega),QlU (by omega) (by omega)]
  · rw [if_neg (by simpa using c),Qn (by decide),wrap_i64 (n:=a*48271) (by omega) (by omega),hr.2.2.2 (by omega),wrap_i64 (n:=a*48271+b % 2147483647) (by omega) (by omega),QlU (by omega) (by omega)]
theorem QeD (xs:List Int) {a:Int} (h:0≤a∧a < 2147483647):0≤xs.foldl Qj4 a∧xs.foldl Qj4 a < 2147483647:=by
  induction xs generalizing a with
  | nil=>exact h
  | cons x r ih=>exact ih (Qh4 a x)
theorem QmQ {xs:List Int} {i:Nat} (hi:i < xs.length) (a:Int):(xs.take (i+1)).foldl Qj4 a=Qj4 ((xs.take i).foldl Qj4 a) (xs.getD i default):=by
  have g1:xs.getD i default=xs[i]:=by rw [List.getD_eq_getElem?_getD,List.getElem?_eq_getElem hi]; rfl
  rw [List.take_succ,List.getElem?_eq_getElem hi,List.foldl_append,g1]
  rfl
theorem QoM {a:Int} (h:0≤a∧a < 2147483647) {xs:List Int} (hl:xs.length≤1048576):QbQ a xs=some (xs.foldl Qj4 a):=by
  unfold QbQ;obtain ⟨e,inv⟩:=QjG (step:=(fun s1:Int × Int =>
    (if (decide (s1.2 < ((xs.length:Nat):Int)))=true then
    gd ((0:Int)≤s1.2∧s1.2 < ((xs.length:Nat):Int)) <|
    gd ((2147483647:Int) ≠ 0) <|
    gd ((2147483647:Int) ≠ 0) <|
    gd ((2147483647:Int) ≠ 0) <|
    some (.inl (((IntKind.i64.wrap ((IntKind.i64.wrap ((IntKind.i64.wrap (48271*s1.1))+((IntKind.i64.wrap ((((xs.getD s1.2.toNat default):Int).tmod 2147483647)+2147483647):Int).tmod 2147483647)))+1):Int).tmod 2147483647),IntKind.i64.wrap (s1.2+1)))
    else
    some (.inr s1.1):Option ((Int × Int) ⊕ Int)))) xs.length (fun s i=>Qj4 s (xs.getD i default)) (fun s=>s) a
    (fun i s=>s=(xs.take i).foldl Qj4 a) (by simp) (fun i s hi hs=>by rw [QmQ hi,hs]) (fun i s hi hs=>by
      have hr:=QeD (xs.take i) h;rw [← hs] at hr;dsimp only;rw [if_pos (by simp; omega),Qn (by omega),Qn (by decide),Qn (by decide),Qn (by decide),Int.toNat_natCast,QD hi (by omega)];generalize xs.getD i default=b;have hb:=Qur b;unfold Qj4;generalize b.tmod 2147483647=r at *;have hq:0≤r+2147483647∧r+2147483647≤9223372036854775807∧(r+2147483647) % 2147483647=b % 2147483647:=by
        split at hb <;> omega
      rw [QlU hq.1 hq.2.1,hq.2.2,wrap_i64 (n:=48271*s) (by omega) (by omega),wrap_i64 (n:=48271*s+b % 2147483647) (by omega) (by omega),QlU (by omega) (by omega),Int.mul_comm]) (fun s _=>by
      dsimp only;rw [if_neg (by simp)])
  rw [e,Qb,inv,List.take_length]
def Qwb (s:Int) (w:Qwl):List Int:=[s,w.From,w.To,w.Key,w.Boot,w.Yours,w.Turn,w.Num,w.Heard,w.Change.Kind,w.Change.Entry.Addr,w.Change.Entry.Len,w.Change.Entry.Cost,w.Change.Entry.Label,s]
def QsT (s:Int) (w:Qwl):Int:=(Qwb s w).foldl Qj4 0
theorem QtF (s:Int) (w:Qwl):QaO s w=some (QsT s w):=by
  unfold QaO;rw [QoM (by decide) (by simp),Qb,QoM (QeD _ (by decide)) (by simp),Qb]
  rfl
theorem QoN (s:Int) (w:Qwl):Qab s w=some (QsT s w):=by
  unfold Qab;rw [Qrb (by decide),Qb];have hs:QsT s w=Qj4 (([w.From,w.To,w.Key,w.Boot,w.Yours,w.Turn,w.Num,w.Heard,w.Change.Kind,w.Change.Entry.Addr,w.Change.Entry.Len,w.Change.Entry.Cost,w.Change.Entry.Label]:List Int).foldl Qj4 (Qj4 0 s)) s:=rfl;rw [hs];have hl:([w.From,w.To,w.Key,w.Boot,w.Yours,w.Turn,w.Num,w.Heard,w.Change.Kind,w.Change.Entry.Addr,w.Change.Entry.Len,w.Change.Entry.Cost,w.Change.Entry.Label]:List Int).length≤13:=by simp
  generalize ([w.From,w.To,w.Key,w.Boot,w.Yours,w.Turn,w.Num,w.Heard,w.Change.Kind,w.Change.Entry.Addr,w.Change.Entry.Len,w.Change.Entry.Cost,w.Change.Entry.Label]:List Int)=xs at *;obtain ⟨e,inv⟩:=QjG (step:=(fun s2:Int × Int =>
    (if (decide (s2.2 < ((xs.length:Nat):Int)))=true then
    gd ((0:Int)≤s2.2∧s2.2 < ((xs.length:Nat):Int)) <|
    bd (Qat s2.1 (xs.getD s2.2.toNat default)) fun x7 =>
    some (.inl (x7,IntKind.i64.wrap (s2.2+1)))
    else
    some (.inr s2.1):Option ((Int × Int) ⊕ Int)))) xs.length (fun s i=>Qj4 s (xs.getD i default)) (fun s=>s) (Qj4 0 s)
    (fun i s1=>s1=(xs.take i).foldl Qj4 (Qj4 0 s)) (by simp) (fun i s1 hi hs=>by rw [QmQ hi,hs]) (fun i s1 hi hs=>by
      have hr:=QeD (xs.take i) (Qh4 0 s);rw [← hs] at hr;dsimp only;rw [if_pos (by simp; omega),Qn (by omega),Int.toNat_natCast,QD hi (by omega),Qrb hr,Qb]) (fun s _=>by
      dsimp only;rw [if_neg (by simp)])
  rw [e,Qb,inv,List.take_length,Qrb (QeD _ (Qh4 _ _)),Qb]
def Je (w:Qwl):Bool:=inR w.From 0 65535 && inR w.To 0 65535 && inR w.Key 1 9 && inR w.Boot 1 999 && inR w.Yours 0 999 && inR w.Turn 1 1000000 && inR w.Num 0 w.Turn && inR w.Heard 0 1000000 && inR w.Sum 0 2147483646 && QU w.Change && ((w.Change.Kind == 0) || decide (w.Num > 0))
theorem QnK (w:Qwl):Jl w=some (Je w):=by
  unfold Jl Je;rw [Z1,Qb,Z1,Zf,Qb,Z1,Zf,Qb];split
  · rename_i c; congr 1; grind
  · rename_i c1;rw [Z1,Qb,Z1,Zf,Qb,Z1,Zf,Qb];split
    · rename_i c; congr 1; grind
    · rename_i c2;rw [Z1,Qb,Z1,Zf,Qb,Z1,Zf,Qb];split
      · rename_i c; congr 1; grind
      · rename_i c3;rw [QmP,Qb]
        congr 1; grind
theorem QnL (w:Qwl):Ji w=some (Je w):=by
  unfold Ji Je;rw [JF,Qb,JF,Zf,Qb,JF,Zf,Qb,JF,Zf,Qb,JF,Zf,Qb];split
  · rename_i c; congr 1; grind
  · rename_i c1;rw [JF,Qb,JF,Zf,Qb,JF,Zf,Qb,JF,Zf,Qb];split
    · rename_i c; congr 1; grind
    · rename_i c2;rw [QmO,Qb]
      congr 1; grind
def Qej (w:Qwl) (k:Qwf):Bool:=(k.Id == w.Key) && (QsT k.Secret w == w.Sum)
def QO (ks:List Qwf) (w:Qwl):Bool:=Qbc ks && Je w && ks.any (Qej w)
theorem Qrc {ks:List Qwf} {p:Qwf→Bool}:(Z3 (fun i=>p (ks.getD i default)) ks.length).isSome=ks.any p:=by
  cases hf:Z3 (fun i=>p (ks.getD i default)) ks.length with
  | some i =>
    obtain ⟨q1,q2,_⟩:=ZY hf;exact (List.any_eq_true.2 ⟨_,Zo q1,q2⟩).symm
  | none =>
    cases hs:ks.any p
    · rfl
    · obtain ⟨r,hr,ht⟩:=List.any_eq_true.1 hs;obtain ⟨i,hi,rfl⟩:=Qal hr;have:=QaE hf i hi;rw [ht] at this; cases this
theorem QoO {ks:List Qwf} (h:ks.length≤1048576) (w:Qwl):J8 ks w=some (QO ks w):=by
  have e0:∀ k:Qwf,Qah k w=some (Qej w k):=fun k=>by
    unfold Qah Qej;rw [QtF,JE,Qb]
    cases k.Id == w.Key <;> rfl
  have e:QA ks w=some (match Z3 (fun i=>Qej w (ks.getD i default)) ks.length with | some i=>(i:Int) | none=>-1):=by
    unfold QA;rw [Qbs ks.length (fun i=>Qej w (ks.getD i default)) (fun i=>Sum.inl (i:Int)) (.inr ()) (fun i hi=>?_) (by rw [if_neg (by simp)]),Qb]
    · cases Z3 (fun i=>Qej w (ks.getD i default)) ks.length <;> rfl
    · rw [if_pos (by simp; omega),Qn (by omega),Int.toNat_natCast,QD hi (by omega),e0,Qb];split <;> simp_all
  unfold J8 QO QI;rw [QlR h,Qb,QnK,QfN,Qb,e,Qb,QfN,Qb,← Qrc]
  cases hf:Z3 (fun i=>Qej w (ks.getD i default)) ks.length with
  | some i =>
    have:decide ((i:Int) ≥ 0)=true:=by simp
    dsimp only [Option.isSome];rw [this]
    cases Qbc ks <;> cases Je w <;> rfl
  | none =>
    dsimp only [Option.isSome]
    cases Qbc ks <;> cases Je w <;> rfl
theorem QsU {ks:List Qwf} (h:Qbc ks=true) {i j:Nat} (hi:i < ks.length) (hj:j < ks.length) (e:(ks.getD i default).Id=(ks.getD j default).Id):i=j:=by
  simp only [Qbc,Bool.and_eq_true] at h;have st:∀ n,0 < n→n < ks.length→(ks.getD (n - 1) default).Id < (ks.getD n default).Id:=fun n h0 hn=>by
    have:=QeZ h.2 hn;simp only [Qr9,Bool.and_eq_true,Bool.or_eq_true,decide_eq_true_eq] at this;rcases this.2 with c | c
    · omega
    · exact c
  have lt:∀ a b,a < b→b < ks.length→(ks.getD a default).Id < (ks.getD b default).Id:=fun a b hab hb=>by
    induction b with
    | zero=>omega
    | succ b ih =>
      have s:=st (b+1) (by omega) hb;rw [Nat.add_sub_cancel] at s;rcases Nat.lt_or_ge a b with c | c
      · have:=ih c (by omega); omega
      · have:a=b:=by omega
        subst this; exact s
  rcases Nat.lt_trichotomy i j with c | c | c
  · have:=lt i j c hj; omega
  · exact c
  · have:=lt j i c hi; omega
theorem Qhx {ks:List Qwf} (h:ks.length≤1048576) (w:Qwl):ZN ks w=some (QO ks w):=by
  unfold ZN QO;rw [QnE h,Qb,QnL,Zf,Qb]
  cases hk:Qbc ks
  · rfl
  · cases hw:Je w
    · rfl
    · rw [if_neg (by decide),Qbs ks.length (fun i=>(ks.getD i default).Id == w.Key) (fun i=>Sum.inl (QsT (ks.getD i default).Secret w == w.Sum)) (.inr ()) (fun i hi=>?_) (by rw [if_neg (by simp)]),Qb]
      · cases hf:Z3 (fun i=>(ks.getD i default).Id == w.Key) ks.length with
        | some i =>
          obtain ⟨q1,q2,_⟩:=ZY hf;dsimp only [Option.map,Option.getD]
          congr 1
          rw [Bool.true_and,Bool.true_and]
          cases hs:(QsT (ks.getD i default).Secret w == w.Sum)
          · symm
            rw [Bool.eq_false_iff];intro c;obtain ⟨r,hr,ht⟩:=List.any_eq_true.1 c;obtain ⟨j,hj,rfl⟩:=Qal hr;simp only [Qej,Bool.and_eq_true] at ht;have:i=j:=QsU hk q1 hj (by rw [eq_of_beq q2,eq_of_beq ht.1]);subst this;rw [hs] at ht
            cases ht.2
          · symm
            refine List.any_eq_true.2 ⟨_,Zo q1,?_⟩;unfold Qej;rw [q2,hs]; rfl
        | none =>
          dsimp only [Option.map,Option.getD]
          congr 1
          rw [Bool.true_and,Bool.true_and]
          symm
          rw [Bool.eq_false_iff];intro c;obtain ⟨r,hr,ht⟩:=List.any_eq_true.1 c;obtain ⟨j,hj,rfl⟩:=Qal hr;simp only [Qej,Bool.and_eq_true] at ht;have:=QaE hf j hj;rw [ht.1] at this
          cases this
      · rw [if_pos (by simp; omega),Qn (by omega),Int.toNat_natCast,QD hi (by omega),Qn (by omega),QoN,Qb];split <;> rfl
end Go.Proofs.YtjgjdobkahdgfaaGreat
