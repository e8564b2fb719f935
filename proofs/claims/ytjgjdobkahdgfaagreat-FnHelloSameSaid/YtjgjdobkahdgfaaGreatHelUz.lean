/-
  Plain Lean: checksums of words, words that are ok, words that are right.
-/
import Derived.Test.YtjgjdobkahdgfaaGreatKz5
import Derived.Test.YtjgjdobkahdgfaaGreatHelTz
import Derived.Test.YtjgjdobkahdgfaaGreatHelLz
set_option linter.all false
namespace Go.Proofs.YtjgjdobkahdgfaaGreat
open Go Go.Ab
set_option maxHeartbeats 1000000
set_option maxRecDepth 100000
def Qku (a b:Int):Int:=(a*48271+b % 2147483647+1) % 2147483647
theorem Qis (a b:Int):0≤Qku a b∧Qku a b < 2147483647:=by unfold Qku; omega
theorem Qvk (x:Int):x.tmod 2147483647=if 0≤x then x % 2147483647 else -((-x) % 2147483647):=by
  split
  · exact Int.tmod_eq_emod_of_nonneg (by assumption)
  · have:x=-(-x):=by omega
    rw [this,Int.neg_tmod,Int.tmod_eq_emod_of_nonneg (by omega)];simp
theorem Qmm {x:Int} (h:0≤x) (h1:x≤9223372036854775807):(IntKind.i64.wrap x).tmod 2147483647=x % 2147483647:=by
  rw [wrap_i64 (by omega) (by omega),Qvk,if_pos h]
theorem Qr4 {a b:Int} (h:0≤a∧a < 2147483647):QaD a b=some (Qku a b):=by
  have hb:=Qvk b;unfold QaD Qku;rw [Qp (by decide)];generalize b.tmod 2147483647=r at *;have hr:-2147483647 < r∧r < 2147483647∧(r < 0→r+2147483647=b % 2147483647)∧(0≤r→r=b % 2147483647):=by
    split at hb <;> omega
  by_cases c:r < 0
  · rw [if_pos (by simpa using c),Qp (by decide),wrap_i64 (n:=r+2147483647) (by omega) (by omega),wrap_i64 (n:=a*48271) (by omega) (by omega),hr.2.2.1 c,wrap_i64 (n:=a*48271+b % 2147483647) (by omega) (by omega),Qmm (by omega) (by omega)]
  · rw [if_neg (by simpa using c),Qp (by decide),wrap_i64 (n:=a*48271) (by omega) (by omega),hr.2.2.2 (by omega),wrap_i64 (n:=a*48271+b % 2147483647) (by omega) (by omega),Qmm (by omega) (by omega)]
theorem QeU (xs:List Int) {a:Int} (h:0≤a∧a < 2147483647):0≤xs.foldl Qku a∧xs.foldl Qku a < 2147483647:=by
  induction xs generalizing a with
  | nil=>exact h
  | cons x r ih=>exact ih (Qis a x)
theorem Qnp {xs:List Int} {i:Nat} (hi:i < xs.length) (a:Int):(xs.take (i+1)).foldl Qku a=Qku ((xs.take i).foldl Qku a) (xs.getD i default):=by
  have g1:xs.getD i default=xs[i]:=by rw [List.getD_eq_getElem?_getD,List.getElem?_eq_getElem hi]; rfl
  rw [List.take_succ,List.getElem?_eq_getElem hi,List.foldl_append,g1]
  rfl
theorem Qpv {a:Int} (h:0≤a∧a < 2147483647) {xs:List Int} (hl:xs.length≤1048576):Qb3 a xs=some (xs.foldl Qku a):=by
  unfold Qb3;obtain ⟨e,inv⟩:=Qj7 (step:=(fun s1:Int × Int =>
    (if (decide (s1.2 < ((xs.length:Nat):Int)))=true then
    gd ((0:Int)≤s1.2∧s1.2 < ((xs.length:Nat):Int)) <|
    gd ((2147483647:Int) ≠ 0) <|
    gd ((2147483647:Int) ≠ 0) <|
    gd ((2147483647:Int) ≠ 0) <|
    some (.inl (((IntKind.i64.wrap ((IntKind.i64.wrap ((IntKind.i64.wrap (48271*s1.1))+((IntKind.i64.wrap ((((xs.getD s1.2.toNat default):Int).tmod 2147483647)+2147483647):Int).tmod 2147483647)))+1):Int).tmod 2147483647),IntKind.i64.wrap (s1.2+1)))
    else
    some (.inr s1.1):Option ((Int × Int) ⊕ Int)))) xs.length (fun s i=>Qku s (xs.getD i default)) (fun s=>s) a
    (fun i s=>s=(xs.take i).foldl Qku a) (by simp) (fun i s hi hs=>by rw [Qnp hi,hs]) (fun i s hi hs=>by
      have hr:=QeU (xs.take i) h;rw [← hs] at hr;dsimp only;rw [if_pos (by simp; omega),Qp (by omega),Qp (by decide),Qp (by decide),Qp (by decide),Int.toNat_natCast,QK hi (by omega)];generalize xs.getD i default=b;have hb:=Qvk b;unfold Qku;generalize b.tmod 2147483647=r at *;have hq:0≤r+2147483647∧r+2147483647≤9223372036854775807∧(r+2147483647) % 2147483647=b % 2147483647:=by
        split at hb <;> omega
      rw [Qmm hq.1 hq.2.1,hq.2.2,wrap_i64 (n:=48271*s) (by omega) (by omega),wrap_i64 (n:=48271*s+b % 2147483647) (by omega) (by omega),Qmm (by omega) (by omega),Int.mul_comm]) (fun s _=>by
      dsimp only;rw [if_neg (by simp)])
  rw [e,Qb,inv,List.take_length]
def Qw4 (s:Int) (w:Qxd):List Int:=[s,w.From,w.To,w.Key,w.Boot,w.Yours,w.Turn,w.Num,w.Heard,w.Change.Kind,w.Change.Entry.Addr,w.Change.Entry.Len,w.Change.Entry.Cost,w.Change.Entry.Label,s]
def Qq5 (s:Int) (w:Qxd):Int:=(Qw4 s w).foldl Qku 0
theorem Qut (s:Int) (w:Qxd):Qa2 s w=some (Qq5 s w):=by
  unfold Qa2;rw [Qpv (by decide) (by simp),Qb,Qpv (QeU _ (by decide)) (by simp),Qb]
  rfl
theorem Qpw (s:Int) (w:Qxd):Qap s w=some (Qq5 s w):=by
  unfold Qap;rw [Qr4 (by decide),Qb];have hs:Qq5 s w=Qku (([w.From,w.To,w.Key,w.Boot,w.Yours,w.Turn,w.Num,w.Heard,w.Change.Kind,w.Change.Entry.Addr,w.Change.Entry.Len,w.Change.Entry.Cost,w.Change.Entry.Label]:List Int).foldl Qku (Qku 0 s)) s:=rfl;rw [hs];have hl:([w.From,w.To,w.Key,w.Boot,w.Yours,w.Turn,w.Num,w.Heard,w.Change.Kind,w.Change.Entry.Addr,w.Change.Entry.Len,w.Change.Entry.Cost,w.Change.Entry.Label]:List Int).length≤13:=by simp
  generalize ([w.From,w.To,w.Key,w.Boot,w.Yours,w.Turn,w.Num,w.Heard,w.Change.Kind,w.Change.Entry.Addr,w.Change.Entry.Len,w.Change.Entry.Cost,w.Change.Entry.Label]:List Int)=xs at *;obtain ⟨e,inv⟩:=Qj7 (step:=(fun s2:Int × Int =>
    (if (decide (s2.2 < ((xs.length:Nat):Int)))=true then
    gd ((0:Int)≤s2.2∧s2.2 < ((xs.length:Nat):Int)) <|
    bd (QaD s2.1 (xs.getD s2.2.toNat default)) fun x7 =>
    some (.inl (x7,IntKind.i64.wrap (s2.2+1)))
    else
    some (.inr s2.1):Option ((Int × Int) ⊕ Int)))) xs.length (fun s i=>Qku s (xs.getD i default)) (fun s=>s) (Qku 0 s)
    (fun i s1=>s1=(xs.take i).foldl Qku (Qku 0 s)) (by simp) (fun i s1 hi hs=>by rw [Qnp hi,hs]) (fun i s1 hi hs=>by
      have hr:=QeU (xs.take i) (Qis 0 s);rw [← hs] at hr;dsimp only;rw [if_pos (by simp; omega),Qp (by omega),Int.toNat_natCast,QK hi (by omega),Qr4 hr,Qb]) (fun s _=>by
      dsimp only;rw [if_neg (by simp)])
  rw [e,Qb,inv,List.take_length,Qr4 (QeU _ (Qis _ _)),Qb]
def Z4 (w:Qxd):Bool:=inR w.From 0 65535 && inR w.To 0 65535 && inR w.Key 1 9 && inR w.Boot 1 999 && inR w.Yours 0 999 && inR w.Turn 1 1000000 && inR w.Num 0 w.Turn && inR w.Heard 0 1000000 && inR w.Sum 0 2147483646 && QT w.Change && ((w.Change.Kind == 0) || decide (w.Num > 0))
theorem Qoo (w:Qxd):Jq w=some (Z4 w):=by
  unfold Jq Z4;rw [Z6,Qb,Z6,Zf,Qb,Z6,Zf,Qb];split
  · rename_i c; congr 1; grind
  · rename_i c1;rw [Z6,Qb,Z6,Zf,Qb,Z6,Zf,Qb];split
    · rename_i c; congr 1; grind
    · rename_i c2;rw [Z6,Qb,Z6,Zf,Qb,Z6,Zf,Qb];split
      · rename_i c; congr 1; grind
      · rename_i c3;rw [Qno,Qb]
        congr 1; grind
theorem Qop (w:Qxd):Jo w=some (Z4 w):=by
  unfold Jo Z4;rw [JL,Qb,JL,Zf,Qb,JL,Zf,Qb,JL,Zf,Qb,JL,Zf,Qb];split
  · rename_i c; congr 1; grind
  · rename_i c1;rw [JL,Qb,JL,Zf,Qb,JL,Zf,Qb,JL,Zf,Qb];split
    · rename_i c; congr 1; grind
    · rename_i c2;rw [Qnn,Qb]
      congr 1; grind
def Qeh (w:Qxd) (k:Qw7):Bool:=(k.Id == w.Key) && (Qq5 k.Secret w == w.Sum)
def QN (ks:List Qw7) (w:Qxd):Bool:=Qa5 ks && Z4 w && ks.any (Qeh w)
theorem Qr5 {ks:List Qw7} {p:Qw7→Bool}:(Z3 (fun i=>p (ks.getD i default)) ks.length).isSome=ks.any p:=by
  cases hf:Z3 (fun i=>p (ks.getD i default)) ks.length with
  | some i =>
    obtain ⟨q1,q2,_⟩:=ZF hf;exact (List.any_eq_true.2 ⟨_,Zj q1,q2⟩).symm
  | none =>
    cases hs:ks.any p
    · rfl
    · obtain ⟨r,hr,ht⟩:=List.any_eq_true.1 hs;obtain ⟨i,hi,rfl⟩:=Z7 hr;have:=JK hf i hi;rw [ht] at this; cases this
theorem Qpx {ks:List Qw7} (h:ks.length≤1048576) (w:Qxd):Qal ks w=some (QN ks w):=by
  have e0:∀ k:Qw7,Qas k w=some (Qeh w k):=fun k=>by
    unfold Qas Qeh;rw [Qut,Qdu,Qb]
    cases k.Id == w.Key <;> rfl
  have e:Qz ks w=some (match Z3 (fun i=>Qeh w (ks.getD i default)) ks.length with | some i=>(i:Int) | none=>-1):=by
    unfold Qz;rw [QbF ks.length (fun i=>Qeh w (ks.getD i default)) (fun i=>Sum.inl (i:Int)) (.inr ()) (fun i hi=>?_) (by rw [if_neg (by simp)]),Qb]
    · cases Z3 (fun i=>Qeh w (ks.getD i default)) ks.length <;> rfl
    · rw [if_pos (by simp; omega),Qp (by omega),Int.toNat_natCast,QK hi (by omega),e0,Qb];split <;> simp_all
  unfold Qal QN QH;rw [Qmk h,Qb,Qoo,Qf9,Qb,e,Qb,Qf9,Qb,← Qr5]
  cases hf:Z3 (fun i=>Qeh w (ks.getD i default)) ks.length with
  | some i =>
    have:decide ((i:Int) ≥ 0)=true:=by simp
    dsimp only [Option.isSome];rw [this]
    cases Qa5 ks <;> cases Z4 w <;> rfl
  | none =>
    dsimp only [Option.isSome]
    cases Qa5 ks <;> cases Z4 w <;> rfl
theorem QtM {ks:List Qw7} (h:Qa5 ks=true) {i j:Nat} (hi:i < ks.length) (hj:j < ks.length) (e:(ks.getD i default).Id=(ks.getD j default).Id):i=j:=by
  simp only [Qa5,Bool.and_eq_true] at h;have st:∀ n,0 < n→n < ks.length→(ks.getD (n - 1) default).Id < (ks.getD n default).Id:=fun n h0 hn=>by
    have:=Qfi h.2 hn;simp only [Qs3,Bool.and_eq_true,Bool.or_eq_true,decide_eq_true_eq] at this;rcases this.2 with c | c
    · omega
    · exact c
  have lt:∀ a b,a < b→b < ks.length→(ks.getD a default).Id < (ks.getD b default).Id:=fun a b hab hb=>by
    induction b with
    | zero=>omega
    | succ b ih =>
      have s:=st (b+1) (by omega) hb;rw [Nat.add_sub_cancel] at s;rcases Nat.lt_or_ge a b with c | c
      · have:=ih c (by omega); omega
      · have:a=b:=by omega
        subst this; exact s
  rcases Nat.lt_trichotomy i j with c | c | c
  · have:=lt i j c hj; omega
  · exact c
  · have:=lt j i c hi; omega
theorem QhV {ks:List Qw7} (h:ks.length≤1048576) (w:Qxd):ZO ks w=some (QN ks w):=by
  unfold ZO QN;rw [Qmj h,Qb,Qop,Zf,Qb]
  cases hk:Qa5 ks
  · rfl
  · cases hw:Z4 w
    · rfl
    · rw [if_neg (by decide),QbF ks.length (fun i=>(ks.getD i default).Id == w.Key) (fun i=>Sum.inl (Qq5 (ks.getD i default).Secret w == w.Sum)) (.inr ()) (fun i hi=>?_) (by rw [if_neg (by simp)]),Qb]
      · cases hf:Z3 (fun i=>(ks.getD i default).Id == w.Key) ks.length with
        | some i =>
          obtain ⟨q1,q2,_⟩:=ZF hf;dsimp only [Option.map,Option.getD]
          congr 1
          rw [Bool.true_and,Bool.true_and]
          cases hs:(Qq5 (ks.getD i default).Secret w == w.Sum)
          · symm
            rw [Bool.eq_false_iff];intro c;obtain ⟨r,hr,ht⟩:=List.any_eq_true.1 c;obtain ⟨j,hj,rfl⟩:=Z7 hr;simp only [Qeh,Bool.and_eq_true] at ht;have:i=j:=QtM hk q1 hj (by rw [eq_of_beq q2,eq_of_beq ht.1]);subst this;rw [hs] at ht
            cases ht.2
          · symm
            refine List.any_eq_true.2 ⟨_,Zj q1,?_⟩;unfold Qeh;rw [q2,hs]; rfl
        | none =>
          dsimp only [Option.map,Option.getD]
          congr 1
          rw [Bool.true_and,Bool.true_and]
          symm
          rw [Bool.eq_false_iff];intro c;obtain ⟨r,hr,ht⟩:=List.any_eq_true.1 c;obtain ⟨j,hj,rfl⟩:=Z7 hr;simp only [Qeh,Bool.and_eq_true] at ht;have:=JK hf j hj;rw [ht.1] at this
          cases this
      · rw [if_pos (by simp; omega),Qp (by omega),Int.toNat_natCast,QK hi (by omega),Qp (by omega),Qpw,Qb];split <;> rfl
end Go.Proofs.YtjgjdobkahdgfaaGreat
