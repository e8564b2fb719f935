/-
  Plain Lean: checksums of words, words that are ok, words that are right.
-/
import Derived.Test.YtjgjdobkahdgfaaGreatKz6
import Derived.Test.YtjgjdobkahdgfaaGreatHelTz
import Derived.Test.YtjgjdobkahdgfaaGreatHelLz
set_option linter.all false
namespace Go.Proofs.YtjgjdobkahdgfaaGreat
open Go Go.Ab
set_option maxHeartbeats 1000000
set_option maxRecDepth 100000
def Qko (a b:Int):Int:=(a*48271+b % 2147483647+1) % 2147483647
theorem Qir (a b:Int):0≤Qko a b∧Qko a b < 2147483647:=by unfold Qko; omega
theorem Quk (x:Int):x.tmod 2147483647=if 0≤x then x % 2147483647 else -((-x) % 2147483647):=by
  split
  · exact Int.tmod_eq_emod_of_nonneg (by assumption)
  · have:x=-(-x):=by omega
    rw [this,Int.neg_tmod,Int.tmod_eq_emod_of_nonneg (by omega)];simp
theorem Qmm {x:Int} (h:0≤x) (h1:x≤9223372036854775807):(IntKind.i64.wrap x).tmod 2147483647=x % 2147483647:=by
  rw [wrap_i64 (by omega) (by omega),Quk,if_pos h]
theorem Qrw {a b:Int} (h:0≤a∧a < 2147483647):QaA a b=some (Qko a b):=by
  have hb:=Quk b;unfold QaA Qko;rw [Qn (by decide)];generalize b.tmod 2147483647=r at *;have hr:-2147483647 < r∧r < 2147483647∧(r < 0→r+2147483647=b % 2147483647)∧(0≤r→r=b % 2147483647):=by
    split at hb <;> omega
  by_cases c:r < 0
  · rw [if_pos (by simpa using c),Qn (by decide),wrap_i64 (n:=r+2147483647) (by omega) (by omega),wrap_i64 (n:=a*48271) (by omega) (by omega),hr.2.2.1 c,wrap_i64 (n:=a*48271+b % 2147483647) (by omega) (by omega),Qmm (by omega) (by omega)]
  · rw [if_neg (by simpa using c),Qn (by decide),wrap_i64 (n:=a*48271) (by omega) (by omega),hr.2.2.2 (by omega),wrap_i64 (n:=a*48271+b % 2147483647) (by omega) (by omega),Qmm (by omega) (by omega)]
theorem QeQ (xs:List Int) {a:Int} (h:0≤a∧a < 2147483647):0≤xs.foldl Qko a∧xs.foldl Qko a < 2147483647:=by
  induction xs generalizing a with
  | nil=>exact h
  | cons x r ih=>exact ih (Qir a x)
theorem Qni {xs:List Int} {i:Nat} (hi:i < xs.length) (a:Int):(xs.take (i+1)).foldl Qko a=Qko ((xs.take i).foldl Qko a) (xs.getD i default):=by
  have g1:xs.getD i default=xs[i]:=by rw [List.getD_eq_getElem?_getD,List.getElem?_eq_getElem hi]; rfl
  rw [List.take_succ,List.getElem?_eq_getElem hi,List.foldl_append,g1]
  rfl
theorem Qpb {a:Int} (h:0≤a∧a < 2147483647) {xs:List Int} (hl:xs.length≤1048576):QbX a xs=some (xs.foldl Qko a):=by
  unfold QbX;obtain ⟨e,inv⟩:=Qmd (step:=(fun s1:Int × Int =>
    (if (decide (s1.2 < ((xs.length:Nat):Int)))=true then
    gd ((0:Int)≤s1.2∧s1.2 < ((xs.length:Nat):Int)) <|
    gd ((2147483647:Int) ≠ 0) <|
    gd ((2147483647:Int) ≠ 0) <|
    gd ((2147483647:Int) ≠ 0) <|
    some (.inl (((IntKind.i64.wrap ((IntKind.i64.wrap ((IntKind.i64.wrap (48271*s1.1))+((IntKind.i64.wrap ((((xs.getD s1.2.toNat default):Int).tmod 2147483647)+2147483647):Int).tmod 2147483647)))+1):Int).tmod 2147483647),IntKind.i64.wrap (s1.2+1)))
    else
    some (.inr s1.1):Option ((Int × Int) ⊕ Int)))) xs.length (fun s i=>Qko s (xs.getD i default)) (fun s=>s) a
    (fun i s=>s=(xs.take i).foldl Qko a) (by simp) (fun i s hi hs=>by rw [Qni hi,hs]) (fun i s hi hs=>by
      have hr:=QeQ (xs.take i) h;rw [← hs] at hr;dsimp only;rw [if_pos (by simp; omega),Qn (by omega),Qn (by decide),Qn (by decide),Qn (by decide),Int.toNat_natCast,QE hi (by omega)];generalize xs.getD i default=b;have hb:=Quk b;unfold Qko;generalize b.tmod 2147483647=r at *;have hq:0≤r+2147483647∧r+2147483647≤9223372036854775807∧(r+2147483647) % 2147483647=b % 2147483647:=by
        split at hb <;> omega
      rw [Qmm hq.1 hq.2.1,hq.2.2,wrap_i64 (n:=48271*s) (by omega) (by omega),wrap_i64 (n:=48271*s+b % 2147483647) (by omega) (by omega),Qmm (by omega) (by omega),Int.mul_comm]) (fun s _=>by
      dsimp only;rw [if_neg (by simp)])
  rw [e,Qb,inv,List.take_length]
def QvX (s:Int) (w:Qv7):List Int:=[s,w.From,w.To,w.Key,w.Boot,w.Yours,w.Turn,w.Num,w.Heard,w.Change.Kind,w.Change.Entry.Addr,w.Change.Entry.Len,w.Change.Entry.Cost,w.Change.Entry.Label,s]
def QsW (s:Int) (w:Qv7):Int:=(QvX s w).foldl Qko 0
theorem Qtw (s:Int) (w:Qv7):QaZ s w=some (QsW s w):=by
  unfold QaZ;rw [Qpb (by decide) (by simp),Qb,Qpb (QeQ _ (by decide)) (by simp),Qb]
  rfl
theorem Qnj (s:Int) (w:Qv7):JN s w=some (QsW s w):=by
  unfold JN;rw [Qrw (by decide),Qb];have hs:QsW s w=Qko (([w.From,w.To,w.Key,w.Boot,w.Yours,w.Turn,w.Num,w.Heard,w.Change.Kind,w.Change.Entry.Addr,w.Change.Entry.Len,w.Change.Entry.Cost,w.Change.Entry.Label]:List Int).foldl Qko (Qko 0 s)) s:=rfl;rw [hs];have hl:([w.From,w.To,w.Key,w.Boot,w.Yours,w.Turn,w.Num,w.Heard,w.Change.Kind,w.Change.Entry.Addr,w.Change.Entry.Len,w.Change.Entry.Cost,w.Change.Entry.Label]:List Int).length≤13:=by simp
  generalize ([w.From,w.To,w.Key,w.Boot,w.Yours,w.Turn,w.Num,w.Heard,w.Change.Kind,w.Change.Entry.Addr,w.Change.Entry.Len,w.Change.Entry.Cost,w.Change.Entry.Label]:List Int)=xs at *;obtain ⟨e,inv⟩:=Qmd (step:=(fun s2:Int × Int =>
    (if (decide (s2.2 < ((xs.length:Nat):Int)))=true then
    gd ((0:Int)≤s2.2∧s2.2 < ((xs.length:Nat):Int)) <|
    bd (QaA s2.1 (xs.getD s2.2.toNat default)) fun x7 =>
    some (.inl (x7,IntKind.i64.wrap (s2.2+1)))
    else
    some (.inr s2.1):Option ((Int × Int) ⊕ Int)))) xs.length (fun s i=>Qko s (xs.getD i default)) (fun s=>s) (Qko 0 s)
    (fun i s1=>s1=(xs.take i).foldl Qko (Qko 0 s)) (by simp) (fun i s1 hi hs=>by rw [Qni hi,hs]) (fun i s1 hi hs=>by
      have hr:=QeQ (xs.take i) (Qir 0 s);rw [← hs] at hr;dsimp only;rw [if_pos (by simp; omega),Qn (by omega),Int.toNat_natCast,QE hi (by omega),Qrw hr,Qb]) (fun s _=>by
      dsimp only;rw [if_neg (by simp)])
  rw [e,Qb,inv,List.take_length,Qrw (QeQ _ (Qir _ _)),Qb]
def Zw (w:Qv7):Bool:=inR w.From 0 65535 && inR w.To 0 65535 && inR w.Key 1 9 && inR w.Boot 1 999 && inR w.Yours 0 999 && inR w.Turn 1 1000000 && inR w.Num 0 w.Turn && inR w.Heard 0 1000000 && inR w.Sum 0 2147483646 && Zc w.Change && ((w.Change.Kind == 0) || decide (w.Num > 0))
theorem Qoa (w:Qv7):Jn w=some (Zw w):=by
  unfold Jn Zw;rw [Jj,Qb,Jj,Zg,Qb,Jj,Zg,Qb];split
  · rename_i c; congr 1; grind
  · rename_i c1;rw [Jj,Qb,Jj,Zg,Qb,Jj,Zg,Qb];split
    · rename_i c; congr 1; grind
    · rename_i c2;rw [Jj,Qb,Jj,Zg,Qb,Jj,Zg,Qb];split
      · rename_i c; congr 1; grind
      · rename_i c3;rw [Qnh,Qb]
        congr 1; grind
theorem Qmn (w:Qv7):Jl w=some (Zw w):=by
  unfold Jl Zw;rw [Jy,Qb,Jy,Zg,Qb,Jy,Zg,Qb,Jy,Zg,Qb,Jy,Zg,Qb];split
  · rename_i c; congr 1; grind
  · rename_i c1;rw [Jy,Qb,Jy,Zg,Qb,Jy,Zg,Qb,Jy,Zg,Qb];split
    · rename_i c; congr 1; grind
    · rename_i c2;rw [Qng,Qb]
      congr 1; grind
def Qes (w:Qv7) (k:Qv1):Bool:=(k.Id == w.Key) && (QsW k.Secret w == w.Sum)
def Zk (ks:List Qv1) (w:Qv7):Bool:=Qbx ks && Zw w && ks.any (Qes w)
theorem Qrx {ks:List Qv1} {p:Qv1→Bool}:(Z7 (fun i=>p (ks.getD i default)) ks.length).isSome=ks.any p:=by
  cases hf:Z7 (fun i=>p (ks.getD i default)) ks.length with
  | some i =>
    obtain ⟨q1,q2,_⟩:=Z9 hf;exact (List.any_eq_true.2 ⟨_,ZG q1,q2⟩).symm
  | none =>
    cases hs:ks.any p
    · rfl
    · obtain ⟨r,hr,ht⟩:=List.any_eq_true.1 hs;obtain ⟨i,hi,rfl⟩:=Qby hr;have:=QaN hf i hi;rw [ht] at this; cases this
theorem Qpc {ks:List Qv1} (h:ks.length≤1048576) (w:Qv7):Qaj ks w=some (Zk ks w):=by
  have e0:∀ k:Qv1,Qas k w=some (Qes w k):=fun k=>by
    unfold Qas Qes;rw [Qtw,JU,Qb]
    cases k.Id == w.Key <;> rfl
  have e:QB ks w=some (match Z7 (fun i=>Qes w (ks.getD i default)) ks.length with | some i=>(i:Int) | none=>-1):=by
    unfold QB;rw [Qbw ks.length (fun i=>Qes w (ks.getD i default)) (fun i=>Sum.inl (i:Int)) (.inr ()) (fun i hi=>?_) (by rw [if_neg (by simp)]),Qb]
    · cases Z7 (fun i=>Qes w (ks.getD i default)) ks.length <;> rfl
    · rw [if_pos (by simp; omega),Qn (by omega),Int.toNat_natCast,QE hi (by omega),e0,Qb];split <;> simp_all
  unfold Qaj Zk QK;rw [Qmj h,Qb,Qoa,Qf0,Qb,e,Qb,Qf0,Qb,← Qrx]
  cases hf:Z7 (fun i=>Qes w (ks.getD i default)) ks.length with
  | some i =>
    have:decide ((i:Int) ≥ 0)=true:=by simp
    dsimp only [Option.isSome];rw [this]
    cases Qbx ks <;> cases Zw w <;> rfl
  | none =>
    dsimp only [Option.isSome]
    cases Qbx ks <;> cases Zw w <;> rfl
theorem QsX {ks:List Qv1} (h:Qbx ks=true) {i j:Nat} (hi:i < ks.length) (hj:j < ks.length) (e:(ks.getD i default).Id=(ks.getD j default).Id):i=j:=by
  simp only [Qbx,Bool.and_eq_true] at h;have st:∀ n,0 < n→n < ks.length→(ks.getD (n - 1) default).Id < (ks.getD n default).Id:=fun n h0 hn=>by
    have:=Qei h.2 hn;simp only [Qsc,Bool.and_eq_true,Bool.or_eq_true,decide_eq_true_eq] at this;rcases this.2 with c | c
    · omega
    · exact c
  have lt:∀ a b,a < b→b < ks.length→(ks.getD a default).Id < (ks.getD b default).Id:=fun a b hab hb=>by
    induction b with
    | zero=>omega
    | succ b ih =>
      have s:=st (b+1) (by omega) hb;rw [Nat.add_sub_cancel] at s;rcases Nat.lt_or_ge a b with c | c
      · have:=ih c (by omega); omega
      · have:a=b:=by omega
        subst this; exact s
  rcases Nat.lt_trichotomy i j with c | c | c
  · have:=lt i j c hj; omega
  · exact c
  · have:=lt j i c hi; omega
theorem Qfh {ks:List Qv1} (h:ks.length≤1048576) (w:Qv7):ZQ ks w=some (Zk ks w):=by
  unfold ZQ Zk;rw [Qka h,Qb,Qmn,Zg,Qb]
  cases hk:Qbx ks
  · rfl
  · cases hw:Zw w
    · rfl
    · rw [if_neg (by decide),Qbw ks.length (fun i=>(ks.getD i default).Id == w.Key) (fun i=>Sum.inl (QsW (ks.getD i default).Secret w == w.Sum)) (.inr ()) (fun i hi=>?_) (by rw [if_neg (by simp)]),Qb]
      · cases hf:Z7 (fun i=>(ks.getD i default).Id == w.Key) ks.length with
        | some i =>
          obtain ⟨q1,q2,_⟩:=Z9 hf;dsimp only [Option.map,Option.getD]
          congr 1
          rw [Bool.true_and,Bool.true_and]
          cases hs:(QsW (ks.getD i default).Secret w == w.Sum)
          · symm
            rw [Bool.eq_false_iff];intro c;obtain ⟨r,hr,ht⟩:=List.any_eq_true.1 c;obtain ⟨j,hj,rfl⟩:=Qby hr;simp only [Qes,Bool.and_eq_true] at ht;have:i=j:=QsX hk q1 hj (by rw [eq_of_beq q2,eq_of_beq ht.1]);subst this;rw [hs] at ht
            cases ht.2
          · symm
            refine List.any_eq_true.2 ⟨_,ZG q1,?_⟩;unfold Qes;rw [q2,hs]; rfl
        | none =>
          dsimp only [Option.map,Option.getD]
          congr 1
          rw [Bool.true_and,Bool.true_and]
          symm
          rw [Bool.eq_false_iff];intro c;obtain ⟨r,hr,ht⟩:=List.any_eq_true.1 c;obtain ⟨j,hj,rfl⟩:=Qby hr;simp only [Qes,Bool.and_eq_true] at ht;have:=QaN hf j hj;rw [ht.1] at this
          cases this
      · rw [if_pos (by simp; omega),Qn (by omega),Int.toNat_natCast,QE hi (by omega),Qn (by omega),Qnj,Qb];split <;> rfl
end Go.Proofs.YtjgjdobkahdgfaaGreat
