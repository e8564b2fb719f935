/-
  Plain Lean: checksums of words, words that are ok, words that are right.
-/
import Derived.Test.YtjgjdobkahdgfaaGreatKz5
import Derived.Test.YtjgjdobkahdgfaaGreatHelTz
import Derived.Test.YtjgjdobkahdgfaaGreatHelLz
set_option linter.all false
namespace Go.Proofs.YtjgjdobkahdgfaaGreat
open Go Go.Ab
set_option maxHeartbeats 1000000
set_option maxRecDepth 100000
def QkH (a b:Int):Int:=(a*48271+b % 2147483647+1) % 2147483647
theorem QiB (a b:Int):0≤QkH a b∧QkH a b < 2147483647:=by unfold QkH; omega
theorem Qvu (x:Int):x.tmod 2147483647=if 0≤x then x % 2147483647 else -((-x) % 2147483647):=by
  split
  · exact Int.tmod_eq_emod_of_nonneg (by assumption)
  · have:x=-(-x):=by omega
    rw [this,Int.neg_tmod,Int.tmod_eq_emod_of_nonneg (by omega)];simp
theorem QmB {x:Int} (h:0≤x) (h1:x≤9223372036854775807):(IntKind.i64.wrap x).tmod 2147483647=x % 2147483647:=by
  rw [wrap_i64 (by omega) (by omega),Qvu,if_pos h]
theorem Qsi {a b:Int} (h:0≤a∧a < 2147483647):QaL a b=some (QkH a b):=by
  have hb:=Qvu b;unfold QaL QkH;rw [Qp (by decide)];generalize b.tmod 2147483647=r at *;have hr:-2147483647 < r∧r < 2147483647∧(r < 0→r+2147483647=b % 2147483647)∧(0≤r→r=b % 2147483647):=by
    split at hb <;> omega
  by_cases c:r < 0
  · rw [if_pos (by simpa using c),Qp (by decide),wrap_i64 (n:=r+2147483647) (by omega) (by omega),wrap_i64 (n:=a*48271) (by omega) (by omega),hr.2.2.1 c,wrap_i64 (n:=a*48271+b % 2147483647) (by omega) (by omega),QmB (by omega) (by omega)]
  · rw [if_neg (by simpa using c),Qp (by decide),wrap_i64 (n:=a*48271) (by omega) (by omega),hr.2.2.2 (by omega),wrap_i64 (n:=a*48271+b % 2147483647) (by omega) (by omega),QmB (by omega) (by omega)]
theorem Qe5 (xs:List Int) {a:Int} (h:0≤a∧a < 2147483647):0≤xs.foldl QkH a∧xs.foldl QkH a < 2147483647:=by
  induction xs generalizing a with
  | nil=>exact h
  | cons x r ih=>exact ih (QiB a x)
theorem QnG {xs:List Int} {i:Nat} (hi:i < xs.length) (a:Int):(xs.take (i+1)).foldl QkH a=QkH ((xs.take i).foldl QkH a) (xs.getD i default):=by
  have g1:xs.getD i default=xs[i]:=by rw [List.getD_eq_getElem?_getD,List.getElem?_eq_getElem hi]; rfl
  rw [List.take_succ,List.getElem?_eq_getElem hi,List.foldl_append,g1]
  rfl
theorem QpK {a:Int} (h:0≤a∧a < 2147483647) {xs:List Int} (hl:xs.length≤1048576):Qca a xs=some (xs.foldl QkH a):=by
  unfold Qca;obtain ⟨e,inv⟩:=Qkj (step:=(fun s1:Int × Int =>
    (if (decide (s1.2 < ((xs.length:Nat):Int)))=true then
    gd ((0:Int)≤s1.2∧s1.2 < ((xs.length:Nat):Int)) <|
    gd ((2147483647:Int) ≠ 0) <|
    gd ((2147483647:Int) ≠ 0) <|
    gd ((2147483647:Int) ≠ 0) <|
    some (.inl (((IntKind.i64.wrap ((IntKind.i64.wrap ((IntKind.i64.wrap (48271*s1.1))+((IntKind.i64.wrap ((((xs.getD s1.2.toNat default):Int).tmod 2147483647)+2147483647):Int).tmod 2147483647)))+1):Int).tmod 2147483647),IntKind.i64.wrap (s1.2+1)))
    else
    some (.inr s1.1):Option ((Int × Int) ⊕ Int)))) xs.length (fun s i=>QkH s (xs.getD i default)) (fun s=>s) a
    (fun i s=>s=(xs.take i).foldl QkH a) (by simp) (fun i s hi hs=>by rw [QnG hi,hs]) (fun i s hi hs=>by
      have hr:=Qe5 (xs.take i) h;rw [← hs] at hr;dsimp only;rw [if_pos (by simp; omega),Qp (by omega),Qp (by decide),Qp (by decide),Qp (by decide),Int.toNat_natCast,QM hi (by omega)];generalize xs.getD i default=b;have hb:=Qvu b;unfold QkH;generalize b.tmod 2147483647=r at *;have hq:0≤r+2147483647∧r+2147483647≤9223372036854775807∧(r+2147483647) % 2147483647=b % 2147483647:=by
        split at hb <;> omega
      rw [QmB hq.1 hq.2.1,hq.2.2,wrap_i64 (n:=48271*s) (by omega) (by omega),wrap_i64 (n:=48271*s+b % 2147483647) (by omega) (by omega),QmB (by omega) (by omega),Int.mul_comm]) (fun s _=>by
      dsimp only;rw [if_neg (by simp)])
  rw [e,Qb,inv,List.take_length]
def Qxi (s:Int) (w:Qxr):List Int:=[s,w.From,w.To,w.Key,w.Boot,w.Yours,w.Turn,w.Num,w.Heard,w.Change.Kind,w.Change.Entry.Addr,w.Change.Entry.Len,w.Change.Entry.Cost,w.Change.Entry.Label,s]
def Qrl (s:Int) (w:Qxr):Int:=(Qxi s w).foldl QkH 0
theorem QuD (s:Int) (w:Qxr):Qa8 s w=some (Qrl s w):=by
  unfold Qa8;rw [QpK (by decide) (by simp),Qb,QpK (Qe5 _ (by decide)) (by simp),Qb]
  rfl
theorem QpL (s:Int) (w:Qxr):Qav s w=some (Qrl s w):=by
  unfold Qav;rw [Qsi (by decide),Qb];have hs:Qrl s w=QkH (([w.From,w.To,w.Key,w.Boot,w.Yours,w.Turn,w.Num,w.Heard,w.Change.Kind,w.Change.Entry.Addr,w.Change.Entry.Len,w.Change.Entry.Cost,w.Change.Entry.Label]:List Int).foldl QkH (QkH 0 s)) s:=rfl;rw [hs];have hl:([w.From,w.To,w.Key,w.Boot,w.Yours,w.Turn,w.Num,w.Heard,w.Change.Kind,w.Change.Entry.Addr,w.Change.Entry.Len,w.Change.Entry.Cost,w.Change.Entry.Label]:List Int).length≤13:=by simp
  generalize ([w.From,w.To,w.Key,w.Boot,w.Yours,w.Turn,w.Num,w.Heard,w.Change.Kind,w.Change.Entry.Addr,w.Change.Entry.Len,w.Change.Entry.Cost,w.Change.Entry.Label]:List Int)=xs at *;obtain ⟨e,inv⟩:=Qkj (step:=(fun s2:Int × Int =>
    (if (decide (s2.2 < ((xs.length:Nat):Int)))=true then
    gd ((0:Int)≤s2.2∧s2.2 < ((xs.length:Nat):Int)) <|
    bd (QaL s2.1 (xs.getD s2.2.toNat default)) fun x7 =>
    some (.inl (x7,IntKind.i64.wrap (s2.2+1)))
    else
    some (.inr s2.1):Option ((Int × Int) ⊕ Int)))) xs.length (fun s i=>QkH s (xs.getD i default)) (fun s=>s) (QkH 0 s)
    (fun i s1=>s1=(xs.take i).foldl QkH (QkH 0 s)) (by simp) (fun i s1 hi hs=>by rw [QnG hi,hs]) (fun i s1 hi hs=>by
      have hr:=Qe5 (xs.take i) (QiB 0 s);rw [← hs] at hr;dsimp only;rw [if_pos (by simp; omega),Qp (by omega),Int.toNat_natCast,QM hi (by omega),Qsi hr,Qb]) (fun s _=>by
      dsimp only;rw [if_neg (by simp)])
  rw [e,Qb,inv,List.take_length,Qsi (Qe5 _ (QiB _ _)),Qb]
def Jb (w:Qxr):Bool:=inR w.From 0 65535 && inR w.To 0 65535 && inR w.Key 1 9 && inR w.Boot 1 999 && inR w.Yours 0 999 && inR w.Turn 1 1000000 && inR w.Num 0 w.Turn && inR w.Heard 0 1000000 && inR w.Sum 0 2147483646 && QV w.Change && ((w.Change.Kind == 0) || decide (w.Num > 0))
theorem QoD (w:Qxr):Jw w=some (Jb w):=by
  unfold Jw Jb;rw [Jd,Qb,Jd,Zi,Qb,Jd,Zi,Qb];split
  · rename_i c; congr 1; grind
  · rename_i c1;rw [Jd,Qb,Jd,Zi,Qb,Jd,Zi,Qb];split
    · rename_i c; congr 1; grind
    · rename_i c2;rw [Jd,Qb,Jd,Zi,Qb,Jd,Zi,Qb];split
      · rename_i c; congr 1; grind
      · rename_i c3;rw [QnF,Qb]
        congr 1; grind
theorem QoE (w:Qxr):Jt w=some (Jb w):=by
  unfold Jt Jb;rw [JQ,Qb,JQ,Zi,Qb,JQ,Zi,Qb,JQ,Zi,Qb,JQ,Zi,Qb];split
  · rename_i c; congr 1; grind
  · rename_i c1;rw [JQ,Qb,JQ,Zi,Qb,JQ,Zi,Qb,JQ,Zi,Qb];split
    · rename_i c; congr 1; grind
    · rename_i c2;rw [QnE,Qb]
      congr 1; grind
def Qep (w:Qxr) (k:Qxl):Bool:=(k.Id == w.Key) && (Qrl k.Secret w == w.Sum)
def QP (ks:List Qxl) (w:Qxr):Bool:=Qbb ks && Jb w && ks.any (Qep w)
theorem Qsj {ks:List Qxl} {p:Qxl→Bool}:(Z7 (fun i=>p (ks.getD i default)) ks.length).isSome=ks.any p:=by
  cases hf:Z7 (fun i=>p (ks.getD i default)) ks.length with
  | some i =>
    obtain ⟨q1,q2,_⟩:=ZK hf;exact (List.any_eq_true.2 ⟨_,Zo q1,q2⟩).symm
  | none =>
    cases hs:ks.any p
    · rfl
    · obtain ⟨r,hr,ht⟩:=List.any_eq_true.1 hs;obtain ⟨i,hi,rfl⟩:=Je hr;have:=JP hf i hi;rw [ht] at this; cases this
theorem QpM {ks:List Qxl} (h:ks.length≤1048576) (w:Qxr):Qar ks w=some (QP ks w):=by
  have e0:∀ k:Qxl,Qay k w=some (Qep w k):=fun k=>by
    unfold Qay Qep;rw [QuD,Qb5,Qb]
    cases k.Id == w.Key <;> rfl
  have e:QB ks w=some (match Z7 (fun i=>Qep w (ks.getD i default)) ks.length with | some i=>(i:Int) | none=>-1):=by
    unfold QB;rw [QbM ks.length (fun i=>Qep w (ks.getD i default)) (fun i=>Sum.inl (i:Int)) (.inr ()) (fun i hi=>?_) (by rw [if_neg (by simp)]),Qb]
    · cases Z7 (fun i=>Qep w (ks.getD i default)) ks.length <;> rfl
    · rw [if_pos (by simp; omega),Qp (by omega),Int.toNat_natCast,QM hi (by omega),e0,Qb];split <;> simp_all
  unfold Qar QP QI;rw [Qmz h,Qb,QoD,Qgk,Qb,e,Qb,Qgk,Qb,← Qsj]
  cases hf:Z7 (fun i=>Qep w (ks.getD i default)) ks.length with
  | some i =>
    have:decide ((i:Int) ≥ 0)=true:=by simp
    dsimp only [Option.isSome];rw [this]
    cases Qbb ks <;> cases Jb w <;> rfl
  | none =>
    dsimp only [Option.isSome]
    cases Qbb ks <;> cases Jb w <;> rfl
theorem QtX {ks:List Qxl} (h:Qbb ks=true) {i j:Nat} (hi:i < ks.length) (hj:j < ks.length) (e:(ks.getD i default).Id=(ks.getD j default).Id):i=j:=by
  simp only [Qbb,Bool.and_eq_true] at h;have st:∀ n,0 < n→n < ks.length→(ks.getD (n - 1) default).Id < (ks.getD n default).Id:=fun n h0 hn=>by
    have:=Qfr h.2 hn;simp only [Qte,Bool.and_eq_true,Bool.or_eq_true,decide_eq_true_eq] at this;rcases this.2 with c | c
    · omega
    · exact c
  have lt:∀ a b,a < b→b < ks.length→(ks.getD a default).Id < (ks.getD b default).Id:=fun a b hab hb=>by
    induction b with
    | zero=>omega
    | succ b ih =>
      have s:=st (b+1) (by omega) hb;rw [Nat.add_sub_cancel] at s;rcases Nat.lt_or_ge a b with c | c
      · have:=ih c (by omega); omega
      · have:a=b:=by omega
        subst this; exact s
  rcases Nat.lt_trichotomy i j with c | c | c
  · have:=lt i j c hj; omega
  · exact c
  · have:=lt j i c hi; omega
theorem Qh4 {ks:List Qxl} (h:ks.length≤1048576) (w:Qxr):ZS ks w=some (QP ks w):=by
  unfold ZS QP;rw [Qmy h,Qb,QoE,Zi,Qb]
  cases hk:Qbb ks
  · rfl
  · cases hw:Jb w
    · rfl
    · rw [if_neg (by decide),QbM ks.length (fun i=>(ks.getD i default).Id == w.Key) (fun i=>Sum.inl (Qrl (ks.getD i default).Secret w == w.Sum)) (.inr ()) (fun i hi=>?_) (by rw [if_neg (by simp)]),Qb]
      · cases hf:Z7 (fun i=>(ks.getD i default).Id == w.Key) ks.length with
        | some i =>
          obtain ⟨q1,q2,_⟩:=ZK hf;dsimp only [Option.map,Option.getD]
          congr 1
          rw [Bool.true_and,Bool.true_and]
          cases hs:(Qrl (ks.getD i default).Secret w == w.Sum)
          · symm
            rw [Bool.eq_false_iff];intro c;obtain ⟨r,hr,ht⟩:=List.any_eq_true.1 c;obtain ⟨j,hj,rfl⟩:=Je hr;simp only [Qep,Bool.and_eq_true] at ht;have:i=j:=QtX hk q1 hj (by rw [eq_of_beq q2,eq_of_beq ht.1]);subst this;rw [hs] at ht
            cases ht.2
          · symm
            refine List.any_eq_true.2 ⟨_,Zo q1,?_⟩;unfold Qep;rw [q2,hs]; rfl
        | none =>
          dsimp only [Option.map,Option.getD]
          congr 1
          rw [Bool.true_and,Bool.true_and]
          symm
          rw [Bool.eq_false_iff];intro c;obtain ⟨r,hr,ht⟩:=List.any_eq_true.1 c;obtain ⟨j,hj,rfl⟩:=Je hr;simp only [Qep,Bool.and_eq_true] at ht;have:=JP hf j hj;rw [ht.1] at this
          cases this
      · rw [if_pos (by simp; omega),Qp (by omega),Int.toNat_natCast,QM hi (by omega),Qp (by omega),QpL,Qb];split <;> rfl
end Go.Proofs.YtjgjdobkahdgfaaGreat
