/-
  Plain Lean: tables behind a change; what ends are ok, the program's and the reference's alike.
-/
import Derived.Test.YtjgjdobkahdgfaaGreatKz6
import Derived.Test.YtjgjdobkahdgfaaGreatHelPz
import Derived.Test.YtjgjdobkahdgfaaGreatPoBz
set_option linter.all false
namespace Go.Proofs.YtjgjdobkahdgfaaGreat
open Go Go.Ab
set_option maxHeartbeats 400000
set_option maxRecDepth 100000
theorem ZG {α:Type} [Inhabited α] {xs:List α} {i:Nat} (h:i < xs.length):xs.getD i default ∈ xs:=by
  rw [List.getD_eq_getElem?_getD,List.getElem?_eq_getElem h];exact List.getElem_mem h
theorem Qby {α:Type} [Inhabited α] {xs:List α} {x:α} (h:x ∈ xs):∃ i,i < xs.length∧xs.getD i default=x:=by
  obtain ⟨i,hi,e⟩:=List.getElem_of_mem h;exact ⟨i,hi,by rw [List.getD_eq_getElem?_getD,List.getElem?_eq_getElem hi]; exact e⟩
theorem Qtv {a:Int} (h0:0≤a) (h1:a≤4611686018427387904):IntKind.i64.wrap ((IntKind.u64.wrap (IntKind.i64.wrap a):Int).fdiv (2 ^ min (1:Int).toNat IntKind.u64.bits))=a / 2:=by
  rw [wrap_i64 (n:=a) (by omega) (by omega)];have e:IntKind.u64.wrap a=a:=by
    show a % 18446744073709551616=a;omega
  rw [e,show (2:Int) ^ min (1:Int).toNat IntKind.u64.bits=2 from rfl,Int.fdiv_eq_ediv_of_nonneg _ (by decide),wrap_i64 (by omega) (by omega)]
theorem Qb3 {α:Type} {p:α→Bool} [Inhabited α]:∀ (xs:List α),(∀ k,k < (xs.takeWhile p).length→p (xs.getD k default)=true)∧(∀ h:(xs.takeWhile p).length < xs.length,p (xs.getD (xs.takeWhile p).length default)=false)∧(xs.takeWhile p).length≤xs.length
  | []=>⟨fun k h=>by simp at h,fun h=>by simp at h,Nat.le_refl _⟩
  | x :: r=>by
    obtain ⟨i1,i2,i3⟩:=Qb3 (p:=p) r;rw [List.takeWhile_cons]
    cases hp:p x
    · exact ⟨fun k h=>by simp at h,fun h=>by simpa using hp,by simp⟩
    · simp only [if_true,List.length_cons];refine ⟨fun k h=>?_,fun h=>?_,by omega⟩
      · cases k with
        | zero=>simpa using hp
        | succ k=>simpa using i1 k (by omega)
      · simpa using i2 (by omega)
theorem Qd2 {a b c:Qv2} (h:lessE a b=true) (k:lessE b c=true):lessE a c=true:=by
  simp only [lessE,Bool.or_eq_true,Bool.and_eq_true,decide_eq_true_eq,beq_iff_eq] at *;omega
section
variable {α:Type} [Inhabited α] (f:α→Qv2)
def posK (t:List α) (e:Qv2):Nat:=(t.takeWhile fun x=>lessE (f x) e).length
def Qdp (t:List α) (e:Qv2):Bool:=decide (posK f t e < t.length) && ((f (t.getD (posK f t e) default)).Addr == e.Addr && (f (t.getD (posK f t e) default)).Len == e.Len)
structure Ord (t:List α):Prop where
  ord:t.Pairwise fun x y=>lessE (f x) (f y)=true
  rng:∀ x ∈ t,0≤(f x).Len∧(f x).Len≤16∧0≤(f x).Addr∧(f x).Addr≤65535
variable {f}
theorem Qbr (t:List α) (e:Qv2):posK f t e≤t.length:=(Qb3 (p:=fun x=>lessE (f x) e) t).2.2
theorem Qip {t:List α} {e:Qv2} {k:Nat} (h:k < posK f t e):lessE (f (t.getD k default)) e=true:=(Qb3 (p:=fun x=>lessE (f x) e) t).1 k h
theorem Qmk {t:List α} (ho:Ord f t) {e:Qv2} {k:Nat} (h:posK f t e≤k) (hk:k < t.length):lessE (f (t.getD k default)) e=false:=by
  have h0:=(Qb3 (p:=fun x=>lessE (f x) e) t).2.1 (Nat.lt_of_le_of_lt h hk)
  cases hc:lessE (f (t.getD k default)) e
  · rfl
  · rcases Nat.eq_or_lt_of_le h with c | c
    · have:lessE (f (t.getD (posK f t e) default)) e=false:=h0;rw [← c,this] at hc; cases hc
    · have:=List.pairwise_iff_getElem.1 ho.ord (posK f t e) k (by omega) hk c;have g1:t.getD k default=t[k]:=by rw [List.getD_eq_getElem?_getD,List.getElem?_eq_getElem hk]; rfl
      have g2:t.getD (posK f t e) default=t[posK f t e]'(by omega):=by rw [List.getD_eq_getElem?_getD,List.getElem?_eq_getElem (by omega)]; rfl
      have h0:lessE (f (t.getD (posK f t e) default)) e=false:=h0;rw [g2] at h0;rw [g1] at hc;rw [Qd2 this hc] at h0
      cases h0
theorem QaR {t:List α} {e:Qv2}:Qdp f t e=true ↔ posK f t e < t.length∧(f (t.getD (posK f t e) default)).Addr=e.Addr∧(f (t.getD (posK f t e) default)).Len=e.Len:=by
  simp only [Qdp,Bool.and_eq_true,decide_eq_true_eq,beq_iff_eq]
theorem Qkc {t:List α} (ho:Ord f t) {e:Qv2} {k:Nat} (hk:k < t.length) (h:(f (t.getD k default)).Addr=e.Addr∧(f (t.getD k default)).Len=e.Len):k=posK f t e∧Qdp f t e=true:=by
  have e1:k=posK f t e:=by
    rcases Nat.lt_trichotomy k (posK f t e) with c | c | c
    · have:=Qip (f:=f) c;simp only [lessE,Bool.or_eq_true,Bool.and_eq_true,decide_eq_true_eq,beq_iff_eq] at this;omega
    · exact c
    · exfalso;have h0:=Qmk ho (e:=e) (Nat.le_refl _) (by omega);have:=List.pairwise_iff_getElem.1 ho.ord (posK f t e) k (by omega) hk c;have g1:t.getD k default=t[k]:=by rw [List.getD_eq_getElem?_getD,List.getElem?_eq_getElem hk]; rfl
      have g2:t.getD (posK f t e) default=t[posK f t e]'(by omega):=by rw [List.getD_eq_getElem?_getD,List.getElem?_eq_getElem (by omega)]; rfl
      rw [g1] at h;rw [g2] at h0;generalize f (t[posK f t e]'(by omega))=x at *;generalize f t[k]=y at *;have:lessE x e=true:=by
        simp only [lessE,Bool.or_eq_true,Bool.and_eq_true,decide_eq_true_eq,beq_iff_eq] at *;omega
      rw [this] at h0; cases h0
  refine ⟨e1,?_⟩;subst e1;exact QaR.2 ⟨hk,h.1,h.2⟩
end
abbrev idE (e:Qv2):Qv2:=e
theorem Qff {t:List Qv2} (h:JW t=true):Ord idE t∧t.length≤8:=by
  simp only [JW,Bool.and_eq_true,decide_eq_true_eq] at h;have at_:∀ i,i < t.length→entryOk (t.getD i default)=true∧(i=0 ∨ lessE (t.getD (i - 1) default) (t.getD i default)=true):=fun i hi=>by
    have:=Qei h.2 hi;simp only [Qro,Bool.and_eq_true,Bool.or_eq_true,decide_eq_true_eq] at this;exact this
  refine ⟨⟨List.pairwise_iff_getElem.2 fun k i hk hi hki=>?_,fun x hx=>?_⟩,h.1⟩
  · have l:=Qt8 (r:=fun x y=>lessE x y) (fun h k=>Qd2 h k) (f:=fun i=>t.getD i default) (n:=t.length) (fun i h0 hi=>by
      rcases (at_ i hi).2 with h | h
      · omega
      · exact h) i hi k hki
    rw [List.getD_eq_getElem?_getD,List.getD_eq_getElem?_getD,List.getElem?_eq_getElem hk,List.getElem?_eq_getElem hi] at l;exact l
  · obtain ⟨i,hi,rfl⟩:=Qby hx;exact QaO (at_ i hi).1
def Qrp (t:List Qv2) (e:Qv2):List Qv2:=if Qdp idE t e=true then t.set (posK idE t e) e else t.take (posK idE t e) ++ [e] ++ t.drop (posK idE t e)
def Qn5 (t:List Qv2) (e:Qv2):List Qv2:=if Qdp idE t e=true then t.take (posK idE t e) ++ t.drop (posK idE t e+1) else t
def Qdm (t:List Qv2) (c:Qv3):List Qv2:=if c.Kind=1 then Qrp t c.Entry else if c.Kind=2 then Qn5 t c.Entry else t
theorem Qf2 {t:List Qv2} (h:t.length≤1048576):QT t=some t:=by
  unfold QT;rw [Qn (by omega)]
theorem Qml {t:List Qv2} (h:t.length≤1048576) (e:Qv2):JI t e=some (Qrp t e):=by
  have w3:=Qbr (f:=idE) t e;have w1:=fun k=>Qip (f:=idE) (t:=t) (e:=e) (k:=k);have w2:posK idE t e < t.length→lessE (t.getD (posK idE t e) default) e=false:=(Qb3 (p:=fun x=>lessE (idE x) e) t).2.1;unfold JI Qrp;have hh:Qdp idE t e=(decide (posK idE t e < t.length) && ((t.getD (posK idE t e) default).Addr == e.Addr && (t.getD (posK idE t e) default).Len == e.Len)):=rfl;rw [hh];generalize posK idE t e=L at *;have key:lp (σ:=Int) (β:=(Int)) (fun s1 =>
      gd ((decide (s1 < ((t.length:Nat):Int)))=true→((0:Int)≤s1∧s1 < ((t.length:Nat):Int))) <|
      bd (gcall ((decide (s1 < ((t.length:Nat):Int)))=true) (ZK (t.getD s1.toNat default) e)) fun x6 =>
      (if ((decide (s1 < ((t.length:Nat):Int))) && x6)=true then
      some (.inl (IntKind.i64.wrap (s1+1)))
      else
      some (.inr s1))) 0=some (L:Int):=by
    have:=QdB (step:=(fun s1:Int =>
      gd ((decide (s1 < ((t.length:Nat):Int)))=true→((0:Int)≤s1∧s1 < ((t.length:Nat):Int))) <|
      bd (gcall ((decide (s1 < ((t.length:Nat):Int)))=true) (ZK (t.getD s1.toNat default) e)) fun x6 =>
      (if ((decide (s1 < ((t.length:Nat):Int))) && x6)=true then
      some (.inl (IntKind.i64.wrap (s1+1)))
      else
      some (.inr s1):Option (Int ⊕ Int)))) L (fun _=>true) (L:Int) (L:Int) (fun i hi _=>by
        have hd:decide ((i:Int) < ((t.length:Nat):Int))=true:=by simp; omega
        have hl:lessE (t.getD i default) e=true:=w1 i hi;rw [Qn (fun _=>by omega),Int.toNat_natCast,Qio,Qdh hd,Qb,hl,hd,Bool.and_self,if_pos rfl,QE hi (by omega),if_pos rfl]) (fun _=>by
        rw [Qn (fun c=>by simp only [decide_eq_true_eq] at c; omega),Int.toNat_natCast,Qio,Qf0,Qb]
        by_cases c:L < t.length
        · rw [w2 c,if_neg (by simp)]
        · rw [if_neg (by simp; omega)])
    rw [this,if_pos (QcN fun _ _=>rfl)]
  rw [key,Qb,Int.toNat_natCast];have hd:decide ((L:Int) < ((t.length:Nat):Int))=decide (L < t.length):=decide_eq_decide.2 (by omega);rw [Qn (fun c=>by simp only [decide_eq_true_eq] at c; omega),Qn (fun c=>by simp only [Bool.and_eq_true,decide_eq_true_eq] at c; omega),hd,Bool.and_assoc]
  by_cases c:(decide (L < t.length) && ((t.getD L default).Addr == e.Addr && (t.getD L default).Len == e.Len))=true
  · rw [if_pos c,if_pos c,Qf2 h,Qb];simp only [Bool.and_eq_true,decide_eq_true_eq] at c;rw [Qn (by omega)]
  · rw [if_neg c,if_neg c,Qn (by omega),Qf2 (by simp; omega),Qb,Qn (by simp; omega),Qn (by omega),Qn (by simp [QW]; omega)];have e1:(t.take (L+Qc8 ((t.length:Nat):Int) (L:Int))).drop L=t.drop L:=by
      rw [List.take_of_length_le (by simp [QW]; omega)]
    rw [e1]
theorem Quj {t:List Qv2} (h:t.length≤1048576) (ho:Ord idE t) (e:Qv2):Qbz t e=some (if Qdp idE t e=true then (posK idE t e:Int) else -1):=by
  unfold Qbz;rw [Qbw t.length (fun i=>(t.getD i default).Addr == e.Addr && (t.getD i default).Len == e.Len) (fun i=>Sum.inl (i:Int)) (.inr ()) (fun i hi=>?_) (by rw [if_neg (by simp)]),Qb]
  · cases hf:Z7 (fun i=>(t.getD i default).Addr == e.Addr && (t.getD i default).Len == e.Len) t.length with
    | some i =>
      obtain ⟨q1,q2,_⟩:=Z9 hf;simp only [Bool.and_eq_true,beq_iff_eq] at q2;obtain ⟨p1,p2⟩:=Qkc ho q1 q2;rw [p2,if_pos rfl,← p1]; rfl
    | none =>
      rw [if_neg]
      · rfl
      · intro c;obtain ⟨q1,q2,q3⟩:=QaR.1 c;have:=QaN hf _ q1;have q2:(t.getD (posK idE t e) default).Addr=e.Addr:=q2;have q3:(t.getD (posK idE t e) default).Len=e.Len:=q3;rw [q2,q3] at this;simp at this
  · rw [if_pos (by simp; omega),Qn (by omega),Qn (fun _=>by omega),Int.toNat_natCast,QE hi (by omega)];split <;> rfl
theorem QsR {t:List Qv2} (h:t.length≤1048576) (ho:Ord idE t) (e:Qv2):Qbl t e=some (Qn5 t e):=by
  unfold Qbl Qn5;rw [Quj h ho,Qb]
  by_cases c:Qdp idE t e=true
  · obtain ⟨q1,_,_⟩:=QaR.1 c;rw [if_pos c,if_pos c,if_neg (by simp),Qn (by omega),Int.toNat_natCast,Qf2 (by simp; omega),Qb,wrap_i64 (n:=(posK idE t e:Int)+1) (by omega) (by omega)];rw [Qn (by omega),Qn (by simp [QW]; omega),show ((posK idE t e:Int)+1).toNat=posK idE t e+1 by omega];have e1:t.take (posK idE t e+1+Qc8 ((t.length:Nat):Int) ((posK idE t e:Int)+1))=t:=List.take_of_length_le (by simp [QW]; omega);rw [e1]
  · rw [if_neg c,if_neg c,if_pos (by decide),Qf2 h,Qb]
theorem Qo8 {t:List Qv2} (h:t.length≤1048576) (ho:Ord idE t) (c:Qv3):QbA t c=some (Qdm t c):=by
  unfold QbA Qdm;rw [Qml h,QsR h ho,Qf2 h];simp only [beq_iff_eq,Qb];split
  · rfl
  · split <;> rfl
theorem Qrq {t:List Qv2} (h:t.length≤1048576) (ho:Ord idE t) (c:Qv3):Qbt t c=some (Qdm t c):=Qo8 h ho c
theorem Qf3 {c:Qv3} (h:Zc c=true):0≤c.Entry.Len∧c.Entry.Len≤16∧0≤c.Entry.Addr∧c.Entry.Addr≤65535:=by
  unfold Zc at h;split at h
  · simp only [Qkb,Bool.and_eq_true,beq_iff_eq] at h;omega
  · split at h
    · exact QaO h
    · split at h
      · simp only [Bool.and_eq_true] at h;exact QiL h.1.1
      · cases h
theorem Qrr {t:List Qv2} (h:t.length≤1048576) (ho:Ord idE t) {e:Qv2} (he:0≤e.Len∧e.Len≤16∧0≤e.Addr∧e.Addr≤65535):J4 t ⟨e.Addr,e.Len⟩=some ((posK idE t e:Int),Qdp idE t e):=by
  have w3:=Qbr (f:=idE) t e;have w1:=fun k=>Qip (f:=idE) (t:=t) (e:=e) (k:=k);have w2:=fun k=>Qmk ho (e:=e) (k:=k);have hcmp:∀ k,k < t.length→J1 (t.getD k default) ⟨e.Addr,e.Len⟩=some (cmpV (t.getD k default).Addr (t.getD k default).Len e.Addr e.Len):=fun k hk=>by
    unfold J1;have:=ho.rng _ (ZG hk);rw [Qbi,Qb,QsQ (by exact this) he,Qb]
  have hneg:∀ k,k < t.length→(cmpV (t.getD k default).Addr (t.getD k default).Len e.Addr e.Len < 0 ↔ lessE (t.getD k default) e=true):=fun k hk=>by
    have:=ho.rng _ (ZG hk);rw [Qjc (a:=t.getD k default) (b:=e) ⟨this.1,this.2.1⟩ ⟨he.1,he.2.1⟩,QhO ⟨this.1,this.2.1⟩ ⟨he.1,he.2.1⟩]
  have key:Post (Qm t ⟨e.Addr,e.Len⟩) fun x=>x=((posK idE t e:Int),Qdp idE t e):=by
    have hh:Qdp idE t e=(decide (posK idE t e < t.length) && ((t.getD (posK idE t e) default).Addr == e.Addr && (t.getD (posK idE t e) default).Len == e.Len)):=rfl;rw [hh];unfold Qm;generalize posK idE t e=L at *;refine .bd (Q:=fun x=>x=(L:Int)) (.lp (fun s=>0≤s.2∧s.2≤(L:Int)∧(L:Int)≤s.1∧s.1≤(t.length:Int)) (fun s=>(s.1 - s.2).toNat) ⟨Int.le_refl _,by dsimp only; omega,by dsimp only; omega,Int.le_refl _⟩ fun s ⟨i1,i2,i3,i4⟩=>?_) fun x hx=>?_
    · refine .ite (fun c=>?_) fun c=>.ret ?_
      · simp only [decide_eq_true_eq] at c;rw [Qtv (by omega) (by omega)];refine .gd (by decide) (.gd ⟨by omega,by omega⟩ ?_);have hm:((s.2+s.1) / 2).toNat < t.length:=by omega
        rw [hcmp _ hm,Qb,wrap_i64 (n:=(s.2+s.1) / 2+1) (by omega) (by omega)];refine .ite (fun c2=>?_) fun c2=>?_
        · simp only [decide_eq_true_eq] at c2;have c3:=(hneg _ hm).1 c2;refine .ret ⟨⟨by dsimp only; omega,?_,by dsimp only; omega,i4⟩,by dsimp only; omega⟩;dsimp only;refine Int.not_lt.1 fun hlt=>?_;have:lessE (t.getD ((s.2+s.1) / 2).toNat default) e=false:=w2 ((s.2+s.1) / 2).toNat (by omega) (by omega);rw [this] at c3; cases c3
        · simp only [decide_eq_true_eq] at c2;refine .ret ⟨⟨i1,i2,?_,by dsimp only; omega⟩,by dsimp only; omega⟩;dsimp only;exact Int.not_lt.1 fun hlt=>c2 ((hneg _ hm).2 (w1 _ (by omega)))
      · simp only [decide_eq_true_eq] at c;show s.2=_;omega
    · subst hx;refine .gd (fun c=>?_) ?_
      · simp only [decide_eq_true_eq] at c; omega
      · rw [Int.toNat_natCast];have hd:decide ((L:Int) < ((t.length:Nat):Int))=decide (L < t.length):=decide_eq_decide.2 (by omega);rw [hd]
        by_cases c:L < t.length
        · rw [hcmp L c,decide_eq_true c,Qdh rfl,Qb];refine .ret ?_;have hr:=ho.rng _ (ZG c);have:=Qnf (a:=t.getD L default) (b:=e) ⟨hr.1,hr.2.1⟩ ⟨he.1,he.2.1⟩;rw [Qu9 ⟨hr.1,hr.2.1⟩ ⟨he.1,he.2.1⟩] at this;rw [Prod.mk.injEq];refine ⟨rfl,?_⟩;rw [Bool.eq_iff_iff];simp only [Bool.true_and,Bool.and_eq_true,beq_iff_eq];exact this
        · rw [decide_eq_false c,Qdi (by decide),Qb];exact .ret rfl
  obtain ⟨x,ex,rfl⟩:=key;unfold J4;refine (congrArg (fun m=>bd m _) ex).trans ?_;rw [Qb]
theorem Qln {t:List Qv2} (h:t.length≤1048576) (ho:Ord idE t) {c:Qv3} (hc:Zc c=true):Qce t c=some (Qdm t c):=by
  have e1:QF t=some t:=by
    unfold QF;rw [Qn (by omega),Qn (by simp; omega)]; rfl
  have w3:=Qbr (f:=idE) t c.Entry;unfold Qce Qdm Qrp Qn5;rw [e1,Qb,Qbi,Qb,Qrr h ho (Qf3 hc),Qb];dsimp only;have hk:Qdp idE t c.Entry=true→posK idE t c.Entry < t.length:=fun q=>(QaR.1 q).1
  cases hh:Qdp idE t c.Entry
  · simp only [Bool.and_false,Bool.false_eq_true,if_false,beq_iff_eq]
    by_cases k1:c.Kind=1
    · rw [if_pos k1,if_pos k1];unfold QX;rw [Qn ⟨by omega,by simp,by simp; omega⟩,Qb,Int.toNat_natCast]
      rfl
    · rw [if_neg k1,if_neg k1];split <;> rfl
  · have hk:=hk hh;simp only [Bool.and_true,if_true,beq_iff_eq]
    by_cases k1:c.Kind=1
    · rw [if_pos k1,if_pos k1,Qn (by omega),Int.toNat_natCast]
    · rw [if_neg k1,if_neg k1,if_neg k1]
      by_cases k2:c.Kind=2
      · rw [if_pos k2,if_pos k2];unfold QY;rw [wrap_i64 (by omega) (by omega),Qn (by omega),Qb,Int.toNat_natCast,show ((posK idE t c.Entry:Int)+1).toNat=posK idE t c.Entry+1 by omega]
        rfl
      · rw [if_neg k2,if_neg k2]
theorem Qn6 {t:List Qv2} (h:t.length≤1048576) (ho:Ord idE t) {c:Qv3} (hc:Zc c=true):QbV t c=some (Qdm t c):=Qln h ho hc
theorem Qlo {t:List Qv2} (c:Qv3):(Qdm t c).length≤t.length+1:=by
  have w3:=Qbr (f:=idE) t c.Entry;unfold Qdm Qrp Qn5;split
  · split
    · simp
    · simp; omega
  · split
    · split
      · simp; omega
      · omega
    · omega
end Go.Proofs.YtjgjdobkahdgfaaGreat
