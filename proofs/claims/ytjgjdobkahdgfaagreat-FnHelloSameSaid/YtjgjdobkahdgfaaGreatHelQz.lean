/-
  Plain Lean: tables behind a change; what ends are ok, the program's and the reference's alike.
-/
import Derived.Test.YtjgjdobkahdgfaaGreatKz5
import Derived.Test.YtjgjdobkahdgfaaGreatHelPz
import Derived.Test.YtjgjdobkahdgfaaGreatPoBz
set_option linter.all false
namespace Go.Proofs.YtjgjdobkahdgfaaGreat
open Go Go.Ab
set_option maxHeartbeats 400000
set_option maxRecDepth 100000
theorem Zj {α:Type} [Inhabited α] {xs:List α} {i:Nat} (h:i < xs.length):xs.getD i default ∈ xs:=by
  rw [List.getD_eq_getElem?_getD,List.getElem?_eq_getElem h];exact List.getElem_mem h
theorem Z7 {α:Type} [Inhabited α] {xs:List α} {x:α} (h:x ∈ xs):∃ i,i < xs.length∧xs.getD i default=x:=by
  obtain ⟨i,hi,e⟩:=List.getElem_of_mem h;exact ⟨i,hi,by rw [List.getD_eq_getElem?_getD,List.getElem?_eq_getElem hi]; exact e⟩
theorem Qur {a:Int} (h0:0≤a) (h1:a≤4611686018427387904):IntKind.i64.wrap ((IntKind.u64.wrap (IntKind.i64.wrap a):Int).fdiv (2 ^ min (1:Int).toNat IntKind.u64.bits))=a / 2:=by
  rw [wrap_i64 (n:=a) (by omega) (by omega)];have e:IntKind.u64.wrap a=a:=by
    show a % 18446744073709551616=a;omega
  rw [e,show (2:Int) ^ min (1:Int).toNat IntKind.u64.bits=2 from rfl,Int.fdiv_eq_ediv_of_nonneg _ (by decide),wrap_i64 (by omega) (by omega)]
theorem Qb9 {α:Type} {p:α→Bool} [Inhabited α]:∀ (xs:List α),(∀ k,k < (xs.takeWhile p).length→p (xs.getD k default)=true)∧(∀ h:(xs.takeWhile p).length < xs.length,p (xs.getD (xs.takeWhile p).length default)=false)∧(xs.takeWhile p).length≤xs.length
  | []=>⟨fun k h=>by simp at h,fun h=>by simp at h,Nat.le_refl _⟩
  | x :: r=>by
    obtain ⟨i1,i2,i3⟩:=Qb9 (p:=p) r;rw [List.takeWhile_cons]
    cases hp:p x
    · exact ⟨fun k h=>by simp at h,fun h=>by simpa using hp,by simp⟩
    · simp only [if_true,List.length_cons];refine ⟨fun k h=>?_,fun h=>?_,by omega⟩
      · cases k with
        | zero=>simpa using hp
        | succ k=>simpa using i1 k (by omega)
      · simpa using i2 (by omega)
theorem Qc5 {a b c:Qw8} (h:lessE a b=true) (k:lessE b c=true):lessE a c=true:=by
  simp only [lessE,Bool.or_eq_true,Bool.and_eq_true,decide_eq_true_eq,beq_iff_eq] at *;omega
section
variable {α:Type} [Inhabited α] (f:α→Qw8)
def posK (t:List α) (e:Qw8):Nat:=(t.takeWhile fun x=>lessE (f x) e).length
def Qbd (t:List α) (e:Qw8):Bool:=decide (posK f t e < t.length) && ((f (t.getD (posK f t e) default)).Addr == e.Addr && (f (t.getD (posK f t e) default)).Len == e.Len)
structure Ord (t:List α):Prop where
  ord:t.Pairwise fun x y=>lessE (f x) (f y)=true
  rng:∀ x ∈ t,0≤(f x).Len∧(f x).Len≤16∧0≤(f x).Addr∧(f x).Addr≤65535
variable {f}
theorem Qbz (t:List α) (e:Qw8):posK f t e≤t.length:=(Qb9 (p:=fun x=>lessE (f x) e) t).2.2
theorem Qiq {t:List α} {e:Qw8} {k:Nat} (h:k < posK f t e):lessE (f (t.getD k default)) e=true:=(Qb9 (p:=fun x=>lessE (f x) e) t).1 k h
theorem Qml {t:List α} (ho:Ord f t) {e:Qw8} {k:Nat} (h:posK f t e≤k) (hk:k < t.length):lessE (f (t.getD k default)) e=false:=by
  have h0:=(Qb9 (p:=fun x=>lessE (f x) e) t).2.1 (Nat.lt_of_le_of_lt h hk)
  cases hc:lessE (f (t.getD k default)) e
  · rfl
  · rcases Nat.eq_or_lt_of_le h with c | c
    · have:lessE (f (t.getD (posK f t e) default)) e=false:=h0;rw [← c,this] at hc; cases hc
    · have:=List.pairwise_iff_getElem.1 ho.ord (posK f t e) k (by omega) hk c;have g1:t.getD k default=t[k]:=by rw [List.getD_eq_getElem?_getD,List.getElem?_eq_getElem hk]; rfl
      have g2:t.getD (posK f t e) default=t[posK f t e]'(by omega):=by rw [List.getD_eq_getElem?_getD,List.getElem?_eq_getElem (by omega)]; rfl
      have h0:lessE (f (t.getD (posK f t e) default)) e=false:=h0;rw [g2] at h0;rw [g1] at hc;rw [Qc5 this hc] at h0
      cases h0
theorem J5 {t:List α} {e:Qw8}:Qbd f t e=true ↔ posK f t e < t.length∧(f (t.getD (posK f t e) default)).Addr=e.Addr∧(f (t.getD (posK f t e) default)).Len=e.Len:=by
  simp only [Qbd,Bool.and_eq_true,decide_eq_true_eq,beq_iff_eq]
theorem QdE {t:List α} (ho:Ord f t) {e:Qw8} {k:Nat} (hk:k < t.length) (h:(f (t.getD k default)).Addr=e.Addr∧(f (t.getD k default)).Len=e.Len):k=posK f t e∧Qbd f t e=true:=by
  have e1:k=posK f t e:=by
    rcases Nat.lt_trichotomy k (posK f t e) with c | c | c
    · have:=Qiq (f:=f) c;simp only [lessE,Bool.or_eq_true,Bool.and_eq_true,decide_eq_true_eq,beq_iff_eq] at this;omega
    · exact c
    · exfalso;have h0:=Qml ho (e:=e) (Nat.le_refl _) (by omega);have:=List.pairwise_iff_getElem.1 ho.ord (posK f t e) k (by omega) hk c;have g1:t.getD k default=t[k]:=by rw [List.getD_eq_getElem?_getD,List.getElem?_eq_getElem hk]; rfl
      have g2:t.getD (posK f t e) default=t[posK f t e]'(by omega):=by rw [List.getD_eq_getElem?_getD,List.getElem?_eq_getElem (by omega)]; rfl
      rw [g1] at h;rw [g2] at h0;generalize f (t[posK f t e]'(by omega))=x at *;generalize f t[k]=y at *;have:lessE x e=true:=by
        simp only [lessE,Bool.or_eq_true,Bool.and_eq_true,decide_eq_true_eq,beq_iff_eq] at *;omega
      rw [this] at h0; cases h0
  refine ⟨e1,?_⟩;subst e1;exact J5.2 ⟨hk,h.1,h.2⟩
end
abbrev idE (e:Qw8):Qw8:=e
theorem Qfn {t:List Qw8} (h:JY t=true):Ord idE t∧t.length≤8:=by
  simp only [JY,Bool.and_eq_true,decide_eq_true_eq] at h;have at_:∀ i,i < t.length→entryOk (t.getD i default)=true∧(i=0 ∨ lessE (t.getD (i - 1) default) (t.getD i default)=true):=fun i hi=>by
    have:=Qfi h.2 hi;simp only [QrX,Bool.and_eq_true,Bool.or_eq_true,decide_eq_true_eq] at this;exact this
  refine ⟨⟨List.pairwise_iff_getElem.2 fun k i hk hi hki=>?_,fun x hx=>?_⟩,h.1⟩
  · have l:=Qu8 (r:=fun x y=>lessE x y) (fun h k=>Qc5 h k) (f:=fun i=>t.getD i default) (n:=t.length) (fun i h0 hi=>by
      rcases (at_ i hi).2 with h | h
      · omega
      · exact h) i hi k hki
    rw [List.getD_eq_getElem?_getD,List.getD_eq_getElem?_getD,List.getElem?_eq_getElem hk,List.getElem?_eq_getElem hi] at l;exact l
  · obtain ⟨i,hi,rfl⟩:=Z7 hx;exact Qat (at_ i hi).1
def QnO (t:List Qw8) (e:Qw8):List Qw8:=if Qbd idE t e=true then t.set (posK idE t e) e else t.take (posK idE t e) ++ [e] ++ t.drop (posK idE t e)
def Qhd (t:List Qw8) (e:Qw8):List Qw8:=if Qbd idE t e=true then t.take (posK idE t e) ++ t.drop (posK idE t e+1) else t
def JD (t:List Qw8) (c:Qw9):List Qw8:=if c.Kind=1 then QnO t c.Entry else if c.Kind=2 then Qhd t c.Entry else t
theorem QhT {t:List Qw8} (h:t.length≤1048576):QW t=some t:=by
  unfold QW;rw [Qp (by omega)]
theorem Qok {t:List Qw8} (h:t.length≤1048576) (e:Qw8):QaB t e=some (QnO t e):=by
  have w3:=Qbz (f:=idE) t e;have w1:=fun k=>Qiq (f:=idE) (t:=t) (e:=e) (k:=k);have w2:posK idE t e < t.length→lessE (t.getD (posK idE t e) default) e=false:=(Qb9 (p:=fun x=>lessE (idE x) e) t).2.1;unfold QaB QnO;have hh:Qbd idE t e=(decide (posK idE t e < t.length) && ((t.getD (posK idE t e) default).Addr == e.Addr && (t.getD (posK idE t e) default).Len == e.Len)):=rfl;rw [hh];generalize posK idE t e=L at *;have key:lp (σ:=Int) (β:=(Int)) (fun s1 =>
      gd ((decide (s1 < ((t.length:Nat):Int)))=true→((0:Int)≤s1∧s1 < ((t.length:Nat):Int))) <|
      bd (gcall ((decide (s1 < ((t.length:Nat):Int)))=true) (ZL (t.getD s1.toNat default) e)) fun x6 =>
      (if ((decide (s1 < ((t.length:Nat):Int))) && x6)=true then
      some (.inl (IntKind.i64.wrap (s1+1)))
      else
      some (.inr s1))) 0=some (L:Int):=by
    have:=QgL (step:=(fun s1:Int =>
      gd ((decide (s1 < ((t.length:Nat):Int)))=true→((0:Int)≤s1∧s1 < ((t.length:Nat):Int))) <|
      bd (gcall ((decide (s1 < ((t.length:Nat):Int)))=true) (ZL (t.getD s1.toNat default) e)) fun x6 =>
      (if ((decide (s1 < ((t.length:Nat):Int))) && x6)=true then
      some (.inl (IntKind.i64.wrap (s1+1)))
      else
      some (.inr s1):Option (Int ⊕ Int)))) L (fun _=>true) (L:Int) (L:Int) (fun i hi _=>by
        have hd:decide ((i:Int) < ((t.length:Nat):Int))=true:=by simp; omega
        have hl:lessE (t.getD i default) e=true:=w1 i hi;rw [Qp (fun _=>by omega),Int.toNat_natCast,Qip,Qdp hd,Qb,hl,hd,Bool.and_self,if_pos rfl,QK hi (by omega),if_pos rfl]) (fun _=>by
        rw [Qp (fun c=>by simp only [decide_eq_true_eq] at c; omega),Int.toNat_natCast,Qip,Qf9,Qb]
        by_cases c:L < t.length
        · rw [w2 c,if_neg (by simp)]
        · rw [if_neg (by simp; omega)])
    rw [this,if_pos (Qfj fun _ _=>rfl)]
  rw [key,Qb,Int.toNat_natCast];have hd:decide ((L:Int) < ((t.length:Nat):Int))=decide (L < t.length):=decide_eq_decide.2 (by omega);rw [Qp (fun c=>by simp only [decide_eq_true_eq] at c; omega),Qp (fun c=>by simp only [Bool.and_eq_true,decide_eq_true_eq] at c; omega),hd,Bool.and_assoc]
  by_cases c:(decide (L < t.length) && ((t.getD L default).Addr == e.Addr && (t.getD L default).Len == e.Len))=true
  · rw [if_pos c,if_pos c,QhT h,Qb];simp only [Bool.and_eq_true,decide_eq_true_eq] at c;rw [Qp (by omega)]
  · rw [if_neg c,if_neg c,Qp (by omega),QhT (by simp; omega),Qb,Qp (by simp; omega),Qp (by omega),Qp (by simp [QU]; omega)];have e1:(t.take (L+Qdg ((t.length:Nat):Int) (L:Int))).drop L=t.drop L:=by
      rw [List.take_of_length_le (by simp [QU]; omega)]
    rw [e1]
theorem Qvj {t:List Qw8} (h:t.length≤1048576) (ho:Ord idE t) (e:Qw8):QbG t e=some (if Qbd idE t e=true then (posK idE t e:Int) else -1):=by
  unfold QbG;rw [QbF t.length (fun i=>(t.getD i default).Addr == e.Addr && (t.getD i default).Len == e.Len) (fun i=>Sum.inl (i:Int)) (.inr ()) (fun i hi=>?_) (by rw [if_neg (by simp)]),Qb]
  · cases hf:Z3 (fun i=>(t.getD i default).Addr == e.Addr && (t.getD i default).Len == e.Len) t.length with
    | some i =>
      obtain ⟨q1,q2,_⟩:=ZF hf;simp only [Bool.and_eq_true,beq_iff_eq] at q2;obtain ⟨p1,p2⟩:=QdE ho q1 q2;rw [p2,if_pos rfl,← p1]; rfl
    | none =>
      rw [if_neg]
      · rfl
      · intro c;obtain ⟨q1,q2,q3⟩:=J5.1 c;have:=JK hf _ q1;have q2:(t.getD (posK idE t e) default).Addr=e.Addr:=q2;have q3:(t.getD (posK idE t e) default).Len=e.Len:=q3;rw [q2,q3] at this;simp at this
  · rw [if_pos (by simp; omega),Qp (by omega),Qp (fun _=>by omega),Int.toNat_natCast,QK hi (by omega)];split <;> rfl
theorem QtH {t:List Qw8} (h:t.length≤1048576) (ho:Ord idE t) (e:Qw8):Qbr t e=some (Qhd t e):=by
  unfold Qbr Qhd;rw [Qvj h ho,Qb]
  by_cases c:Qbd idE t e=true
  · obtain ⟨q1,_,_⟩:=J5.1 c;rw [if_pos c,if_pos c,if_neg (by simp),Qp (by omega),Int.toNat_natCast,QhT (by simp; omega),Qb,wrap_i64 (n:=(posK idE t e:Int)+1) (by omega) (by omega)];rw [Qp (by omega),Qp (by simp [QU]; omega),show ((posK idE t e:Int)+1).toNat=posK idE t e+1 by omega];have e1:t.take (posK idE t e+1+Qdg ((t.length:Nat):Int) ((posK idE t e:Int)+1))=t:=List.take_of_length_le (by simp [QU]; omega);rw [e1]
  · rw [if_neg c,if_neg c,if_pos (by decide),QhT h,Qb]
theorem Qps {t:List Qw8} (h:t.length≤1048576) (ho:Ord idE t) (c:Qw9):QbH t c=some (JD t c):=by
  unfold QbH JD;rw [Qok h,QtH h ho,QhT h];simp only [beq_iff_eq,Qb];split
  · rfl
  · split <;> rfl
theorem QrY {t:List Qw8} (h:t.length≤1048576) (ho:Ord idE t) (c:Qw9):QbB t c=some (JD t c):=Qps h ho c
theorem Qgb {c:Qw9} (h:QT c=true):0≤c.Entry.Len∧c.Entry.Len≤16∧0≤c.Entry.Addr∧c.Entry.Addr≤65535:=by
  unfold QT at h;split at h
  · simp only [Qkf,Bool.and_eq_true,beq_iff_eq] at h;omega
  · split at h
    · exact Qat h
    · split at h
      · simp only [Bool.and_eq_true] at h;exact QiL h.1.1
      · cases h
theorem QrZ {t:List Qw8} (h:t.length≤1048576) (ho:Ord idE t) {e:Qw8} (he:0≤e.Len∧e.Len≤16∧0≤e.Addr∧e.Addr≤65535):J6 t ⟨e.Addr,e.Len⟩=some ((posK idE t e:Int),Qbd idE t e):=by
  have w3:=Qbz (f:=idE) t e;have w1:=fun k=>Qiq (f:=idE) (t:=t) (e:=e) (k:=k);have w2:=fun k=>Qml ho (e:=e) (k:=k);have hcmp:∀ k,k < t.length→J2 (t.getD k default) ⟨e.Addr,e.Len⟩=some (cmpV (t.getD k default).Addr (t.getD k default).Len e.Addr e.Len):=fun k hk=>by
    unfold J2;have:=ho.rng _ (Zj hk);rw [Qbo,Qb,QtG (by exact this) he,Qb]
  have hneg:∀ k,k < t.length→(cmpV (t.getD k default).Addr (t.getD k default).Len e.Addr e.Len < 0 ↔ lessE (t.getD k default) e=true):=fun k hk=>by
    have:=ho.rng _ (Zj hk);rw [Qjf (a:=t.getD k default) (b:=e) ⟨this.1,this.2.1⟩ ⟨he.1,he.2.1⟩,QhQ ⟨this.1,this.2.1⟩ ⟨he.1,he.2.1⟩]
  have key:Post (Qm t ⟨e.Addr,e.Len⟩) fun x=>x=((posK idE t e:Int),Qbd idE t e):=by
    have hh:Qbd idE t e=(decide (posK idE t e < t.length) && ((t.getD (posK idE t e) default).Addr == e.Addr && (t.getD (posK idE t e) default).Len == e.Len)):=rfl;rw [hh];unfold Qm;generalize posK idE t e=L at *;refine .bd (Q:=fun x=>x=(L:Int)) (.lp (fun s=>0≤s.2∧s.2≤(L:Int)∧(L:Int)≤s.1∧s.1≤(t.length:Int)) (fun s=>(s.1 - s.2).toNat) ⟨Int.le_refl _,by dsimp only; omega,by dsimp only; omega,Int.le_refl _⟩ fun s ⟨i1,i2,i3,i4⟩=>?_) fun x hx=>?_
    · refine .ite (fun c=>?_) fun c=>.ret ?_
      · simp only [decide_eq_true_eq] at c;rw [Qur (by omega) (by omega)];refine .gd (by decide) (.gd ⟨by omega,by omega⟩ ?_);have hm:((s.2+s.1) / 2).toNat < t.length:=by omega
        rw [hcmp _ hm,Qb,wrap_i64 (n:=(s.2+s.1) / 2+1) (by omega) (by omega)];refine .ite (fun c2=>?_) fun c2=>?_
        · simp only [decide_eq_true_eq] at c2;have c3:=(hneg _ hm).1 c2;refine .ret ⟨⟨by dsimp only; omega,?_,by dsimp only; omega,i4⟩,by dsimp only; omega⟩;dsimp only;refine Int.not_lt.1 fun hlt=>?_;have:lessE (t.getD ((s.2+s.1) / 2).toNat default) e=false:=w2 ((s.2+s.1) / 2).toNat (by omega) (by omega);rw [this] at c3; cases c3
        · simp only [decide_eq_true_eq] at c2;refine .ret ⟨⟨i1,i2,?_,by dsimp only; omega⟩,by dsimp only; omega⟩;dsimp only;exact Int.not_lt.1 fun hlt=>c2 ((hneg _ hm).2 (w1 _ (by omega)))
      · simp only [decide_eq_true_eq] at c;show s.2=_;omega
    · subst hx;refine .gd (fun c=>?_) ?_
      · simp only [decide_eq_true_eq] at c; omega
      · rw [Int.toNat_natCast];have hd:decide ((L:Int) < ((t.length:Nat):Int))=decide (L < t.length):=decide_eq_decide.2 (by omega);rw [hd]
        by_cases c:L < t.length
        · rw [hcmp L c,decide_eq_true c,Qdp rfl,Qb];refine .ret ?_;have hr:=ho.rng _ (Zj c);have:=Qnm (a:=t.getD L default) (b:=e) ⟨hr.1,hr.2.1⟩ ⟨he.1,he.2.1⟩;rw [Qwi ⟨hr.1,hr.2.1⟩ ⟨he.1,he.2.1⟩] at this;rw [Prod.mk.injEq];refine ⟨rfl,?_⟩;rw [Bool.eq_iff_iff];simp only [Bool.true_and,Bool.and_eq_true,beq_iff_eq];exact this
        · rw [decide_eq_false c,Qdq (by decide),Qb];exact .ret rfl
  obtain ⟨x,ex,rfl⟩:=key;unfold J6;refine (congrArg (fun m=>bd m _) ex).trans ?_;rw [Qb]
theorem Qls {t:List Qw8} (h:t.length≤1048576) (ho:Ord idE t) {c:Qw9} (hc:QT c=true):Qck t c=some (JD t c):=by
  have e1:QD t=some t:=by
    unfold QD;rw [Qp (by omega),Qp (by simp; omega)]; rfl
  have w3:=Qbz (f:=idE) t c.Entry;unfold Qck JD QnO Qhd;rw [e1,Qb,Qbo,Qb,QrZ h ho (Qgb hc),Qb];dsimp only;have hk:Qbd idE t c.Entry=true→posK idE t c.Entry < t.length:=fun q=>(J5.1 q).1
  cases hh:Qbd idE t c.Entry
  · simp only [Bool.and_false,Bool.false_eq_true,if_false,beq_iff_eq]
    by_cases k1:c.Kind=1
    · rw [if_pos k1,if_pos k1];unfold QX;rw [Qp ⟨by omega,by simp,by simp; omega⟩,Qb,Int.toNat_natCast]
      rfl
    · rw [if_neg k1,if_neg k1];split <;> rfl
  · have hk:=hk hh;simp only [Bool.and_true,if_true,beq_iff_eq]
    by_cases k1:c.Kind=1
    · rw [if_pos k1,if_pos k1,Qp (by omega),Int.toNat_natCast]
    · rw [if_neg k1,if_neg k1,if_neg k1]
      by_cases k2:c.Kind=2
      · rw [if_pos k2,if_pos k2];unfold QY;rw [wrap_i64 (by omega) (by omega),Qp (by omega),Qb,Int.toNat_natCast,show ((posK idE t c.Entry:Int)+1).toNat=posK idE t c.Entry+1 by omega]
        rfl
      · rw [if_neg k2,if_neg k2]
theorem Qol {t:List Qw8} (h:t.length≤1048576) (ho:Ord idE t) {c:Qw9} (hc:QT c=true):Qb1 t c=some (JD t c):=Qls h ho hc
theorem Qlt {t:List Qw8} (c:Qw9):(JD t c).length≤t.length+1:=by
  have w3:=Qbz (f:=idE) t c.Entry;unfold JD QnO Qhd;split
  · split
    · simp
    · simp; omega
  · split
    · split
      · simp; omega
      · omega
    · omega
end Go.Proofs.YtjgjdobkahdgfaaGreat
