/-
  Plain Lean: routes behind a change that is heard.
-/
import Derived.Test.YtjgjdobkahdgfaaGreatKz5
import Derived.Test.YtjgjdobkahdgfaaGreatHelUz
import Derived.Test.YtjgjdobkahdgfaaGreatHelTz
set_option linter.all false
namespace Go.Proofs.YtjgjdobkahdgfaaGreat
open Go Go.Ab
set_option maxHeartbeats 1000000
set_option maxRecDepth 100000
theorem Qoq {e:Qxb} (h:QcS e=true):Ord rE e.Heard∧e.Heard.length≤16:=by
  simp only [QcS,Bool.and_eq_true,decide_eq_true_eq] at h;obtain ⟨⟨⟨hl,_⟩,hh⟩,_⟩:=h;have at_:∀ i,i < e.Heard.length→entryOk (e.Heard.getD i default).Entry=true∧(i=0 ∨ lessE (e.Heard.getD (i - 1) default).Entry (e.Heard.getD i default).Entry=true):=fun i hi=>by
    have:=Qfi hh hi;simp only [Qeg,Bool.and_eq_true,Bool.or_eq_true,decide_eq_true_eq] at this;exact this.1
  refine ⟨⟨List.pairwise_iff_getElem.2 fun k i hk hi hki=>?_,fun x hx=>?_⟩,hl⟩
  · have l:=Qu8 (r:=fun x y=>lessE x y) (fun h k=>Qc5 h k) (f:=fun i=>(e.Heard.getD i default).Entry) (n:=e.Heard.length) (fun i h0 hi=>by
      rcases (at_ i hi).2 with h | h
      · omega
      · exact h) i hi k hki
    rw [List.getD_eq_getElem?_getD,List.getD_eq_getElem?_getD,List.getElem?_eq_getElem hk,List.getElem?_eq_getElem hi] at l;exact l
  · obtain ⟨i,hi,rfl⟩:=Z7 hx;exact Qat (at_ i hi).1
theorem QqS {t:List Qxa} (h:Ord rE t):Ord rE (Qdv t):=by
  refine ⟨List.pairwise_map.2 (h.ord.imp fun q=>q),fun x hx=>?_⟩;obtain ⟨y,hy,rfl⟩:=List.mem_map.1 hx;exact h.rng y hy
theorem Qor {s t:List Qxa} (h:Ord rE t) (k:s.Sublist t):Ord rE s:=⟨h.ord.sublist k,fun x hx=>h.rng x (k.subset hx)⟩
def Qos (t:List Qxa) (k:Nat):List Qxa:=t.take k ++ t.drop (k+1)
theorem QdR (t:List Qxa) (k:Nat):(Qos t k).Sublist t:=by
  have:=List.take_append_drop k t;rw [Qos]
  conv=>rhs; rw [← this]
  refine List.Sublist.append (List.Sublist.refl _) ?_;rw [← List.drop_drop];exact List.drop_sublist _ _
theorem Qmn {t:List Qxa} {k:Nat} (h:k < t.length):(Qos t k).length=t.length - 1:=by simp [Qos]; omega
theorem Qpy {t:List Qxa} (h:Ord rE t) {e:Qw8}:Qbd rE t e=true ↔ ∃ r ∈ t,r.Entry.Addr=e.Addr∧r.Entry.Len=e.Len:=by
  constructor
  · intro q;obtain ⟨q1,q2,q3⟩:=J5.1 q;exact ⟨_,Zj q1,q2,q3⟩
  · intro ⟨r,hr,q⟩;obtain ⟨i,hi,rfl⟩:=Z7 hr;exact (QdE h hi q).2
theorem Qmo {t:List Qxa} (h:Ord rE t) {e:Qw8} (k:Nat) (q:Qbd rE t e=false):Qbd rE (Qos t k) e=false:=by
  rw [Bool.eq_false_iff];intro c;obtain ⟨r,hr,p⟩:=(Qpy (Qor h (QdR t k))).1 c;rw [(Qpy h).2 ⟨r,(QdR t k).subset hr,p⟩] at q
  cases q
def Qkg (t:List Qxa) (e:Qw8):List Qxa:=t.take (posK rE t e) ++ [⟨e,false⟩] ++ t.drop (posK rE t e)
def JM (t:List Qxa):Option Nat:=Z3 (fun i=>(t.getD i default).Stale) t.length
def Qpz (t:List Qxa) (e:Qw8):List Qxa × Bool :=
  if Qbd rE t e=true then (t.set (posK rE t e) ⟨e,false⟩,true)
  else if t.length=16 then match JM t with
    | none=>(t,false)
    | some s=>(Qkg (Qos t s) e,true)
  else (Qkg t e,true)
def Qcf (t:List Qxa) (c:Qw9):List Qxa × Bool :=
  if c.Kind=1 then Qpz t c.Entry
  else if c.Kind=2 then (if Qbd rE t c.Entry=true then Qos t (posK rE t c.Entry) else t,true)
  else (fresh t,true)
theorem Qmp {t:List Qxa} (h:t.length≤1048576) (e:Qw8):Qaq t e=some (posK rE t e:Int):=by
  have w3:=Qbz (f:=rE) t e;have w1:=fun k=>Qiq (f:=rE) (t:=t) (e:=e) (k:=k);have w2:posK rE t e < t.length→lessE (t.getD (posK rE t e) default).Entry e=false:=(Qb9 (p:=fun x=>lessE (rE x) e) t).2.1;unfold Qaq;generalize posK rE t e=L at *;have key:lp (σ:=Int) (β:=(Int)) (fun s1 =>
      gd ((decide (s1 < ((t.length:Nat):Int)))=true→((0:Int)≤s1∧s1 < ((t.length:Nat):Int))) <|
      bd (gcall ((decide (s1 < ((t.length:Nat):Int)))=true) (ZL ((t.getD s1.toNat default).Entry) e)) fun x6 =>
      (if ((decide (s1 < ((t.length:Nat):Int))) && x6)=true then
      some (.inl (IntKind.i64.wrap (s1+1)))
      else
      some (.inr s1))) 0=some (L:Int):=by
    have:=QgL (step:=(fun s1:Int =>
      gd ((decide (s1 < ((t.length:Nat):Int)))=true→((0:Int)≤s1∧s1 < ((t.length:Nat):Int))) <|
      bd (gcall ((decide (s1 < ((t.length:Nat):Int)))=true) (ZL ((t.getD s1.toNat default).Entry) e)) fun x6 =>
      (if ((decide (s1 < ((t.length:Nat):Int))) && x6)=true then
      some (.inl (IntKind.i64.wrap (s1+1)))
      else
      some (.inr s1):Option (Int ⊕ Int)))) L (fun _=>true) (L:Int) (L:Int) (fun i hi _=>by
        have hd:decide ((i:Int) < ((t.length:Nat):Int))=true:=by simp; omega
        have hl:lessE (t.getD i default).Entry e=true:=w1 i hi;rw [Qp (fun _=>by omega),Int.toNat_natCast,Qip,Qdp hd,Qb,hl,hd,Bool.and_self,if_pos rfl,QK hi (by omega),if_pos rfl]) (fun _=>by
        rw [Qp (fun c=>by simp only [decide_eq_true_eq] at c; omega),Int.toNat_natCast,Qip,Qf9,Qb]
        by_cases c:L < t.length
        · rw [w2 c,if_neg (by simp)]
        · rw [if_neg (by simp; omega)])
    rw [this,if_pos (Qfj fun _ _=>rfl)]
  rw [key,Qb]
theorem QhW {t:List Qxa} (h:t.length≤1048576):Q5 t=some t:=by
  unfold Q5;rw [Qp (by omega)]
theorem QpA {t:List Qxa} (h:t.length≤1048576):ZV t=some (match JM t with | some i=>(i:Int) | none=>-1):=by
  unfold ZV JM;rw [QbF t.length (fun i=>(t.getD i default).Stale) (fun i=>Sum.inl (i:Int)) (.inr ()) (fun i hi=>?_) (by rw [if_neg (by simp)]),Qb]
  · cases Z3 (fun i=>(t.getD i default).Stale) t.length <;> rfl
  · rw [if_pos (by simp; omega),Qp (by omega),Int.toNat_natCast,QK hi (by omega)];split <;> rfl
theorem Qlx {t:List Qxa} (h:t.length≤1048576) {k:Nat} (hk:k < t.length):QaZ t (k:Int)=some (Qos t k):=by
  unfold QaZ Qos;rw [Qp (by omega),Int.toNat_natCast,QhW (by simp; omega),Qb,wrap_i64 (n:=(k:Int)+1) (by omega) (by omega)];rw [Qp (by omega),Qp (by simp [QU]; omega),show ((k:Int)+1).toNat=k+1 by omega];have e1:t.take (k+1+Qdg ((t.length:Nat):Int) ((k:Int)+1))=t:=List.take_of_length_le (by simp [QU]; omega);rw [e1]
theorem Qot {t:List Qxa} (h:t.length≤1048576) {k:Nat} (hk:k < t.length):Qav t (k:Int)=some (Qos t k):=Qlx h hk
theorem Qou {t:List Qxa} (e:Qw8):((decide ((posK rE t e:Int) < ((t.length:Nat):Int)) && (t.getD (posK rE t e) default).Entry.Addr == e.Addr) && (t.getD (posK rE t e) default).Entry.Len == e.Len)=Qbd rE t e:=by
  have hd:decide ((posK rE t e:Int) < ((t.length:Nat):Int))=decide (posK rE t e < t.length):=decide_eq_decide.2 (by omega);rw [hd,Bool.and_assoc]; rfl
theorem QpB {t:List Qxa} (h:t.length≤1048576) (e:Qw8):(gd ((0:Int)≤(0:Int)∧(0:Int)≤(posK rE t e:Int)∧(posK rE t e:Int)≤((t.length:Nat):Int)) <|
    bd (Q5 (t.take (posK rE t e))) fun x8 =>
    gd (((x8.length)+(([(⟨e,false⟩:Qxa)]:List Qxa).length))*(40+1)≤70368744177664) <|
    gd ((0:Int)≤(posK rE t e:Int)∧(posK rE t e:Int)≤((t.length:Nat):Int)∧((t.length:Nat):Int)≤((t.length:Nat):Int)) <|
    gd ((((x8 ++ ([(⟨e,false⟩:Qxa)]:List Qxa)).length)+((Qdg ((t.length:Nat):Int) (posK rE t e:Int))))*(40+1)≤70368744177664) <|
    some (((x8 ++ ([(⟨e,false⟩:Qxa)]:List Qxa)) ++ (((t).take (posK rE t e+(Qdg ((t.length:Nat):Int) (posK rE t e:Int)))).drop (posK rE t e))),true))=some (Qkg t e,true):=by
  have w3:=Qbz (f:=rE) t e;unfold Qkg;generalize posK rE t e=L at *;rw [Qp (by omega),QhW (by simp; omega),Qb,Qp (by simp; omega),Qp (by omega),Qp (by simp [QU]; omega)];have e1:(t.take (L+Qdg ((t.length:Nat):Int) (L:Int))).drop L=t.drop L:=by
    rw [List.take_of_length_le (by simp [QU]; omega)]
  rw [e1]
theorem Qvl {t:List Qxa} (h:t.length≤1048576) (h1:t.length ≠ 16) (e:Qw8):Qbf t e=some (Qpz t e):=by
  have w3:=Qbz (f:=rE) t e;unfold Qbf Qpz;rw [Qmp h,Qb,Int.toNat_natCast,Qp (fun c=>by simp only [decide_eq_true_eq] at c; omega),Qp (fun c=>by simp only [Bool.and_eq_true,decide_eq_true_eq] at c; omega),Qou,QpB h,QhW h,Qb]
  cases hh:Qbd rE t e
  · rw [if_neg (by decide),if_neg (by simp; omega),if_neg (by decide),if_neg h1]
  · have:=(J5.1 hh).1;rw [if_pos rfl,if_pos rfl,Qp (by omega)]
theorem Qwk {t:List Qxa} (h:t.length≤1048576) (ho:Ord rE t) (e:Qw8):QcH t e=some (Qpz t e):=by
  have w3:=Qbz (f:=rE) t e;unfold QcH Qpz;rw [Qmp h,Qb,Int.toNat_natCast,Qp (fun c=>by simp only [decide_eq_true_eq] at c; omega),Qp (fun c=>by simp only [Bool.and_eq_true,decide_eq_true_eq] at c; omega),Qou,QpB h,QhW h,Qb,QpA h,Qb]
  cases hh:Qbd rE t e
  · simp only [Bool.false_eq_true,if_false]
    by_cases c:t.length=16
    · rw [if_pos (by simp; omega),if_pos c]
      cases hf:JM t with
      | none=>rfl
      | some s =>
        have hs:=(ZF hf).1;have hl:=Qmn hs;dsimp only;rw [if_neg (by simp <;> omega),Qot h hs,Qb,Qvl (by omega) (by omega),Qb];unfold Qpz;rw [Qmo ho s hh,if_neg (by decide),if_neg (by omega)]
    · rw [if_neg (by simp <;> omega),if_neg c]
  · have:=(J5.1 hh).1;rw [if_pos rfl,if_pos rfl,Qp (by omega)]
theorem Qvm {t:List Qxa} (h:t.length≤1048576) (ho:Ord rE t) (c:Qw9):QaL t c=some (Qcf t c):=by
  have w3:=Qbz (f:=rE) t c.Entry;unfold QaL Qcf;rw [Qwk h ho,Qb,Qmp h,Qb,Int.toNat_natCast,Qp (fun c=>by simp only [decide_eq_true_eq] at c; omega),Qp (fun c=>by simp only [Bool.and_eq_true,decide_eq_true_eq] at c; omega),Qou,Qpt h,Qb]
  by_cases c1:c.Kind=1
  · rw [if_pos (by simpa using c1),if_pos c1]
  · rw [if_neg (by simpa using c1),if_neg c1]
    by_cases c2:c.Kind=2
    · rw [if_pos (by simpa using c2),if_pos c2]
      cases hh:Qbd rE t c.Entry
      · rfl
      · rw [if_pos rfl,if_pos rfl,Qlx h (J5.1 hh).1,Qb]
    · rw [if_neg (by simpa using c2),if_neg c2]
theorem QkJ (t:List Qxa):(JM t).isSome=Jj t:=by
  unfold JM Jj
  cases hf:Z3 (fun i=>(t.getD i default).Stale) t.length with
  | some i =>
    obtain ⟨q1,q2,_⟩:=ZF hf;exact (List.any_eq_true.2 ⟨_,Zj q1,q2⟩).symm
  | none =>
    symm
    rw [Option.isSome,Bool.eq_false_iff];intro c;obtain ⟨r,hr,ht⟩:=List.any_eq_true.1 c;obtain ⟨i,hi,rfl⟩:=Z7 hr;have:=JK hf i hi;rw [ht] at this; cases this
def kept (e:Qxb):Qxb:=if Jj e.Heard=true then e else { e with Keep:=0 }
theorem Qov {e:Qxb} (h:e.Heard.length≤1048576):Zy e=some (kept e):=by
  unfold Zy kept;rw [QpA h,Qb,← QkJ]
  cases hf:JM e.Heard with
  | none=>rfl
  | some i =>
    dsimp only [Option.isSome];rw [if_neg (by simp <;> omega),if_pos rfl]
theorem QtN {t:List Qxa} (h:t.length≤1048576) (ho:Ord rE t) {e:Qw8} (he:0≤e.Len∧e.Len≤16∧0≤e.Addr∧e.Addr≤65535):Qe t ⟨e.Addr,e.Len⟩=some ((posK rE t e:Int),Qbd rE t e):=by
  have w3:=Qbz (f:=rE) t e;have w1:=fun k=>Qiq (f:=rE) (t:=t) (e:=e) (k:=k);have w2:=fun k=>Qml ho (e:=e) (k:=k);have hcmp:∀ k,k < t.length→Zk (⟨(t.getD k default).Entry,(t.getD k default).Stale⟩:Qxa) ⟨e.Addr,e.Len⟩=some (cmpV (t.getD k default).Entry.Addr (t.getD k default).Entry.Len e.Addr e.Len):=fun k hk=>by
    unfold Zk;have:=ho.rng _ (Zj hk);rw [Qbo,Qb,QtG (by exact this) he,Qb]
  have hneg:∀ k,k < t.length→(cmpV (t.getD k default).Entry.Addr (t.getD k default).Entry.Len e.Addr e.Len < 0 ↔ lessE (t.getD k default).Entry e=true):=fun k hk=>by
    have:=ho.rng _ (Zj hk);rw [Qjf (a:=(t.getD k default).Entry) (b:=e) ⟨this.1,this.2.1⟩ ⟨he.1,he.2.1⟩,QhQ ⟨this.1,this.2.1⟩ ⟨he.1,he.2.1⟩]
  have key:Post (Qe t ⟨e.Addr,e.Len⟩) fun x=>x=((posK rE t e:Int),Qbd rE t e):=by
    have hh:Qbd rE t e=(decide (posK rE t e < t.length) && ((t.getD (posK rE t e) default).Entry.Addr == e.Addr && (t.getD (posK rE t e) default).Entry.Len == e.Len)):=rfl;rw [hh];unfold Qe;generalize posK rE t e=L at *;refine .bd (Q:=fun x=>x=(L:Int)) (.lp (fun s=>0≤s.2∧s.2≤(L:Int)∧(L:Int)≤s.1∧s.1≤(t.length:Int)) (fun s=>(s.1 - s.2).toNat) ⟨Int.le_refl _,by dsimp only; omega,by dsimp only; omega,Int.le_refl _⟩ fun s ⟨i1,i2,i3,i4⟩=>?_) fun x hx=>?_
    · refine .ite (fun c=>?_) fun c=>.ret ?_
      · simp only [decide_eq_true_eq] at c;rw [Qur (by omega) (by omega)];refine .gd (by decide) (.gd ⟨by omega,by omega⟩ ?_);have hm:((s.2+s.1) / 2).toNat < t.length:=by omega
        rw [hcmp _ hm,Qb,wrap_i64 (n:=(s.2+s.1) / 2+1) (by omega) (by omega)];refine .ite (fun c2=>?_) fun c2=>?_
        · simp only [decide_eq_true_eq] at c2;have c3:=(hneg _ hm).1 c2;refine .ret ⟨⟨by dsimp only; omega,?_,by dsimp only; omega,i4⟩,by dsimp only; omega⟩;dsimp only;refine Int.not_lt.1 fun hlt=>?_;have:lessE (t.getD ((s.2+s.1) / 2).toNat default).Entry e=false:=w2 ((s.2+s.1) / 2).toNat (by omega) (by omega);rw [this] at c3; cases c3
        · simp only [decide_eq_true_eq] at c2;refine .ret ⟨⟨i1,i2,?_,by dsimp only; omega⟩,by dsimp only; omega⟩;dsimp only;exact Int.not_lt.1 fun hlt=>c2 ((hneg _ hm).2 (w1 _ (by omega)))
      · simp only [decide_eq_true_eq] at c;show s.2=_;omega
    · subst hx;refine .gd (fun c=>?_) ?_
      · simp only [decide_eq_true_eq] at c; omega
      · rw [Int.toNat_natCast];have hd:decide ((L:Int) < ((t.length:Nat):Int))=decide (L < t.length):=decide_eq_decide.2 (by omega);rw [hd]
        by_cases c:L < t.length
        · rw [hcmp L c,decide_eq_true c,Qdp rfl,Qb];refine .ret ?_;have hr:=ho.rng _ (Zj c);have:=Qnm (a:=(t.getD L default).Entry) (b:=e) ⟨hr.1,hr.2.1⟩ ⟨he.1,he.2.1⟩;rw [Qwi ⟨hr.1,hr.2.1⟩ ⟨he.1,he.2.1⟩] at this;rw [Prod.mk.injEq];refine ⟨rfl,?_⟩;rw [Bool.eq_iff_iff];simp only [Bool.true_and,Bool.and_eq_true,beq_iff_eq];exact this
        · rw [decide_eq_false c,Qdq (by decide),Qb];exact .ret rfl
  obtain ⟨x,ex,rfl⟩:=key;exact ex
theorem Qjh {x:Qxb} (h:x.Heard.length≤1048576) (ho:Ord rE x.Heard) {e:Qw8} (he:0≤e.Len∧e.Len≤16∧0≤e.Addr∧e.Addr≤65535):Zh x ⟨e.Addr,e.Len⟩=some ((posK rE x.Heard e:Int),Qbd rE x.Heard e):=by
  unfold Zh;rw [QtN h ho he,Qb]
theorem Qr6 {t:List Qxa} (h:t.length≤1048576) {k:Nat} (hk:k < t.length):QM t (k:Int) (IntKind.i64.wrap ((k:Int)+1))=some (Qos t k):=by
  unfold QM;rw [wrap_i64 (by omega) (by omega),Qp (by omega),Int.toNat_natCast,show ((k:Int)+1).toNat=k+1 by omega]
  rfl
theorem Qr7 {t:List Qxa} (h:t.length≤1048576) (e:Qw8):QZ t (posK rE t e:Int) [⟨e,false⟩]=some (Qkg t e):=by
  have w3:=Qbz (f:=rE) t e;unfold QZ;rw [Qp ⟨by omega,by simp,by simp; omega⟩,Int.toNat_natCast]
  rfl
theorem Qr8 {xs:List Qxa} (h:xs.length≤1048576):Qt xs=some (match JM xs with | some i=>(i:Int) | none=>-1):=by
  unfold Qt JM;rw [QbF xs.length (fun i=>(xs.getD i default).Stale) (fun i=>Sum.inl (i:Int)) (.inr ()) (fun i hi=>?_) (by rw [if_neg (by simp)]),Qb]
  · cases Z3 (fun i=>(xs.getD i default).Stale) xs.length <;> rfl
  · rw [if_pos (by simp; omega),Qp (by omega),Int.toNat_natCast,QK hi (by omega)];unfold Qaf;rw [Qb];split <;> simp_all
end Go.Proofs.YtjgjdobkahdgfaaGreat
