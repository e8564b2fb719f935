/-
  Plain Lean: routes behind a change that is heard.
-/
import Derived.Test.YtjgjdobkahdgfaaGreatKz5
import Derived.Test.YtjgjdobkahdgfaaGreatHelUz
import Derived.Test.YtjgjdobkahdgfaaGreatHelTz
set_option linter.all false
namespace Go.Proofs.YtjgjdobkahdgfaaGreat
open Go Go.Ab
set_option maxHeartbeats 1000000
set_option maxRecDepth 100000
theorem QoF {e:Qxp} (h:Qc4 e=true):Ord rE e.Heard∧e.Heard.length≤16:=by
  simp only [Qc4,Bool.and_eq_true,decide_eq_true_eq] at h;obtain ⟨⟨⟨hl,_⟩,hh⟩,_⟩:=h;have at_:∀ i,i < e.Heard.length→entryOk (e.Heard.getD i default).Entry=true∧(i=0 ∨ lessE (e.Heard.getD (i - 1) default).Entry (e.Heard.getD i default).Entry=true):=fun i hi=>by
    have:=Qfr hh hi;simp only [Qeo,Bool.and_eq_true,Bool.or_eq_true,decide_eq_true_eq] at this;exact this.1
  refine ⟨⟨List.pairwise_iff_getElem.2 fun k i hk hi hki=>?_,fun x hx=>?_⟩,hl⟩
  · have l:=Qvi (r:=fun x y=>lessE x y) (fun h k=>Qdi h k) (f:=fun i=>(e.Heard.getD i default).Entry) (n:=e.Heard.length) (fun i h0 hi=>by
      rcases (at_ i hi).2 with h | h
      · omega
      · exact h) i hi k hki
    rw [List.getD_eq_getElem?_getD,List.getD_eq_getElem?_getD,List.getElem?_eq_getElem hk,List.getElem?_eq_getElem hi] at l;exact l
  · obtain ⟨i,hi,rfl⟩:=Je hx;exact QaA (at_ i hi).1
theorem Qq8 {t:List Qxo} (h:Ord rE t):Ord rE (QdG t):=by
  refine ⟨List.pairwise_map.2 (h.ord.imp fun q=>q),fun x hx=>?_⟩;obtain ⟨y,hy,rfl⟩:=List.mem_map.1 hx;exact h.rng y hy
theorem QoG {s t:List Qxo} (h:Ord rE t) (k:s.Sublist t):Ord rE s:=⟨h.ord.sublist k,fun x hx=>h.rng x (k.subset hx)⟩
def QoH (t:List Qxo) (k:Nat):List Qxo:=t.take k ++ t.drop (k+1)
theorem Qd0 (t:List Qxo) (k:Nat):(QoH t k).Sublist t:=by
  have:=List.take_append_drop k t;rw [QoH]
  conv=>rhs; rw [← this]
  refine List.Sublist.append (List.Sublist.refl _) ?_;rw [← List.drop_drop];exact List.drop_sublist _ _
theorem QmC {t:List Qxo} {k:Nat} (h:k < t.length):(QoH t k).length=t.length - 1:=by simp [QoH]; omega
theorem QpN {t:List Qxo} (h:Ord rE t) {e:Qxm}:Qbk rE t e=true ↔ ∃ r ∈ t,r.Entry.Addr=e.Addr∧r.Entry.Len=e.Len:=by
  constructor
  · intro q;obtain ⟨q1,q2,q3⟩:=J8.1 q;exact ⟨_,Zo q1,q2,q3⟩
  · intro ⟨r,hr,q⟩;obtain ⟨i,hi,rfl⟩:=Je hr;exact (QdO h hi q).2
theorem QmD {t:List Qxo} (h:Ord rE t) {e:Qxm} (k:Nat) (q:Qbk rE t e=false):Qbk rE (QoH t k) e=false:=by
  rw [Bool.eq_false_iff];intro c;obtain ⟨r,hr,p⟩:=(QpN (QoG h (Qd0 t k))).1 c;rw [(QpN h).2 ⟨r,(Qd0 t k).subset hr,p⟩] at q
  cases q
def Qks (t:List Qxo) (e:Qxm):List Qxo:=t.take (posK rE t e) ++ [⟨e,false⟩] ++ t.drop (posK rE t e)
def JR (t:List Qxo):Option Nat:=Z7 (fun i=>(t.getD i default).Stale) t.length
def QpO (t:List Qxo) (e:Qxm):List Qxo × Bool :=
  if Qbk rE t e=true then (t.set (posK rE t e) ⟨e,false⟩,true)
  else if t.length=16 then match JR t with
    | none=>(t,false)
    | some s=>(Qks (QoH t s) e,true)
  else (Qks t e,true)
def Qcm (t:List Qxo) (c:Qxn):List Qxo × Bool :=
  if c.Kind=1 then QpO t c.Entry
  else if c.Kind=2 then (if Qbk rE t c.Entry=true then QoH t (posK rE t c.Entry) else t,true)
  else (fresh t,true)
theorem QmE {t:List Qxo} (h:t.length≤1048576) (e:Qxm):Qaw t e=some (posK rE t e:Int):=by
  have w3:=QbG (f:=rE) t e;have w1:=fun k=>Qiy (f:=rE) (t:=t) (e:=e) (k:=k);have w2:posK rE t e < t.length→lessE (t.getD (posK rE t e) default).Entry e=false:=(Qcg (p:=fun x=>lessE (rE x) e) t).2.1;unfold Qaw;generalize posK rE t e=L at *;have key:lp (σ:=Int) (β:=(Int)) (fun s1 =>
      gd ((decide (s1 < ((t.length:Nat):Int)))=true→((0:Int)≤s1∧s1 < ((t.length:Nat):Int))) <|
      bd (gcall ((decide (s1 < ((t.length:Nat):Int)))=true) (ZP ((t.getD s1.toNat default).Entry) e)) fun x6 =>
      (if ((decide (s1 < ((t.length:Nat):Int))) && x6)=true then
      some (.inl (IntKind.i64.wrap (s1+1)))
      else
      some (.inr s1))) 0=some (L:Int):=by
    have:=QgW (step:=(fun s1:Int =>
      gd ((decide (s1 < ((t.length:Nat):Int)))=true→((0:Int)≤s1∧s1 < ((t.length:Nat):Int))) <|
      bd (gcall ((decide (s1 < ((t.length:Nat):Int)))=true) (ZP ((t.getD s1.toNat default).Entry) e)) fun x6 =>
      (if ((decide (s1 < ((t.length:Nat):Int))) && x6)=true then
      some (.inl (IntKind.i64.wrap (s1+1)))
      else
      some (.inr s1):Option (Int ⊕ Int)))) L (fun _=>true) (L:Int) (L:Int) (fun i hi _=>by
        have hd:decide ((i:Int) < ((t.length:Nat):Int))=true:=by simp; omega
        have hl:lessE (t.getD i default).Entry e=true:=w1 i hi;rw [Qp (fun _=>by omega),Int.toNat_natCast,Qix,Qc0 hd,Qb,hl,hd,Bool.and_self,if_pos rfl,QM hi (by omega),if_pos rfl]) (fun _=>by
        rw [Qp (fun c=>by simp only [decide_eq_true_eq] at c; omega),Int.toNat_natCast,Qix,Qgk,Qb]
        by_cases c:L < t.length
        · rw [w2 c,if_neg (by simp)]
        · rw [if_neg (by simp; omega)])
    rw [this,if_pos (Qfs fun _ _=>rfl)]
  rw [key,Qb]
theorem Qh5 {t:List Qxo} (h:t.length≤1048576):Q7 t=some t:=by
  unfold Q7;rw [Qp (by omega)]
theorem QpP {t:List Qxo} (h:t.length≤1048576):ZZ t=some (match JR t with | some i=>(i:Int) | none=>-1):=by
  unfold ZZ JR;rw [QbM t.length (fun i=>(t.getD i default).Stale) (fun i=>Sum.inl (i:Int)) (.inr ()) (fun i hi=>?_) (by rw [if_neg (by simp)]),Qb]
  · cases Z7 (fun i=>(t.getD i default).Stale) t.length <;> rfl
  · rw [if_pos (by simp; omega),Qp (by omega),Int.toNat_natCast,QM hi (by omega)];split <;> rfl
theorem QlK {t:List Qxo} (h:t.length≤1048576) {k:Nat} (hk:k < t.length):Qa5 t (k:Int)=some (QoH t k):=by
  unfold Qa5 QoH;rw [Qp (by omega),Int.toNat_natCast,Qh5 (by simp; omega),Qb,wrap_i64 (n:=(k:Int)+1) (by omega) (by omega)];rw [Qp (by omega),Qp (by simp [QW]; omega),show ((k:Int)+1).toNat=k+1 by omega];have e1:t.take (k+1+Qdb ((t.length:Nat):Int) ((k:Int)+1))=t:=List.take_of_length_le (by simp [QW]; omega);rw [e1]
theorem QoI {t:List Qxo} (h:t.length≤1048576) {k:Nat} (hk:k < t.length):QaB t (k:Int)=some (QoH t k):=QlK h hk
theorem QoJ {t:List Qxo} (e:Qxm):((decide ((posK rE t e:Int) < ((t.length:Nat):Int)) && (t.getD (posK rE t e) default).Entry.Addr == e.Addr) && (t.getD (posK rE t e) default).Entry.Len == e.Len)=Qbk rE t e:=by
  have hd:decide ((posK rE t e:Int) < ((t.length:Nat):Int))=decide (posK rE t e < t.length):=decide_eq_decide.2 (by omega);rw [hd,Bool.and_assoc]; rfl
theorem QpQ {t:List Qxo} (h:t.length≤1048576) (e:Qxm):(gd ((0:Int)≤(0:Int)∧(0:Int)≤(posK rE t e:Int)∧(posK rE t e:Int)≤((t.length:Nat):Int)) <|
    bd (Q7 (t.take (posK rE t e))) fun x8 =>
    gd (((x8.length)+(([(⟨e,false⟩:Qxo)]:List Qxo).length))*(40+1)≤70368744177664) <|
    gd ((0:Int)≤(posK rE t e:Int)∧(posK rE t e:Int)≤((t.length:Nat):Int)∧((t.length:Nat):Int)≤((t.length:Nat):Int)) <|
    gd ((((x8 ++ ([(⟨e,false⟩:Qxo)]:List Qxo)).length)+((Qdb ((t.length:Nat):Int) (posK rE t e:Int))))*(40+1)≤70368744177664) <|
    some (((x8 ++ ([(⟨e,false⟩:Qxo)]:List Qxo)) ++ (((t).take (posK rE t e+(Qdb ((t.length:Nat):Int) (posK rE t e:Int)))).drop (posK rE t e))),true))=some (Qks t e,true):=by
  have w3:=QbG (f:=rE) t e;unfold Qks;generalize posK rE t e=L at *;rw [Qp (by omega),Qh5 (by simp; omega),Qb,Qp (by simp; omega),Qp (by omega),Qp (by simp [QW]; omega)];have e1:(t.take (L+Qdb ((t.length:Nat):Int) (L:Int))).drop L=t.drop L:=by
    rw [List.take_of_length_le (by simp [QW]; omega)]
  rw [e1]
theorem Qvv {t:List Qxo} (h:t.length≤1048576) (h1:t.length ≠ 16) (e:Qxm):Qbm t e=some (QpO t e):=by
  have w3:=QbG (f:=rE) t e;unfold Qbm QpO;rw [QmE h,Qb,Int.toNat_natCast,Qp (fun c=>by simp only [decide_eq_true_eq] at c; omega),Qp (fun c=>by simp only [Bool.and_eq_true,decide_eq_true_eq] at c; omega),QoJ,QpQ h,Qh5 h,Qb]
  cases hh:Qbk rE t e
  · rw [if_neg (by decide),if_neg (by simp; omega),if_neg (by decide),if_neg h1]
  · have:=(J8.1 hh).1;rw [if_pos rfl,if_pos rfl,Qp (by omega)]
theorem Qwy {t:List Qxo} (h:t.length≤1048576) (ho:Ord rE t) (e:Qxm):QcQ t e=some (QpO t e):=by
  have w3:=QbG (f:=rE) t e;unfold QcQ QpO;rw [QmE h,Qb,Int.toNat_natCast,Qp (fun c=>by simp only [decide_eq_true_eq] at c; omega),Qp (fun c=>by simp only [Bool.and_eq_true,decide_eq_true_eq] at c; omega),QoJ,QpQ h,Qh5 h,Qb,QpP h,Qb]
  cases hh:Qbk rE t e
  · simp only [Bool.false_eq_true,if_false]
    by_cases c:t.length=16
    · rw [if_pos (by simp; omega),if_pos c]
      cases hf:JR t with
      | none=>rfl
      | some s =>
        have hs:=(ZK hf).1;have hl:=QmC hs;dsimp only;rw [if_neg (by simp <;> omega),QoI h hs,Qb,Qvv (by omega) (by omega),Qb];unfold QpO;rw [QmD ho s hh,if_neg (by decide),if_neg (by omega)]
    · rw [if_neg (by simp <;> omega),if_neg c]
  · have:=(J8.1 hh).1;rw [if_pos rfl,if_pos rfl,Qp (by omega)]
theorem Qvw {t:List Qxo} (h:t.length≤1048576) (ho:Ord rE t) (c:Qxn):QaT t c=some (Qcm t c):=by
  have w3:=QbG (f:=rE) t c.Entry;unfold QaT Qcm;rw [Qwy h ho,Qb,QmE h,Qb,Int.toNat_natCast,Qp (fun c=>by simp only [decide_eq_true_eq] at c; omega),Qp (fun c=>by simp only [Bool.and_eq_true,decide_eq_true_eq] at c; omega),QoJ,QpI h,Qb]
  by_cases c1:c.Kind=1
  · rw [if_pos (by simpa using c1),if_pos c1]
  · rw [if_neg (by simpa using c1),if_neg c1]
    by_cases c2:c.Kind=2
    · rw [if_pos (by simpa using c2),if_pos c2]
      cases hh:Qbk rE t c.Entry
      · rfl
      · rw [if_pos rfl,if_pos rfl,QlK h (J8.1 hh).1,Qb]
    · rw [if_neg (by simpa using c2),if_neg c2]
theorem QkX (t:List Qxo):(JR t).isSome=Z8 t:=by
  unfold JR Z8
  cases hf:Z7 (fun i=>(t.getD i default).Stale) t.length with
  | some i =>
    obtain ⟨q1,q2,_⟩:=ZK hf;exact (List.any_eq_true.2 ⟨_,Zo q1,q2⟩).symm
  | none =>
    symm
    rw [Option.isSome,Bool.eq_false_iff];intro c;obtain ⟨r,hr,ht⟩:=List.any_eq_true.1 c;obtain ⟨i,hi,rfl⟩:=Je hr;have:=JP hf i hi;rw [ht] at this; cases this
def kept (e:Qxp):Qxp:=if Z8 e.Heard=true then e else { e with Keep:=0 }
theorem QoK {e:Qxp} (h:e.Heard.length≤1048576):ZD e=some (kept e):=by
  unfold ZD kept;rw [QpP h,Qb,← QkX]
  cases hf:JR e.Heard with
  | none=>rfl
  | some i =>
    dsimp only [Option.isSome];rw [if_neg (by simp <;> omega),if_pos rfl]
theorem QtY {t:List Qxo} (h:t.length≤1048576) (ho:Ord rE t) {e:Qxm} (he:0≤e.Len∧e.Len≤16∧0≤e.Addr∧e.Addr≤65535):Qf t ⟨e.Addr,e.Len⟩=some ((posK rE t e:Int),Qbk rE t e):=by
  have w3:=QbG (f:=rE) t e;have w1:=fun k=>Qiy (f:=rE) (t:=t) (e:=e) (k:=k);have w2:=fun k=>QmA ho (e:=e) (k:=k);have hcmp:∀ k,k < t.length→Zq (⟨(t.getD k default).Entry,(t.getD k default).Stale⟩:Qxo) ⟨e.Addr,e.Len⟩=some (cmpV (t.getD k default).Entry.Addr (t.getD k default).Entry.Len e.Addr e.Len):=fun k hk=>by
    unfold Zq;have:=ho.rng _ (Zo hk);rw [Qbw,Qb,QtR (by exact this) he,Qb]
  have hneg:∀ k,k < t.length→(cmpV (t.getD k default).Entry.Addr (t.getD k default).Entry.Len e.Addr e.Len < 0 ↔ lessE (t.getD k default).Entry e=true):=fun k hk=>by
    have:=ho.rng _ (Zo hk);rw [Qjr (a:=(t.getD k default).Entry) (b:=e) ⟨this.1,this.2.1⟩ ⟨he.1,he.2.1⟩,QhZ ⟨this.1,this.2.1⟩ ⟨he.1,he.2.1⟩]
  have key:Post (Qf t ⟨e.Addr,e.Len⟩) fun x=>x=((posK rE t e:Int),Qbk rE t e):=by
    have hh:Qbk rE t e=(decide (posK rE t e < t.length) && ((t.getD (posK rE t e) default).Entry.Addr == e.Addr && (t.getD (posK rE t e) default).Entry.Len == e.Len)):=rfl;rw [hh];unfold Qf;generalize posK rE t e=L at *;refine .bd (Q:=fun x=>x=(L:Int)) (.lp (fun s=>0≤s.2∧s.2≤(L:Int)∧(L:Int)≤s.1∧s.1≤(t.length:Int)) (fun s=>(s.1 - s.2).toNat) ⟨Int.le_refl _,by dsimp only; omega,by dsimp only; omega,Int.le_refl _⟩ fun s ⟨i1,i2,i3,i4⟩=>?_) fun x hx=>?_
    · refine .ite (fun c=>?_) fun c=>.ret ?_
      · simp only [decide_eq_true_eq] at c;rw [QuC (by omega) (by omega)];refine .gd (by decide) (.gd ⟨by omega,by omega⟩ ?_);have hm:((s.2+s.1) / 2).toNat < t.length:=by omega
        rw [hcmp _ hm,Qb,wrap_i64 (n:=(s.2+s.1) / 2+1) (by omega) (by omega)];refine .ite (fun c2=>?_) fun c2=>?_
        · simp only [decide_eq_true_eq] at c2;have c3:=(hneg _ hm).1 c2;refine .ret ⟨⟨by dsimp only; omega,?_,by dsimp only; omega,i4⟩,by dsimp only; omega⟩;dsimp only;refine Int.not_lt.1 fun hlt=>?_;have:lessE (t.getD ((s.2+s.1) / 2).toNat default).Entry e=false:=w2 ((s.2+s.1) / 2).toNat (by omega) (by omega);rw [this] at c3; cases c3
        · simp only [decide_eq_true_eq] at c2;refine .ret ⟨⟨i1,i2,?_,by dsimp only; omega⟩,by dsimp only; omega⟩;dsimp only;exact Int.not_lt.1 fun hlt=>c2 ((hneg _ hm).2 (w1 _ (by omega)))
      · simp only [decide_eq_true_eq] at c;show s.2=_;omega
    · subst hx;refine .gd (fun c=>?_) ?_
      · simp only [decide_eq_true_eq] at c; omega
      · rw [Int.toNat_natCast];have hd:decide ((L:Int) < ((t.length:Nat):Int))=decide (L < t.length):=decide_eq_decide.2 (by omega);rw [hd]
        by_cases c:L < t.length
        · rw [hcmp L c,decide_eq_true c,Qc0 rfl,Qb];refine .ret ?_;have hr:=ho.rng _ (Zo c);have:=QnD (a:=(t.getD L default).Entry) (b:=e) ⟨hr.1,hr.2.1⟩ ⟨he.1,he.2.1⟩;rw [Qwv ⟨hr.1,hr.2.1⟩ ⟨he.1,he.2.1⟩] at this;rw [Prod.mk.injEq];refine ⟨rfl,?_⟩;rw [Bool.eq_iff_iff];simp only [Bool.true_and,Bool.and_eq_true,beq_iff_eq];exact this
        · rw [decide_eq_false c,QdC (by decide),Qb];exact .ret rfl
  obtain ⟨x,ex,rfl⟩:=key;exact ex
theorem Qjs {x:Qxp} (h:x.Heard.length≤1048576) (ho:Ord rE x.Heard) {e:Qxm} (he:0≤e.Len∧e.Len≤16∧0≤e.Addr∧e.Addr≤65535):Zl x ⟨e.Addr,e.Len⟩=some ((posK rE x.Heard e:Int),Qbk rE x.Heard e):=by
  unfold Zl;rw [QtY h ho he,Qb]
theorem Qsk {t:List Qxo} (h:t.length≤1048576) {k:Nat} (hk:k < t.length):QO t (k:Int) (IntKind.i64.wrap ((k:Int)+1))=some (QoH t k):=by
  unfold QO;rw [wrap_i64 (by omega) (by omega),Qp (by omega),Int.toNat_natCast,show ((k:Int)+1).toNat=k+1 by omega]
  rfl
theorem Qsl {t:List Qxo} (h:t.length≤1048576) (e:Qxm):Q0 t (posK rE t e:Int) [⟨e,false⟩]=some (Qks t e):=by
  have w3:=QbG (f:=rE) t e;unfold Q0;rw [Qp ⟨by omega,by simp,by simp; omega⟩,Int.toNat_natCast]
  rfl
theorem Qsm {xs:List Qxo} (h:xs.length≤1048576):Qt xs=some (match JR xs with | some i=>(i:Int) | none=>-1):=by
  unfold Qt JR;rw [QbM xs.length (fun i=>(xs.getD i default).Stale) (fun i=>Sum.inl (i:Int)) (.inr ()) (fun i hi=>?_) (by rw [if_neg (by simp)]),Qb]
  · cases Z7 (fun i=>(xs.getD i default).Stale) xs.length <;> rfl
  · rw [if_pos (by simp; omega),Qp (by omega),Int.toNat_natCast,QM hi (by omega)];unfold Qai;rw [Qb];split <;> simp_all
end Go.Proofs.YtjgjdobkahdgfaaGreat
