/-
  Plain Lean: routes behind a change that is heard.
-/
import Derived.Test.YtjgjdobkahdgfaaGreatKz5
import Derived.Test.YtjgjdobkahdgfaaGreatHelUz
import Derived.Test.YtjgjdobkahdgfaaGreatHelTz
set_option linter.all false
namespace Go.Proofs.YtjgjdobkahdgfaaGreat
open Go Go.Ab
set_option maxHeartbeats 1000000
set_option maxRecDepth 100000
theorem QnM {e:Qwj} (h:QcH e=true):Ord rE e.Heard∧e.Heard.length≤16:=by
  simp only [QcH,Bool.and_eq_true,decide_eq_true_eq] at h;obtain ⟨⟨⟨hl,_⟩,hh⟩,_⟩:=h;have at_:∀ i,i < e.Heard.length→entryOk (e.Heard.getD i default).Entry=true∧(i=0 ∨ lessE (e.Heard.getD (i - 1) default).Entry (e.Heard.getD i default).Entry=true):=fun i hi=>by
    have:=QeZ hh hi;simp only [Qd0,Bool.and_eq_true,Bool.or_eq_true,decide_eq_true_eq] at this;exact this.1
  refine ⟨⟨List.pairwise_iff_getElem.2 fun k i hk hi hki=>?_,fun x hx=>?_⟩,hl⟩
  · have l:=Que (r:=fun x y=>lessE x y) (fun h k=>QcS h k) (f:=fun i=>(e.Heard.getD i default).Entry) (n:=e.Heard.length) (fun i h0 hi=>by
      rcases (at_ i hi).2 with h | h
      · omega
      · exact h) i hi k hki
    rw [List.getD_eq_getElem?_getD,List.getD_eq_getElem?_getD,List.getElem?_eq_getElem hk,List.getElem?_eq_getElem hi] at l;exact l
  · obtain ⟨i,hi,rfl⟩:=Qal hx;exact Qai (at_ i hi).1
theorem Qp3 {t:List Qwi} (h:Ord rE t):Ord rE (Qdj t):=by
  refine ⟨List.pairwise_map.2 (h.ord.imp fun q=>q),fun x hx=>?_⟩;obtain ⟨y,hy,rfl⟩:=List.mem_map.1 hx;exact h.rng y hy
theorem QnN {s t:List Qwi} (h:Ord rE t) (k:s.Sublist t):Ord rE s:=⟨h.ord.sublist k,fun x hx=>h.rng x (k.subset hx)⟩
def QnO (t:List Qwi) (k:Nat):List Qwi:=t.take k ++ t.drop (k+1)
theorem QdC (t:List Qwi) (k:Nat):(QnO t k).Sublist t:=by
  have:=List.take_append_drop k t;rw [QnO]
  conv=>rhs; rw [← this]
  refine List.Sublist.append (List.Sublist.refl _) ?_;rw [← List.drop_drop];exact List.drop_sublist _ _
theorem QlV {t:List Qwi} {k:Nat} (h:k < t.length):(QnO t k).length=t.length - 1:=by simp [QnO]; omega
theorem QoP {t:List Qwi} (h:Ord rE t) {e:Qwg}:Qcp rE t e=true ↔ ∃ r ∈ t,r.Entry.Addr=e.Addr∧r.Entry.Len=e.Len:=by
  constructor
  · intro q;obtain ⟨q1,q2,q3⟩:=Qam.1 q;exact ⟨_,Zo q1,q2,q3⟩
  · intro ⟨r,hr,q⟩;obtain ⟨i,hi,rfl⟩:=Qal hr;exact (QgT h hi q).2
theorem QlW {t:List Qwi} (h:Ord rE t) {e:Qwg} (k:Nat) (q:Qcp rE t e=false):Qcp rE (QnO t k) e=false:=by
  rw [Bool.eq_false_iff];intro c;obtain ⟨r,hr,p⟩:=(QoP (QnN h (QdC t k))).1 c;rw [(QoP h).2 ⟨r,(QdC t k).subset hr,p⟩] at q
  cases q
def QjP (t:List Qwi) (e:Qwg):List Qwi:=t.take (posK rE t e) ++ [⟨e,false⟩] ++ t.drop (posK rE t e)
def JP (t:List Qwi):Option Nat:=Z3 (fun i=>(t.getD i default).Stale) t.length
def Qp4 (t:List Qwi) (e:Qwg):List Qwi × Bool :=
  if Qcp rE t e=true then (t.set (posK rE t e) ⟨e,false⟩,true)
  else if t.length=16 then match JP t with
    | none=>(t,false)
    | some s=>(QjP (QnO t s) e,true)
  else (QjP t e,true)
def QcI (t:List Qwi) (c:Qwh):List Qwi × Bool :=
  if c.Kind=1 then Qp4 t c.Entry
  else if c.Kind=2 then (if Qcp rE t c.Entry=true then QnO t (posK rE t c.Entry) else t,true)
  else (fresh t,true)
theorem QlX {t:List Qwi} (h:t.length≤1048576) (e:Qwg):Qac t e=some (posK rE t e:Int):=by
  have w3:=Qbo (f:=rE) t e;have w1:=fun k=>Qh1 (f:=rE) (t:=t) (e:=e) (k:=k);have w2:posK rE t e < t.length→lessE (t.getD (posK rE t e) default).Entry e=false:=(QbW (p:=fun x=>lessE (rE x) e) t).2.1;unfold Qac;generalize posK rE t e=L at *;have key:lp (σ:=Int) (β:=(Int)) (fun s1 =>
      gd ((decide (s1 < ((t.length:Nat):Int)))=true→((0:Int)≤s1∧s1 < ((t.length:Nat):Int))) <|
      bd (gcall ((decide (s1 < ((t.length:Nat):Int)))=true) (ZK ((t.getD s1.toNat default).Entry) e)) fun x6 =>
      (if ((decide (s1 < ((t.length:Nat):Int))) && x6)=true then
      some (.inl (IntKind.i64.wrap (s1+1)))
      else
      some (.inr s1))) 0=some (L:Int):=by
    have:=QdZ (step:=(fun s1:Int =>
      gd ((decide (s1 < ((t.length:Nat):Int)))=true→((0:Int)≤s1∧s1 < ((t.length:Nat):Int))) <|
      bd (gcall ((decide (s1 < ((t.length:Nat):Int)))=true) (ZK ((t.getD s1.toNat default).Entry) e)) fun x6 =>
      (if ((decide (s1 < ((t.length:Nat):Int))) && x6)=true then
      some (.inl (IntKind.i64.wrap (s1+1)))
      else
      some (.inr s1):Option (Int ⊕ Int)))) L (fun _=>true) (L:Int) (L:Int) (fun i hi _=>by
        have hd:decide ((i:Int) < ((t.length:Nat):Int))=true:=by simp; omega
        have hl:lessE (t.getD i default).Entry e=true:=w1 i hi;rw [Qn (fun _=>by omega),Int.toNat_natCast,Qh0,QcC hd,Qb,hl,hd,Bool.and_self,if_pos rfl,QD hi (by omega),if_pos rfl]) (fun _=>by
        rw [Qn (fun c=>by simp only [decide_eq_true_eq] at c; omega),Int.toNat_natCast,Qh0,QfN,Qb]
        by_cases c:L < t.length
        · rw [w2 c,if_neg (by simp)]
        · rw [if_neg (by simp; omega)])
    rw [this,if_pos (QcF fun _ _=>rfl)]
  rw [key,Qb]
theorem Qhy {t:List Qwi} (h:t.length≤1048576):Q6 t=some t:=by
  unfold Q6;rw [Qn (by omega)]
theorem QoQ {t:List Qwi} (h:t.length≤1048576):ZS t=some (match JP t with | some i=>(i:Int) | none=>-1):=by
  unfold ZS JP;rw [Qbs t.length (fun i=>(t.getD i default).Stale) (fun i=>Sum.inl (i:Int)) (.inr ()) (fun i hi=>?_) (by rw [if_neg (by simp)]),Qb]
  · cases Z3 (fun i=>(t.getD i default).Stale) t.length <;> rfl
  · rw [if_pos (by simp; omega),Qn (by omega),Int.toNat_natCast,QD hi (by omega)];split <;> rfl
theorem Qk6 {t:List Qwi} (h:t.length≤1048576) {k:Nat} (hk:k < t.length):QaL t (k:Int)=some (QnO t k):=by
  unfold QaL QnO;rw [Qn (by omega),Int.toNat_natCast,Qhy (by simp; omega),Qb,wrap_i64 (n:=(k:Int)+1) (by omega) (by omega)];rw [Qn (by omega),Qn (by simp [QV]; omega),show ((k:Int)+1).toNat=k+1 by omega];have e1:t.take (k+1+QcL ((t.length:Nat):Int) ((k:Int)+1))=t:=List.take_of_length_le (by simp [QV]; omega);rw [e1]
theorem QnP {t:List Qwi} (h:t.length≤1048576) {k:Nat} (hk:k < t.length):Qaj t (k:Int)=some (QnO t k):=Qk6 h hk
theorem QnQ {t:List Qwi} (e:Qwg):((decide ((posK rE t e:Int) < ((t.length:Nat):Int)) && (t.getD (posK rE t e) default).Entry.Addr == e.Addr) && (t.getD (posK rE t e) default).Entry.Len == e.Len)=Qcp rE t e:=by
  have hd:decide ((posK rE t e:Int) < ((t.length:Nat):Int))=decide (posK rE t e < t.length):=decide_eq_decide.2 (by omega);rw [hd,Bool.and_assoc]; rfl
theorem QoR {t:List Qwi} (h:t.length≤1048576) (e:Qwg):(gd ((0:Int)≤(0:Int)∧(0:Int)≤(posK rE t e:Int)∧(posK rE t e:Int)≤((t.length:Nat):Int)) <|
    bd (Q6 (t.take (posK rE t e))) fun x8 =>
    gd (((x8.length)+(([(⟨e,false⟩:Qwi)]:List Qwi).length))*(40+1)≤70368744177664) <|
    gd ((0:Int)≤(posK rE t e:Int)∧(posK rE t e:Int)≤((t.length:Nat):Int)∧((t.length:Nat):Int)≤((t.length:Nat):Int)) <|
    gd ((((x8 ++ ([(⟨e,false⟩:Qwi)]:List Qwi)).length)+((QcL ((t.length:Nat):Int) (posK rE t e:Int))))*(40+1)≤70368744177664) <|
    some (((x8 ++ ([(⟨e,false⟩:Qwi)]:List Qwi)) ++ (((t).take (posK rE t e+(QcL ((t.length:Nat):Int) (posK rE t e:Int)))).drop (posK rE t e))),true))=some (QjP t e,true):=by
  have w3:=Qbo (f:=rE) t e;unfold QjP;generalize posK rE t e=L at *;rw [Qn (by omega),Qhy (by simp; omega),Qb,Qn (by simp; omega),Qn (by omega),Qn (by simp [QV]; omega)];have e1:(t.take (L+QcL ((t.length:Nat):Int) (L:Int))).drop L=t.drop L:=by
    rw [List.take_of_length_le (by simp [QV]; omega)]
  rw [e1]
theorem Qus {t:List Qwi} (h:t.length≤1048576) (h1:t.length ≠ 16) (e:Qwg):Qa3 t e=some (Qp4 t e):=by
  have w3:=Qbo (f:=rE) t e;unfold Qa3 Qp4;rw [QlX h,Qb,Int.toNat_natCast,Qn (fun c=>by simp only [decide_eq_true_eq] at c; omega),Qn (fun c=>by simp only [Bool.and_eq_true,decide_eq_true_eq] at c; omega),QnQ,QoR h,Qhy h,Qb]
  cases hh:Qcp rE t e
  · rw [if_neg (by decide),if_neg (by simp; omega),if_neg (by decide),if_neg h1]
  · have:=(Qam.1 hh).1;rw [if_pos rfl,if_pos rfl,Qn (by omega)]
theorem Qvw {t:List Qwi} (h:t.length≤1048576) (ho:Ord rE t) (e:Qwg):Qct t e=some (Qp4 t e):=by
  have w3:=Qbo (f:=rE) t e;unfold Qct Qp4;rw [QlX h,Qb,Int.toNat_natCast,Qn (fun c=>by simp only [decide_eq_true_eq] at c; omega),Qn (fun c=>by simp only [Bool.and_eq_true,decide_eq_true_eq] at c; omega),QnQ,QoR h,Qhy h,Qb,QoQ h,Qb]
  cases hh:Qcp rE t e
  · simp only [Bool.false_eq_true,if_false]
    by_cases c:t.length=16
    · rw [if_pos (by simp; omega),if_pos c]
      cases hf:JP t with
      | none=>rfl
      | some s =>
        have hs:=(ZY hf).1;have hl:=QlV hs;dsimp only;rw [if_neg (by simp <;> omega),QnP h hs,Qb,Qus (by omega) (by omega),Qb];unfold Qp4;rw [QlW ho s hh,if_neg (by decide),if_neg (by omega)]
    · rw [if_neg (by simp <;> omega),if_neg c]
  · have:=(Qam.1 hh).1;rw [if_pos rfl,if_pos rfl,Qn (by omega)]
theorem Qut {t:List Qwi} (h:t.length≤1048576) (ho:Ord rE t) (c:Qwh):Qaz t c=some (QcI t c):=by
  have w3:=Qbo (f:=rE) t c.Entry;unfold Qaz QcI;rw [Qvw h ho,Qb,QlX h,Qb,Int.toNat_natCast,Qn (fun c=>by simp only [decide_eq_true_eq] at c; omega),Qn (fun c=>by simp only [Bool.and_eq_true,decide_eq_true_eq] at c; omega),QnQ,QoK h,Qb]
  by_cases c1:c.Kind=1
  · rw [if_pos (by simpa using c1),if_pos c1]
  · rw [if_neg (by simpa using c1),if_neg c1]
    by_cases c2:c.Kind=2
    · rw [if_pos (by simpa using c2),if_pos c2]
      cases hh:Qcp rE t c.Entry
      · rfl
      · rw [if_pos rfl,if_pos rfl,Qk6 h (Qam.1 hh).1,Qb]
    · rw [if_neg (by simpa using c2),if_neg c2]
theorem Qkk (t:List Qwi):(JP t).isSome=Z2 t:=by
  unfold JP Z2
  cases hf:Z3 (fun i=>(t.getD i default).Stale) t.length with
  | some i =>
    obtain ⟨q1,q2,_⟩:=ZY hf;exact (List.any_eq_true.2 ⟨_,Zo q1,q2⟩).symm
  | none =>
    symm
    rw [Option.isSome,Bool.eq_false_iff];intro c;obtain ⟨r,hr,ht⟩:=List.any_eq_true.1 c;obtain ⟨i,hi,rfl⟩:=Qal hr;have:=QaE hf i hi;rw [ht] at this; cases this
def kept (e:Qwj):Qwj:=if Z2 e.Heard=true then e else { e with Keep:=0 }
theorem QnR {e:Qwj} (h:e.Heard.length≤1048576):Zw e=some (kept e):=by
  unfold Zw kept;rw [QoQ h,Qb,← Qkk]
  cases hf:JP e.Heard with
  | none=>rfl
  | some i =>
    dsimp only [Option.isSome];rw [if_neg (by simp <;> omega),if_pos rfl]
theorem QsV {t:List Qwi} (h:t.length≤1048576) (ho:Ord rE t) {e:Qwg} (he:0≤e.Len∧e.Len≤16∧0≤e.Addr∧e.Addr≤65535):Qg t ⟨e.Addr,e.Len⟩=some ((posK rE t e:Int),Qcp rE t e):=by
  have w3:=Qbo (f:=rE) t e;have w1:=fun k=>Qh1 (f:=rE) (t:=t) (e:=e) (k:=k);have w2:=fun k=>QlS ho (e:=e) (k:=k);have hcmp:∀ k,k < t.length→Zk (⟨(t.getD k default).Entry,(t.getD k default).Stale⟩:Qwi) ⟨e.Addr,e.Len⟩=some (cmpV (t.getD k default).Entry.Addr (t.getD k default).Entry.Len e.Addr e.Len):=fun k hk=>by
    unfold Zk;have:=ho.rng _ (Zo hk);rw [Qbb,Qb,QsN (by exact this) he,Qb]
  have hneg:∀ k,k < t.length→(cmpV (t.getD k default).Entry.Addr (t.getD k default).Entry.Len e.Addr e.Len < 0 ↔ lessE (t.getD k default).Entry e=true):=fun k hk=>by
    have:=ho.rng _ (Zo hk);rw [QiO (a:=(t.getD k default).Entry) (b:=e) ⟨this.1,this.2.1⟩ ⟨he.1,he.2.1⟩,Qht ⟨this.1,this.2.1⟩ ⟨he.1,he.2.1⟩]
  have key:Post (Qg t ⟨e.Addr,e.Len⟩) fun x=>x=((posK rE t e:Int),Qcp rE t e):=by
    have hh:Qcp rE t e=(decide (posK rE t e < t.length) && ((t.getD (posK rE t e) default).Entry.Addr == e.Addr && (t.getD (posK rE t e) default).Entry.Len == e.Len)):=rfl;rw [hh];unfold Qg;generalize posK rE t e=L at *;refine .bd (Q:=fun x=>x=(L:Int)) (.lp (fun s=>0≤s.2∧s.2≤(L:Int)∧(L:Int)≤s.1∧s.1≤(t.length:Int)) (fun s=>(s.1 - s.2).toNat) ⟨Int.le_refl _,by dsimp only; omega,by dsimp only; omega,Int.le_refl _⟩ fun s ⟨i1,i2,i3,i4⟩=>?_) fun x hx=>?_
    · refine .ite (fun c=>?_) fun c=>.ret ?_
      · simp only [decide_eq_true_eq] at c;rw [QtE (by omega) (by omega)];refine .gd (by decide) (.gd ⟨by omega,by omega⟩ ?_);have hm:((s.2+s.1) / 2).toNat < t.length:=by omega
        rw [hcmp _ hm,Qb,wrap_i64 (n:=(s.2+s.1) / 2+1) (by omega) (by omega)];refine .ite (fun c2=>?_) fun c2=>?_
        · simp only [decide_eq_true_eq] at c2;have c3:=(hneg _ hm).1 c2;refine .ret ⟨⟨by dsimp only; omega,?_,by dsimp only; omega,i4⟩,by dsimp only; omega⟩;dsimp only;refine Int.not_lt.1 fun hlt=>?_;have:lessE (t.getD ((s.2+s.1) / 2).toNat default).Entry e=false:=w2 ((s.2+s.1) / 2).toNat (by omega) (by omega);rw [this] at c3; cases c3
        · simp only [decide_eq_true_eq] at c2;refine .ret ⟨⟨i1,i2,?_,by dsimp only; omega⟩,by dsimp only; omega⟩;dsimp only;exact Int.not_lt.1 fun hlt=>c2 ((hneg _ hm).2 (w1 _ (by omega)))
      · simp only [decide_eq_true_eq] at c;show s.2=_;omega
    · subst hx;refine .gd (fun c=>?_) ?_
      · simp only [decide_eq_true_eq] at c; omega
      · rw [Int.toNat_natCast];have hd:decide ((L:Int) < ((t.length:Nat):Int))=decide (L < t.length):=decide_eq_decide.2 (by omega);rw [hd]
        by_cases c:L < t.length
        · rw [hcmp L c,decide_eq_true c,QcC rfl,Qb];refine .ret ?_;have hr:=ho.rng _ (Zo c);have:=QmN (a:=(t.getD L default).Entry) (b:=e) ⟨hr.1,hr.2.1⟩ ⟨he.1,he.2.1⟩;rw [Qvt ⟨hr.1,hr.2.1⟩ ⟨he.1,he.2.1⟩] at this;rw [Prod.mk.injEq];refine ⟨rfl,?_⟩;rw [Bool.eq_iff_iff];simp only [Bool.true_and,Bool.and_eq_true,beq_iff_eq];exact this
        · rw [decide_eq_false c,Qdf (by decide),Qb];exact .ret rfl
  obtain ⟨x,ex,rfl⟩:=key;exact ex
theorem QiQ {x:Qwj} (h:x.Heard.length≤1048576) (ho:Ord rE x.Heard) {e:Qwg} (he:0≤e.Len∧e.Len≤16∧0≤e.Addr∧e.Addr≤65535):Zh x ⟨e.Addr,e.Len⟩=some ((posK rE x.Heard e:Int),Qcp rE x.Heard e):=by
  unfold Zh;rw [QsV h ho he,Qb]
theorem Qrd {t:List Qwi} (h:t.length≤1048576) {k:Nat} (hk:k < t.length):QL t (k:Int) (IntKind.i64.wrap ((k:Int)+1))=some (QnO t k):=by
  unfold QL;rw [wrap_i64 (by omega) (by omega),Qn (by omega),Int.toNat_natCast,show ((k:Int)+1).toNat=k+1 by omega]
  rfl
theorem Qre {t:List Qwi} (h:t.length≤1048576) (e:Qwg):QY t (posK rE t e:Int) [⟨e,false⟩]=some (QjP t e):=by
  have w3:=Qbo (f:=rE) t e;unfold QY;rw [Qn ⟨by omega,by simp,by simp; omega⟩,Int.toNat_natCast]
  rfl
theorem Qrf {xs:List Qwi} (h:xs.length≤1048576):Qt xs=some (match JP xs with | some i=>(i:Int) | none=>-1):=by
  unfold Qt JP;rw [Qbs xs.length (fun i=>(xs.getD i default).Stale) (fun i=>Sum.inl (i:Int)) (.inr ()) (fun i hi=>?_) (by rw [if_neg (by simp)]),Qb]
  · cases Z3 (fun i=>(xs.getD i default).Stale) xs.length <;> rfl
  · rw [if_pos (by simp; omega),Qn (by omega),Int.toNat_natCast,QD hi (by omega)];unfold J1;rw [Qb];split <;> simp_all
end Go.Proofs.YtjgjdobkahdgfaaGreat
