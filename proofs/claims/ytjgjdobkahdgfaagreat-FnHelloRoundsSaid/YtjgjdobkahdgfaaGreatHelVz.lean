/-
  Plain Lean: routes behind a change that is heard.
-/
import Derived.Test.YtjgjdobkahdgfaaGreatKz6
import Derived.Test.YtjgjdobkahdgfaaGreatHelUz
import Derived.Test.YtjgjdobkahdgfaaGreatHelTz
set_option linter.all false
namespace Go.Proofs.YtjgjdobkahdgfaaGreat
open Go Go.Ab
set_option maxHeartbeats 1000000
set_option maxRecDepth 100000
theorem Qob {e:Qv5} (h:QcP e=true):Ord rE e.Heard∧e.Heard.length≤16:=by
  simp only [QcP,Bool.and_eq_true,decide_eq_true_eq] at h;obtain ⟨⟨⟨hl,_⟩,hh⟩,_⟩:=h;have at_:∀ i,i < e.Heard.length→entryOk (e.Heard.getD i default).Entry=true∧(i=0 ∨ lessE (e.Heard.getD (i - 1) default).Entry (e.Heard.getD i default).Entry=true):=fun i hi=>by
    have:=Qei hh hi;simp only [Qd3,Bool.and_eq_true,Bool.or_eq_true,decide_eq_true_eq] at this;exact this.1
  refine ⟨⟨List.pairwise_iff_getElem.2 fun k i hk hi hki=>?_,fun x hx=>?_⟩,hl⟩
  · have l:=Qt8 (r:=fun x y=>lessE x y) (fun h k=>Qd2 h k) (f:=fun i=>(e.Heard.getD i default).Entry) (n:=e.Heard.length) (fun i h0 hi=>by
      rcases (at_ i hi).2 with h | h
      · omega
      · exact h) i hi k hki
    rw [List.getD_eq_getElem?_getD,List.getD_eq_getElem?_getD,List.getElem?_eq_getElem hk,List.getElem?_eq_getElem hi] at l;exact l
  · obtain ⟨i,hi,rfl⟩:=Qby hx;exact QaO (at_ i hi).1
theorem Qqe {t:List Qv4} (h:Ord rE t):Ord rE (Qd5 t):=by
  refine ⟨List.pairwise_map.2 (h.ord.imp fun q=>q),fun x hx=>?_⟩;obtain ⟨y,hy,rfl⟩:=List.mem_map.1 hx;exact h.rng y hy
theorem Qry {s t:List Qv4} (h:Ord rE t) (k:s.Sublist t):Ord rE s:=⟨h.ord.sublist k,fun x hx=>h.rng x (k.subset hx)⟩
def Qqf (t:List Qv4) (k:Nat):List Qv4:=t.take k ++ t.drop (k+1)
theorem Qek (t:List Qv4) (k:Nat):(Qqf t k).Sublist t:=by
  have:=List.take_append_drop k t;rw [Qqf]
  conv=>rhs; rw [← this]
  refine List.Sublist.append (List.Sublist.refl _) ?_;rw [← List.drop_drop];exact List.drop_sublist _ _
theorem Qmo {t:List Qv4} {k:Nat} (h:k < t.length):(Qqf t k).length=t.length - 1:=by simp [Qqf]; omega
theorem Qpd {t:List Qv4} (h:Ord rE t) {e:Qv2}:Qdp rE t e=true ↔ ∃ r ∈ t,r.Entry.Addr=e.Addr∧r.Entry.Len=e.Len:=by
  constructor
  · intro q;obtain ⟨q1,q2,q3⟩:=QaR.1 q;exact ⟨_,ZG q1,q2,q3⟩
  · intro ⟨r,hr,q⟩;obtain ⟨i,hi,rfl⟩:=Qby hr;exact (Qkc h hi q).2
theorem Qpe {t:List Qv4} (h:Ord rE t) {e:Qv2} (k:Nat) (q:Qdp rE t e=false):Qdp rE (Qqf t k) e=false:=by
  rw [Bool.eq_false_iff];intro c;obtain ⟨r,hr,p⟩:=(Qpd (Qry h (Qek t k))).1 c;rw [(Qpd h).2 ⟨r,(Qek t k).subset hr,p⟩] at q
  cases q
def QkD (t:List Qv4) (e:Qv2):List Qv4:=t.take (posK rE t e) ++ [⟨e,false⟩] ++ t.drop (posK rE t e)
def Qak (t:List Qv4):Option Nat:=Z7 (fun i=>(t.getD i default).Stale) t.length
def Qqw (t:List Qv4) (e:Qv2):List Qv4 × Bool :=
  if Qdp rE t e=true then (t.set (posK rE t e) ⟨e,false⟩,true)
  else if t.length=16 then match Qak t with
    | none=>(t,false)
    | some s=>(QkD (Qqf t s) e,true)
  else (QkD t e,true)
def Qft (t:List Qv4) (c:Qv3):List Qv4 × Bool :=
  if c.Kind=1 then Qqw t c.Entry
  else if c.Kind=2 then (if Qdp rE t c.Entry=true then Qqf t (posK rE t c.Entry) else t,true)
  else (fresh t,true)
theorem Qmp {t:List Qv4} (h:t.length≤1048576) (e:Qv2):Qao t e=some (posK rE t e:Int):=by
  have w3:=Qbr (f:=rE) t e;have w1:=fun k=>Qip (f:=rE) (t:=t) (e:=e) (k:=k);have w2:posK rE t e < t.length→lessE (t.getD (posK rE t e) default).Entry e=false:=(Qb3 (p:=fun x=>lessE (rE x) e) t).2.1;unfold Qao;generalize posK rE t e=L at *;have key:lp (σ:=Int) (β:=(Int)) (fun s1 =>
      gd ((decide (s1 < ((t.length:Nat):Int)))=true→((0:Int)≤s1∧s1 < ((t.length:Nat):Int))) <|
      bd (gcall ((decide (s1 < ((t.length:Nat):Int)))=true) (ZK ((t.getD s1.toNat default).Entry) e)) fun x6 =>
      (if ((decide (s1 < ((t.length:Nat):Int))) && x6)=true then
      some (.inl (IntKind.i64.wrap (s1+1)))
      else
      some (.inr s1))) 0=some (L:Int):=by
    have:=QdB (step:=(fun s1:Int =>
      gd ((decide (s1 < ((t.length:Nat):Int)))=true→((0:Int)≤s1∧s1 < ((t.length:Nat):Int))) <|
      bd (gcall ((decide (s1 < ((t.length:Nat):Int)))=true) (ZK ((t.getD s1.toNat default).Entry) e)) fun x6 =>
      (if ((decide (s1 < ((t.length:Nat):Int))) && x6)=true then
      some (.inl (IntKind.i64.wrap (s1+1)))
      else
      some (.inr s1):Option (Int ⊕ Int)))) L (fun _=>true) (L:Int) (L:Int) (fun i hi _=>by
        have hd:decide ((i:Int) < ((t.length:Nat):Int))=true:=by simp; omega
        have hl:lessE (t.getD i default).Entry e=true:=w1 i hi;rw [Qn (fun _=>by omega),Int.toNat_natCast,Qio,Qdh hd,Qb,hl,hd,Bool.and_self,if_pos rfl,QE hi (by omega),if_pos rfl]) (fun _=>by
        rw [Qn (fun c=>by simp only [decide_eq_true_eq] at c; omega),Int.toNat_natCast,Qio,Qf0,Qb]
        by_cases c:L < t.length
        · rw [w2 c,if_neg (by simp)]
        · rw [if_neg (by simp; omega)])
    rw [this,if_pos (QcN fun _ _=>rfl)]
  rw [key,Qb]
theorem QhR {t:List Qv4} (h:t.length≤1048576):Q6 t=some t:=by
  unfold Q6;rw [Qn (by omega)]
theorem Qpf {t:List Qv4} (h:t.length≤1048576):ZV t=some (match Qak t with | some i=>(i:Int) | none=>-1):=by
  unfold ZV Qak;rw [Qbw t.length (fun i=>(t.getD i default).Stale) (fun i=>Sum.inl (i:Int)) (.inr ()) (fun i hi=>?_) (by rw [if_neg (by simp)]),Qb]
  · cases Z7 (fun i=>(t.getD i default).Stale) t.length <;> rfl
  · rw [if_pos (by simp; omega),Qn (by omega),Int.toNat_natCast,QE hi (by omega)];split <;> rfl
theorem Qlr {t:List Qv4} (h:t.length≤1048576) {k:Nat} (hk:k < t.length):QaW t (k:Int)=some (Qqf t k):=by
  unfold QaW Qqf;rw [Qn (by omega),Int.toNat_natCast,QhR (by simp; omega),Qb,wrap_i64 (n:=(k:Int)+1) (by omega) (by omega)];rw [Qn (by omega),Qn (by simp [QW]; omega),show ((k:Int)+1).toNat=k+1 by omega];have e1:t.take (k+1+Qc8 ((t.length:Nat):Int) ((k:Int)+1))=t:=List.take_of_length_le (by simp [QW]; omega);rw [e1]
theorem Qoc {t:List Qv4} (h:t.length≤1048576) {k:Nat} (hk:k < t.length):Qat t (k:Int)=some (Qqf t k):=Qlr h hk
theorem Qod {t:List Qv4} (e:Qv2):((decide ((posK rE t e:Int) < ((t.length:Nat):Int)) && (t.getD (posK rE t e) default).Entry.Addr == e.Addr) && (t.getD (posK rE t e) default).Entry.Len == e.Len)=Qdp rE t e:=by
  have hd:decide ((posK rE t e:Int) < ((t.length:Nat):Int))=decide (posK rE t e < t.length):=decide_eq_decide.2 (by omega);rw [hd,Bool.and_assoc]; rfl
theorem Qpg {t:List Qv4} (h:t.length≤1048576) (e:Qv2):(gd ((0:Int)≤(0:Int)∧(0:Int)≤(posK rE t e:Int)∧(posK rE t e:Int)≤((t.length:Nat):Int)) <|
    bd (Q6 (t.take (posK rE t e))) fun x8 =>
    gd (((x8.length)+(([(⟨e,false⟩:Qv4)]:List Qv4).length))*(40+1)≤70368744177664) <|
    gd ((0:Int)≤(posK rE t e:Int)∧(posK rE t e:Int)≤((t.length:Nat):Int)∧((t.length:Nat):Int)≤((t.length:Nat):Int)) <|
    gd ((((x8 ++ ([(⟨e,false⟩:Qv4)]:List Qv4)).length)+((Qc8 ((t.length:Nat):Int) (posK rE t e:Int))))*(40+1)≤70368744177664) <|
    some (((x8 ++ ([(⟨e,false⟩:Qv4)]:List Qv4)) ++ (((t).take (posK rE t e+(Qc8 ((t.length:Nat):Int) (posK rE t e:Int)))).drop (posK rE t e))),true))=some (QkD t e,true):=by
  have w3:=Qbr (f:=rE) t e;unfold QkD;generalize posK rE t e=L at *;rw [Qn (by omega),QhR (by simp; omega),Qb,Qn (by simp; omega),Qn (by omega),Qn (by simp [QW]; omega)];have e1:(t.take (L+Qc8 ((t.length:Nat):Int) (L:Int))).drop L=t.drop L:=by
    rw [List.take_of_length_le (by simp [QW]; omega)]
  rw [e1]
theorem Qul {t:List Qv4} (h:t.length≤1048576) (h1:t.length ≠ 16) (e:Qv2):Qbb t e=some (Qqw t e):=by
  have w3:=Qbr (f:=rE) t e;unfold Qbb Qqw;rw [Qmp h,Qb,Int.toNat_natCast,Qn (fun c=>by simp only [decide_eq_true_eq] at c; omega),Qn (fun c=>by simp only [Bool.and_eq_true,decide_eq_true_eq] at c; omega),Qod,Qpg h,QhR h,Qb]
  cases hh:Qdp rE t e
  · rw [if_neg (by decide),if_neg (by simp; omega),if_neg (by decide),if_neg h1]
  · have:=(QaR.1 hh).1;rw [if_pos rfl,if_pos rfl,Qn (by omega)]
theorem Qvb {t:List Qv4} (h:t.length≤1048576) (ho:Ord rE t) (e:Qv2):QcD t e=some (Qqw t e):=by
  have w3:=Qbr (f:=rE) t e;unfold QcD Qqw;rw [Qmp h,Qb,Int.toNat_natCast,Qn (fun c=>by simp only [decide_eq_true_eq] at c; omega),Qn (fun c=>by simp only [Bool.and_eq_true,decide_eq_true_eq] at c; omega),Qod,Qpg h,QhR h,Qb,Qpf h,Qb]
  cases hh:Qdp rE t e
  · simp only [Bool.false_eq_true,if_false]
    by_cases c:t.length=16
    · rw [if_pos (by simp; omega),if_pos c]
      cases hf:Qak t with
      | none=>rfl
      | some s =>
        have hs:=(Z9 hf).1;have hl:=Qmo hs;dsimp only;rw [if_neg (by simp <;> omega),Qoc h hs,Qb,Qul (by omega) (by omega),Qb];unfold Qqw;rw [Qpe ho s hh,if_neg (by decide),if_neg (by omega)]
    · rw [if_neg (by simp <;> omega),if_neg c]
  · have:=(QaR.1 hh).1;rw [if_pos rfl,if_pos rfl,Qn (by omega)]
theorem Qum {t:List Qv4} (h:t.length≤1048576) (ho:Ord rE t) (c:Qv3):QaH t c=some (Qft t c):=by
  have w3:=Qbr (f:=rE) t c.Entry;unfold QaH Qft;rw [Qvb h ho,Qb,Qmp h,Qb,Int.toNat_natCast,Qn (fun c=>by simp only [decide_eq_true_eq] at c; omega),Qn (fun c=>by simp only [Bool.and_eq_true,decide_eq_true_eq] at c; omega),Qod,Qo9 h,Qb]
  by_cases c1:c.Kind=1
  · rw [if_pos (by simpa using c1),if_pos c1]
  · rw [if_neg (by simpa using c1),if_neg c1]
    by_cases c2:c.Kind=2
    · rw [if_pos (by simpa using c2),if_pos c2]
      cases hh:Qdp rE t c.Entry
      · rfl
      · rw [if_pos rfl,if_pos rfl,Qlr h (QaR.1 hh).1,Qb]
    · rw [if_neg (by simpa using c2),if_neg c2]
theorem QkE (t:List Qv4):(Qak t).isSome=Qav t:=by
  unfold Qak Qav
  cases hf:Z7 (fun i=>(t.getD i default).Stale) t.length with
  | some i =>
    obtain ⟨q1,q2,_⟩:=Z9 hf;exact (List.any_eq_true.2 ⟨_,ZG q1,q2⟩).symm
  | none =>
    symm
    rw [Option.isSome,Bool.eq_false_iff];intro c;obtain ⟨r,hr,ht⟩:=List.any_eq_true.1 c;obtain ⟨i,hi,rfl⟩:=Qby hr;have:=QaN hf i hi;rw [ht] at this; cases this
def kept (e:Qv5):Qv5:=if Qav e.Heard=true then e else { e with Keep:=0 }
theorem Qoe {e:Qv5} (h:e.Heard.length≤1048576):Zx e=some (kept e):=by
  unfold Zx kept;rw [Qpf h,Qb,← QkE]
  cases hf:Qak e.Heard with
  | none=>rfl
  | some i =>
    dsimp only [Option.isSome];rw [if_neg (by simp <;> omega),if_pos rfl]
theorem QsY {t:List Qv4} (h:t.length≤1048576) (ho:Ord rE t) {e:Qv2} (he:0≤e.Len∧e.Len≤16∧0≤e.Addr∧e.Addr≤65535):Qh t ⟨e.Addr,e.Len⟩=some ((posK rE t e:Int),Qdp rE t e):=by
  have w3:=Qbr (f:=rE) t e;have w1:=fun k=>Qip (f:=rE) (t:=t) (e:=e) (k:=k);have w2:=fun k=>Qmk ho (e:=e) (k:=k);have hcmp:∀ k,k < t.length→Zm (⟨(t.getD k default).Entry,(t.getD k default).Stale⟩:Qv4) ⟨e.Addr,e.Len⟩=some (cmpV (t.getD k default).Entry.Addr (t.getD k default).Entry.Len e.Addr e.Len):=fun k hk=>by
    unfold Zm;have:=ho.rng _ (ZG hk);rw [Qbi,Qb,QsQ (by exact this) he,Qb]
  have hneg:∀ k,k < t.length→(cmpV (t.getD k default).Entry.Addr (t.getD k default).Entry.Len e.Addr e.Len < 0 ↔ lessE (t.getD k default).Entry e=true):=fun k hk=>by
    have:=ho.rng _ (ZG hk);rw [Qjc (a:=(t.getD k default).Entry) (b:=e) ⟨this.1,this.2.1⟩ ⟨he.1,he.2.1⟩,QhO ⟨this.1,this.2.1⟩ ⟨he.1,he.2.1⟩]
  have key:Post (Qh t ⟨e.Addr,e.Len⟩) fun x=>x=((posK rE t e:Int),Qdp rE t e):=by
    have hh:Qdp rE t e=(decide (posK rE t e < t.length) && ((t.getD (posK rE t e) default).Entry.Addr == e.Addr && (t.getD (posK rE t e) default).Entry.Len == e.Len)):=rfl;rw [hh];unfold Qh;generalize posK rE t e=L at *;refine .bd (Q:=fun x=>x=(L:Int)) (.lp (fun s=>0≤s.2∧s.2≤(L:Int)∧(L:Int)≤s.1∧s.1≤(t.length:Int)) (fun s=>(s.1 - s.2).toNat) ⟨Int.le_refl _,by dsimp only; omega,by dsimp only; omega,Int.le_refl _⟩ fun s ⟨i1,i2,i3,i4⟩=>?_) fun x hx=>?_
    · refine .ite (fun c=>?_) fun c=>.ret ?_
      · simp only [decide_eq_true_eq] at c;rw [Qtv (by omega) (by omega)];refine .gd (by decide) (.gd ⟨by omega,by omega⟩ ?_);have hm:((s.2+s.1) / 2).toNat < t.length:=by omega
        rw [hcmp _ hm,Qb,wrap_i64 (n:=(s.2+s.1) / 2+1) (by omega) (by omega)];refine .ite (fun c2=>?_) fun c2=>?_
        · simp only [decide_eq_true_eq] at c2;have c3:=(hneg _ hm).1 c2;refine .ret ⟨⟨by dsimp only; omega,?_,by dsimp only; omega,i4⟩,by dsimp only; omega⟩;dsimp only;refine Int.not_lt.1 fun hlt=>?_;have:lessE (t.getD ((s.2+s.1) / 2).toNat default).Entry e=false:=w2 ((s.2+s.1) / 2).toNat (by omega) (by omega);rw [this] at c3; cases c3
        · simp only [decide_eq_true_eq] at c2;refine .ret ⟨⟨i1,i2,?_,by dsimp only; omega⟩,by dsimp only; omega⟩;dsimp only;exact Int.not_lt.1 fun hlt=>c2 ((hneg _ hm).2 (w1 _ (by omega)))
      · simp only [decide_eq_true_eq] at c;show s.2=_;omega
    · subst hx;refine .gd (fun c=>?_) ?_
      · simp only [decide_eq_true_eq] at c; omega
      · rw [Int.toNat_natCast];have hd:decide ((L:Int) < ((t.length:Nat):Int))=decide (L < t.length):=decide_eq_decide.2 (by omega);rw [hd]
        by_cases c:L < t.length
        · rw [hcmp L c,decide_eq_true c,Qdh rfl,Qb];refine .ret ?_;have hr:=ho.rng _ (ZG c);have:=Qnf (a:=(t.getD L default).Entry) (b:=e) ⟨hr.1,hr.2.1⟩ ⟨he.1,he.2.1⟩;rw [Qu9 ⟨hr.1,hr.2.1⟩ ⟨he.1,he.2.1⟩] at this;rw [Prod.mk.injEq];refine ⟨rfl,?_⟩;rw [Bool.eq_iff_iff];simp only [Bool.true_and,Bool.and_eq_true,beq_iff_eq];exact this
        · rw [decide_eq_false c,Qdi (by decide),Qb];exact .ret rfl
  obtain ⟨x,ex,rfl⟩:=key;exact ex
theorem Qje {x:Qv5} (h:x.Heard.length≤1048576) (ho:Ord rE x.Heard) {e:Qv2} (he:0≤e.Len∧e.Len≤16∧0≤e.Addr∧e.Addr≤65535):Zi x ⟨e.Addr,e.Len⟩=some ((posK rE x.Heard e:Int),Qdp rE x.Heard e):=by
  unfold Zi;rw [QsY h ho he,Qb]
theorem Qrz {t:List Qv4} (h:t.length≤1048576) {k:Nat} (hk:k < t.length):QO t (k:Int) (IntKind.i64.wrap ((k:Int)+1))=some (Qqf t k):=by
  unfold QO;rw [wrap_i64 (by omega) (by omega),Qn (by omega),Int.toNat_natCast,show ((k:Int)+1).toNat=k+1 by omega]
  rfl
theorem QrA {t:List Qv4} (h:t.length≤1048576) (e:Qv2):QZ t (posK rE t e:Int) [⟨e,false⟩]=some (QkD t e):=by
  have w3:=Qbr (f:=rE) t e;unfold QZ;rw [Qn ⟨by omega,by simp,by simp; omega⟩,Int.toNat_natCast]
  rfl
theorem QrB {xs:List Qv4} (h:xs.length≤1048576):Qv xs=some (match Qak xs with | some i=>(i:Int) | none=>-1):=by
  unfold Qv Qak;rw [Qbw xs.length (fun i=>(xs.getD i default).Stale) (fun i=>Sum.inl (i:Int)) (.inr ()) (fun i hi=>?_) (by rw [if_neg (by simp)]),Qb]
  · cases Z7 (fun i=>(xs.getD i default).Stale) xs.length <;> rfl
  · rw [if_pos (by simp; omega),Qn (by omega),Int.toNat_natCast,QE hi (by omega)];unfold Qae;rw [Qb];split <;> simp_all
end Go.Proofs.YtjgjdobkahdgfaaGreat
