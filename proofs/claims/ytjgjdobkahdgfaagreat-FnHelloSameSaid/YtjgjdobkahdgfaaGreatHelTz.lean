/-
  Plain Lean: a tick at an end, as the program has it; the row FnExactHelloTick.
-/
import Derived.Test.YtjgjdobkahdgfaaGreatKz5
import Derived.Test.YtjgjdobkahdgfaaGreatHelLz
import Derived.Test.YtjgjdobkahdgfaaGreatArgz
set_option linter.all false
namespace Go.Proofs.YtjgjdobkahdgfaaGreat
open Go Go.Ab
set_option maxHeartbeats 1000000
set_option maxRecDepth 100000
theorem QtL {xs:List Qxa} (h:xs.length≤1048576):Qr xs=some (match Z3 (fun i=>(xs.getD i default).Stale) xs.length with | some i=>(i:Int) | none=>-1):=by
  unfold Qr;rw [QbF xs.length (fun i=>(xs.getD i default).Stale) (fun i=>Sum.inl (i:Int)) (.inr ()) (fun i hi=>?_) (by rw [if_neg (by simp)]),Qb]
  · cases Z3 (fun i=>(xs.getD i default).Stale) xs.length <;> rfl
  · rw [if_pos (by simp; omega),Qp (by omega),Int.toNat_natCast,QK hi (by omega)];unfold Q6;rw [Qb];split <;> simp_all
structure Dl {α:Type} [Inhabited α] (xs0:List α) (k:α→Bool) (xs:List α) (i j:Nat):Prop where
  lt:i < j
  le:j≤xs0.length
  len:xs.length=xs0.length
  take:xs.take i=(xs0.take j).filter k
  drop:∀ q,j≤q→xs.getD q default=xs0.getD q default
theorem Dl.keep {α:Type} [Inhabited α] {xs0:List α} {k:α→Bool} {xs:List α} {i j:Nat} (h:Dl xs0 k xs i j) (hj:j < xs0.length) (hk:k (xs.getD j default)=true):Dl xs0 k (xs.set i (xs.getD j default)) (i+1) (j+1):=by
  have hd:=h.drop j (Nat.le_refl _);have hlt:=h.lt;have hl:=h.len;refine ⟨by omega,hj,by simp [h.len],?_,fun q hq=>?_⟩
  · rw [List.take_succ,List.take_set_of_le (Nat.le_refl _),h.take,List.take_succ (i:=j),List.filter_append,hd];rw [hd] at hk;have e1:(xs.set i (xs0.getD j default))[i]?=some (xs0.getD j default):=by rw [List.getElem?_set,if_pos rfl,if_pos (by omega)]
    have e2:xs0[j]?=some (xs0.getD j default):=by simp [List.getD_eq_getElem?_getD,hj]
    rw [e1,e2];show _ ++ [xs0.getD j default]=_ ++ ([xs0.getD j default]).filter k;rw [List.filter_cons,if_pos hk]
    rfl
  · have:(xs.set i (xs.getD j default)).getD q default=xs.getD q default:=by
      simp [List.getD_eq_getElem?_getD,List.getElem?_set,show i ≠ q by omega]
    rw [this];exact h.drop q (by omega)
theorem Dl.skip {α:Type} [Inhabited α] {xs0:List α} {k:α→Bool} {xs:List α} {i j:Nat} (h:Dl xs0 k xs i j) (hj:j < xs0.length) (hk:k (xs.getD j default)=false):Dl xs0 k xs i (j+1):=by
  have hd:=h.drop j (Nat.le_refl _);have hlt:=h.lt;rw [hd] at hk;refine ⟨by omega,hj,h.len,?_,fun q hq=>h.drop q (by omega)⟩;have e2:xs0[j]?=some (xs0.getD j default):=by simp [List.getD_eq_getElem?_getD,hj]
  rw [List.take_succ,List.filter_append,← h.take,e2];show _=_ ++ ([xs0.getD j default]).filter k;rw [List.filter_cons,if_neg (by rw [hk]; decide)];simp
theorem Qfo {α:Type} [Inhabited α] {k:α→Bool} {xs:List α} {n:Nat} (h:∀ q,q < n→q < xs.length→k (xs.getD q default)=true):(xs.take n).filter k=xs.take n:=by
  refine List.filter_eq_self.2 fun x hx=>?_;obtain ⟨q,hq,e⟩:=List.getElem_of_mem hx;rw [List.length_take] at hq;have:=h q (by omega) (by omega);rw [List.getD_eq_getElem?_getD,List.getElem?_eq_getElem (by omega)] at this;rw [← e,List.getElem_take];exact this
theorem Qpu {α:Type} [Inhabited α] {xs:List α} {i l:Nat}:(Qq8 xs i l).take i=xs.take i:=by
  apply List.ext_getElem?
  intro q
  by_cases hq:q < i
  · by_cases hx:q < xs.length
    · simp [Qq8,List.getElem?_take,hq,hx,show ¬ i≤q by omega,List.getD_eq_getElem?_getD]
    · rw [List.getElem?_eq_none (by simp; omega),List.getElem?_eq_none (by simp; omega)]
  · rw [List.getElem?_eq_none (by simp; omega),List.getElem?_eq_none (by simp; omega)]
theorem Qr3 {xs:List Qxa} (h:xs.length≤1048576):Qo xs=some (fresh xs):=by
  unfold Qo;rw [QtL h,Qb];unfold fresh
  cases hf:Z3 (fun i=>(xs.getD i default).Stale) xs.length with
  | none =>
    have:=JK hf;dsimp only;rw [if_pos (by decide)];have e:=Qfo (k:=fun r=>!r.Stale) (xs:=xs) (n:=xs.length) fun q hq _=>by simpa using this q hq
    rw [List.take_length] at e;rw [e]
  | some i =>
    obtain ⟨h1,h2,h3⟩:=ZF hf;dsimp only;rw [if_neg (by simp <;> omega)];have start:Dl xs (fun r=>!r.Stale) xs i (i+1):=by
      refine ⟨Nat.lt_succ_self _,h1,rfl,?_,fun _ _=>rfl⟩;have e2:xs[i]?=some (xs.getD i default):=by simp [List.getD_eq_getElem?_getD,h1]
      rw [List.take_succ,List.filter_append,e2,Qfo fun q hq _=>by simpa using h3 q hq];show _=_ ++ ([xs.getD i default]).filter (fun r=>!r.Stale);rw [List.filter_cons,if_neg (by rw [h2]; decide)];simp
    have key:Post (lp (σ:=List Qxa × Int × Int) (β:=(Nat × Int × (List Qxa))) (fun s2 =>
        (if (decide (s2.2.2 < ((s2.1.length:Nat):Int)))=true then
        gd ((0:Int)≤s2.2.2∧s2.2.2 < ((s2.1.length:Nat):Int)) <|
        bd (Q6 (⟨((s2.1.getD s2.2.2.toNat default).Entry),(s2.1.getD s2.2.2.toNat default).Stale⟩:Qxa)) fun x7 =>
        (if (!x7)=true then
        gd ((0:Int)≤s2.2.1∧s2.2.1 < ((s2.1.length:Nat):Int)) <|
        bd (some (s2.1.set s2.2.1.toNat (⟨((s2.1.getD s2.2.2.toNat default).Entry),(s2.1.getD s2.2.2.toNat default).Stale⟩:Qxa))) fun x9 =>
        some (.inl (x9,IntKind.i64.wrap (s2.2.1+1),IntKind.i64.wrap (s2.2.2+1)))
        else
        some (.inl (s2.1,s2.2.1,IntKind.i64.wrap (s2.2.2+1))))
        else
        some (.inr (s2.1.length,s2.2.1,s2.1)))) (xs,(i:Int),IntKind.i64.wrap ((i:Int)+1))) fun x=>∃ q:Nat,x.2.1=(q:Int)∧q≤x.1∧x.2.2.take q=xs.filter (fun r=>!r.Stale):=by
      rw [QK h1 (by omega)];refine .lp (fun s=>∃ p j:Nat,s.2.1=(p:Int)∧s.2.2=(j:Int)∧Dl xs (fun r=>!r.Stale) s.1 p j) (fun s=>xs.length - s.2.2.toNat) ⟨i,i+1,rfl,rfl,start⟩ fun s ⟨p,j,ep,ej,D⟩=>?_;obtain ⟨ys,sp,sj⟩:=s;dsimp only at ep ej D ⊢;subst ep ej;have hlt:=D.lt;have hle:=D.le;have hlen:=D.len;refine .ite (fun c=>?_) fun c=>.ret ?_
      · have c:=of_decide_eq_true c;have hj:j < xs.length:=by omega
        refine .gd (by omega) ?_;unfold Q6;rw [Int.toNat_natCast,Qb,QK (n:=xs.length) hj (by omega)];refine .ite (fun k=>.gd (by omega) ?_) fun k=>.ret ⟨⟨p,j+1,rfl,rfl,D.skip hj (by simpa using k)⟩,by dsimp only; omega⟩;rw [Int.toNat_natCast,Qb,QK (n:=xs.length) (by omega) (by omega)];exact .ret ⟨⟨p+1,j+1,rfl,rfl,D.keep hj k⟩,by dsimp only; omega⟩
      · have:j=xs.length:=by
          simp only [decide_eq_true_eq] at c;omega
        refine ⟨p,rfl,by dsimp only; omega,?_⟩;have t:=D.take;rw [this,List.take_length] at t;exact t
    obtain ⟨x,e,q,e1,e2,e3⟩:=key;refine (congrArg (fun m=>bd m _) e).trans ?_;rw [Qb,e1,Qp (by omega),Qp (by omega),Int.toNat_natCast,Qpu,e3]
end Go.Proofs.YtjgjdobkahdgfaaGreat
