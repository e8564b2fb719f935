/-
  Plain Lean: loops that write numbers into rows, place after place, and loops that look whether they still stand there; no condition but those typed.
-/
import Derived.Test.YtejhbiefhpgjeaaGreatKz5
import Derived.Test.YtejhbiefhpgjeaaGreatPoL81z
set_option linter.all false
namespace Go.Proofs.YtejhbiefhpgjeaaGreat
open Go Go.Ab
set_option maxHeartbeats 400000
theorem lp_foldE {α β σ:Type} {step:σ→Option (σ ⊕ β)} (enc:α→Nat→σ) (n:Nat) (f:α→Nat→α) (d:α→β) (a0:α) (inv:Nat→α→Prop) (h0:inv 0 a0) (hi:∀ i a,i < n→inv i a→inv (i+1) (f a i))
    (h1:∀ (i:Nat) (a:α),i < n→inv i a→step (enc a i)=some (.inl (enc (f a i) (i+1)))) (h2:∀ a,inv n a→step (enc a n)=some (.inr (d a))) :
    lp step (enc a0 0)=some (d ((List.range n).foldl f a0))∧inv n ((List.range n).foldl f a0):=by
  have key:∀ k i:Nat,i+k=n→∀ a,inv i a→lp step (enc a i)=some (d ((List.range' i k).foldl f a))∧inv n ((List.range' i k).foldl f a):=by
    intro k
    induction k with
    | zero =>
      intro i hik a ha;have:i=n:=by omega
      subst this;exact ⟨lp_done (h2 a ha),ha⟩
    | succ k ih =>
      intro i hik a ha;rw [lp_more (h1 i a (by omega) ha),List.range'_succ,List.foldl_cons];exact ih (i+1) (by omega) _ (hi i a (by omega) ha)
  have:=key n 0 (by omega) a0 h0;rwa [← List.range_eq_range'] at this
theorem bd_fold {α β γ σ:Type} {step:σ→Option (σ ⊕ β)} {k:β→Option γ} {s0:σ} (enc:α→Nat→σ) (n:Nat) (f:α→Nat→α) (d:α→β) (a0:α) (inv:Nat→α→Prop) (hs:s0=enc a0 0) (h0:inv 0 a0) (hi:∀ i a,i < n→inv i a→inv (i+1) (f a i))
    (h1:∀ (i:Nat) (a:α),i < n→inv i a→step (enc a i)=some (.inl (enc (f a i) (i+1)))) (h2:∀ a,inv n a→step (enc a n)=some (.inr (d a))) :
    bd (lp step s0) k=k (d ((List.range n).foldl f a0)):=by
  rw [hs,(lp_foldE enc n f d a0 inv h0 hi h1 h2).1,bd_val]
theorem lp_at {β σ:Type} {step:σ→Option (σ ⊕ β)} (n:Nat) (st:Nat→σ) (d:β) (h1:∀ i:Nat,i < n→step (st i)=some (.inl (st (i+1)))) (h2:step (st n)=some (.inr d)):lp step (st 0)=some d:=by
  have key:∀ k i:Nat,i+k=n→lp step (st i)=some d:=by
    intro k
    induction k with
    | zero =>
      intro i hik;have:i=n:=by omega
      subst this;exact lp_done h2
    | succ k ih =>
      intro i hik;rw [lp_more (h1 i (by omega))];exact ih (i+1) (by omega)
  exact key n 0 (by omega)
theorem getD_set {α:Type} [Inhabited α] {xs:List α} {i:Nat} {v:α} (h:i < xs.length):(xs.set i v).getD i default=v:=by
  simp [List.getD_eq_getElem?_getD,h]
end Go.Proofs.YtejhbiefhpgjeaaGreat
