/-
  Plain Lean: loops that write numbers into rows, place after place, and loops that look whether they still stand there; no condition but those typed.
-/
import Derived.Test.YtbolhcpkpncmfaaKz5
import Derived.Test.YtbolhcpkpncmfaaTreeP4z
set_option linter.all false
namespace Go.Proofs.Ytbolhcpkpncmfaa
open Go Go.Ab
set_option maxHeartbeats 400000

/-- A loop through places, by what stands after so many of them. -/
theorem lp_at {β σ : Type} {step : σ → Option (σ ⊕ β)} (n : Nat) (st : Nat → σ) (d : β) (h1 : ∀ i : Nat, i < n → step (st i) = some (.inl (st (i + 1)))) (h2 : step (st n) = some (.inr d)) : lp step (st 0) = some d := by
  have key : ∀ k i : Nat, i + k = n → lp step (st i) = some d := by
    intro k
    induction k with
    | zero =>
      intro i hik
      have : i = n := by omega
      subst this
      exact lp_done h2
    | succ k ih =>
      intro i hik
      rw [lp_more (h1 i (by omega))]
      exact ih (i + 1) (by omega)
  exact key n 0 (by omega)

end Go.Proofs.Ytbolhcpkpncmfaa
