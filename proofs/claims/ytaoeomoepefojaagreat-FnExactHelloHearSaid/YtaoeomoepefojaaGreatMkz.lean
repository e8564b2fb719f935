/-
  Plain Lean: loops that write numbers into rows, place after place, and loops that look whether they still stand there; no condition but those typed.
-/
import Derived.Test.YtaoeomoepefojaaGreatKz3
import Derived.Test.YtaoeomoepefojaaGreatHelSz
set_option linter.all false
namespace Go.Proofs.YtaoeomoepefojaaGreat
open Go Go.Ab
set_option maxHeartbeats 400000

/-- A loop through places, by what stands after so many of them. -/
theorem lp_at {β σ : Type} {step : σ → Option (σ ⊕ β)} (n : Nat) (st : Nat → σ) (d : β) (h1 : ∀ i : Nat, i < n → step (st i) = some (.inl (st (i + 1)))) (h2 : step (st n) = some (.inr d)) : lp step (st 0) = some d := by
  have key : ∀ k i : Nat, i + k = n → lp step (st i) = some d := by
    intro k
    induction k with
    | zero =>
      intro i hik
      have : i = n := by omega
      subst this
      exact lp_done h2
    | succ k ih =>
      intro i hik
      rw [lp_more (h1 i (by omega))]
      exact ih (i + 1) (by omega)
  exact key n 0 (by omega)

theorem getD_set {α : Type} [Inhabited α] {xs : List α} {i : Nat} {v : α} (h : i < xs.length) : (xs.set i v).getD i default = v := by
  simp [List.getD_eq_getElem?_getD, h]
def mkL {α : Type} (mk : Int → α) (k a : Int) (n : Nat) : List α := (List.range n).map fun i : Nat => mk (a + k * (i : Int))
theorem mkL_len {α : Type} {mk : Int → α} {k a : Int} {n : Nat} : (mkL mk k a n).length = n := by simp [mkL]
theorem mkL_get {α : Type} [Inhabited α] {mk : Int → α} {k a : Int} {n i : Nat} (h : i < n) : (mkL mk k a n).getD i default = mk (a + k * (i : Int)) := by
  simp [mkL, List.getD_eq_getElem?_getD, h]
theorem mkL_set {α : Type} {mk : Int → α} {k a : Int} {i : Nat} {xs : List α} (h : i < xs.length) : (mkL mk k a i ++ xs.drop i).set i (mk (a + k * (i : Int))) = mkL mk k a (i + 1) ++ xs.drop (i + 1) := by
  rw [List.set_append_right _ _ (by simp [mkL]), show i - (mkL mk k a i).length = 0 by simp [mkL], List.drop_eq_getElem_cons h, List.set_cons_zero]
  simp [mkL, List.range_succ]
theorem mark_p {α : Type} [Inhabited α] {xs : List α} {a : Int} {step : List α × Int × Int → Option ((List α × Int × Int) ⊕ (Int × List α × Nat))} (mk : Int → α) (k : Int)
    (h1 : ∀ (i : Nat) (ys : List α) (n : Int), i < xs.length → ys.length = xs.length → n = a + k * (i : Int) → step (ys, n, (i : Int)) = some (.inl (ys.set i (mk n), n + k, ((i + 1 : Nat) : Int))))
    (h2 : ∀ (ys : List α) (n : Int), ys.length = xs.length → step (ys, n, (xs.length : Int)) = some (.inr (n, ys, ys.length))) :
    lp step (xs, a, 0) = some (a + k * (xs.length : Int), mkL mk k a xs.length, xs.length) := by
  have hl : ∀ i, i ≤ xs.length → (mkL mk k a i ++ xs.drop i).length = xs.length := fun i hi => by simp [mkL_len]; omega
  have := lp_at (step := step) xs.length (fun i => (mkL mk k a i ++ xs.drop i, a + k * (i : Int), (i : Int))) (a + k * (xs.length : Int), mkL mk k a xs.length, xs.length)
    (fun i hi => by
      rw [h1 i _ _ hi (hl i (by omega)) rfl, mkL_set hi]
      have : a + k * (i : Int) + k = a + k * ((i + 1 : Nat) : Int) := by rw [Int.natCast_add, Int.mul_add]; omega
      rw [this])
    (by
      rw [h2 _ _ (hl _ (Nat.le_refl _)), hl _ (Nat.le_refl _)]
      simp)
  simpa [mkL] using this
theorem held_p {step : Int × Int → Option ((Int × Int) ⊕ (Unit ⊕ Int))} {a : Int} (k : Int) (m : Nat)
    (h1 : ∀ (i : Nat) (n : Int), i < m → n = a + k * (i : Int) → step (n, (i : Int)) = some (.inl (n + k, ((i + 1 : Nat) : Int)))) (h2 : ∀ n : Int, step (n, (m : Int)) = some (.inr (.inr n))) :
    lp step (a, 0) = some (.inr (a + k * (m : Int))) := by
  have := lp_at (step := step) m (fun i => (a + k * (i : Int), (i : Int))) (.inr (a + k * (m : Int)))
    (fun i hi => by
      rw [h1 i _ hi rfl]
      have : a + k * (i : Int) + k = a + k * ((i + 1 : Nat) : Int) := by rw [Int.natCast_add, Int.mul_add]; omega
      rw [this]) (h2 _)
  simpa using this

end Go.Proofs.YtaoeomoepefojaaGreat
