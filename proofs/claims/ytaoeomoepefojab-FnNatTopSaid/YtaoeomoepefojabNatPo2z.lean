/-
  Plain Lean: the draws of books and flows always give something; the plays.
-/
import Derived.Test.YtaoeomoepefojabKz3
import Derived.Test.YtaoeomoepefojabNatPoz
set_option linter.all false
namespace Go.Proofs.Ytaoeomoepefojab
open Go Go.Ab
set_option maxHeartbeats 400000

/-- A book's rows are so many at most. -/
structure Bk (b : NatBook) (d e : Int) : Prop where
  d : (b.Doors.length : Int) ≤ d
  e : (b.Entries.length : Int) ≤ e
theorem Bk.ok {b : NatBook} {d e : Int} (h : Bk b d e) (hd : d ≤ 1048576) (he : e ≤ 1048576) : BkOk b 1048576 := ⟨by have := h.d; omega, by have := h.e; omega⟩
theorem Bk.mono {b : NatBook} {d e d' e' : Int} (h : Bk b d e) (hd : d ≤ d') (he : e ≤ e') : Bk b d' e' := ⟨by have := h.d; omega, by have := h.e; omega⟩
theorem putDoor_post {xs : List NatDoor} (h : xs.length ≤ 1048576) (e : NatDoor) : Post (spec_l25PutDoor_m xs e) fun ys => ys.length ≤ xs.length + 1 := by
  unfold spec_l25PutDoor_m
  refine .bd (Q := fun x => 0 ≤ x ∧ x ≤ (xs.length : Int)) (.lp (fun s => 0 ≤ s ∧ s ≤ xs.length) (fun s => (xs.length - s).toNat) (by omega) fun s hs => ?_) fun x hx => ?_
  · refine .gd (fun c => by simp only [decide_eq_true_eq] at c; omega) (.gd (fun _ c => by simp only [decide_eq_true_eq] at c; omega) (.gd (fun _ _ c => by simp only [decide_eq_true_eq] at c; omega) (.ite (fun c => ?_) fun _ => .ret hs)))
    simp only [Bool.and_eq_true, decide_eq_true_eq] at c
    rw [w_succ hs.1 c.1 h]
    exact .ret ⟨by omega, by omega⟩
  · refine .gd ⟨Int.le_refl _, hx⟩ (.gd (by omega) (.gd (by simp; omega) (.gd ⟨hx.1, hx.2, Int.le_refl _⟩ (.gd (by simp [dsub_eq]; omega) (.ret (by simp [dsub_eq]; omega))))))
end Go.Proofs.Ytaoeomoepefojab
