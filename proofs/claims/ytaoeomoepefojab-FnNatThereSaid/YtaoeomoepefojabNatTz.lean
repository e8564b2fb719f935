/-
  Plain Lean: a tick: the program's and the reference's are the same function.
-/
import Derived.Test.YtaoeomoepefojabKz3
import Derived.Test.YtaoeomoepefojabPoz
import Derived.Test.YtaoeomoepefojabNatP5z
set_option linter.all false
namespace Go.Proofs.Ytaoeomoepefojab
open Go Go.Ab
set_option maxHeartbeats 400000

theorem ok_lens {b : NatBook} (h : b.ok = true) : b.Doors.length ≤ 6 ∧ b.Entries.length ≤ 16 := by
  simp only [NatBook.ok, NatBook.doorsOk, NatBook.entriesOk, Bool.and_eq_true, decide_eq_true_eq] at h
  exact ⟨h.1.2.1, h.2.1⟩
/-! The program's: what goes is taken out in place. -/
/-- On the way: what stays of the first `j` stands in the first `i` places; the others stand as they stood. -/
structure Dl (xs0 : List NatEntry) (k : NatEntry → Bool) (xs : List NatEntry) (i j : Nat) : Prop where
  lt : i < j
  le : j ≤ xs0.length
  len : xs.length = xs0.length
  take : xs.take i = (xs0.take j).filter k
  drop : ∀ q, j ≤ q → xs.getD q default = xs0.getD q default
end Go.Proofs.Ytaoeomoepefojab
