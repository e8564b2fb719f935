/-
  Plain Lean: NatIn says what the reference says; the three rows by the arguments' facts.
-/
import Derived.Test.YtaoeomoepefojaaKz2
import Derived.Test.YtaoeomoepefojaaNatP4z
import Derived.Test.YtaoeomoepefojaaArgz
set_option linter.all false
namespace Go.Proofs.Ytaoeomoepefojaa
open Go Go.Ab
set_option maxHeartbeats 400000

theorem specFlowOk_p (f : NatFlow) : spec_NatFlowOk_m f = some (flowOk f) := by
  unfold spec_NatFlowOk_m flowOk
  simp only [l21In_p, bd_val, gcall_b]
  congr 1; grind

theorem fit_len {b : NatBook} (h : b.Fit) : b.Doors.length ≤ 9223372036854775807 ∧ b.Entries.length ≤ 9223372036854775807 := ⟨h.2.2.2.2.2.1.1, h.2.2.2.2.2.2.2.1.1⟩


end Go.Proofs.Ytaoeomoepefojaa
