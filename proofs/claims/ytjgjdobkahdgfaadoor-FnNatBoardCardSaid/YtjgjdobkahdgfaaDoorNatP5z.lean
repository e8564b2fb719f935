/-
  Plain Lean: NatIn says what the reference says; the three rows by the arguments' facts.
-/
import Derived.Test.YtjgjdobkahdgfaaDoorKz3
import Derived.Test.YtjgjdobkahdgfaaDoorNatP4z
import Derived.Test.YtjgjdobkahdgfaaDoorArgz
set_option linter.all false
namespace Go.Proofs.YtjgjdobkahdgfaaDoor
open Go Go.Ab
set_option maxHeartbeats 400000

theorem specFlowOk_p (f : NatFlow) : spec_NatFlowOk_m f = some (flowOk f) := by
  unfold spec_NatFlowOk_m flowOk
  simp only [l21In_p, bd_val, gcall_b]
  congr 1; grind

end Go.Proofs.YtjgjdobkahdgfaaDoor
