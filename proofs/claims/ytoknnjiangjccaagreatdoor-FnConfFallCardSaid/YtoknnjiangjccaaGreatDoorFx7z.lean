/-
  What the form asks of the program for the row of FnConfFall, reckoned; no condition.
-/
import Derived.Test.YtoknnjiangjccaaGreatDoorRows
import Derived.JoinedOf
import Derived.SevenTiedAt
import Derived.KernelRfl
set_option linter.all false
namespace Go.Proofs.YtoknnjiangjccaaGreatDoor
open Go
set_option maxRecDepth 100000
theorem Qmi:Tryz.pinned.checked.prog.funcNamed Rows.fnConfFallRow.func=some 4:=by kernel_rfl
theorem QlI:Tryz.prog.funcNamed Tryz.f4.name=some 4:=by kernel_rfl
theorem QlJ:OpenClaim.wfByText (OpenSpec.ofChange Rows.fnConfFallSpec) Rows.fnConfFallRow=true:=by kernel_rfl
end Go.Proofs.YtoknnjiangjccaaGreatDoor
