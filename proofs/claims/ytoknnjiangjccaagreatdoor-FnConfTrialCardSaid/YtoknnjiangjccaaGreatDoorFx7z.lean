/-
  What the form asks of the program for the row of FnConfTrial, reckoned; no condition.
-/
import Derived.Test.YtoknnjiangjccaaGreatDoorRows
import Derived.JoinedOf
import Derived.SevenTiedAt
import Derived.KernelRfl
set_option linter.all false
namespace Go.Proofs.YtoknnjiangjccaaGreatDoor
open Go
set_option maxRecDepth 100000
theorem QlK:Tryz.pinned.checked.prog.funcNamed Rows.fnConfTrialRow.func=some 5:=by kernel_rfl
theorem Qj7:Tryz.prog.funcNamed Tryz.f5.name=some 5:=by kernel_rfl
theorem Qj8:OpenClaim.wfByText (OpenSpec.ofChange Rows.fnConfTrialSpec) Rows.fnConfTrialRow=true:=by kernel_rfl
end Go.Proofs.YtoknnjiangjccaaGreatDoor
