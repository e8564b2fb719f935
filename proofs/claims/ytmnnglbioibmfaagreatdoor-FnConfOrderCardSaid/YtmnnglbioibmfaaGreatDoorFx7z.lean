/-
  What the form asks of the program for the row of FnConfOrder, reckoned; no condition.
-/
import Derived.Test.YtmnnglbioibmfaaGreatDoorRows
import Derived.JoinedOf
import Derived.SevenTiedAt
import Derived.KernelRfl
set_option linter.all false
namespace Go.Proofs.YtmnnglbioibmfaaGreatDoor
open Go
set_option maxRecDepth 100000
theorem QkD:Tryz.pinned.checked.prog.funcNamed Rows.fnConfOrderRow.func=some 3:=by kernel_rfl
theorem Qi1:Tryz.prog.funcNamed Tryz.f3.name=some 3:=by kernel_rfl
theorem Qi2:OpenClaim.wfByText (OpenSpec.ofChange Rows.fnConfOrderSpec) Rows.fnConfOrderRow=true:=by kernel_rfl
end Go.Proofs.YtmnnglbioibmfaaGreatDoor
