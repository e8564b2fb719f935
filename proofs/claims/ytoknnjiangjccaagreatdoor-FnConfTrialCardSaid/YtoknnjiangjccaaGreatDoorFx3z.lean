/-
  What the form asks of the program for the row of FnConfTrial, reckoned; no condition.
-/
import Derived.Test.YtoknnjiangjccaaGreatDoorRows
import Derived.JoinedOf
import Derived.SevenTiedAt
import Derived.KernelRfl
set_option linter.all false
namespace Go.Proofs.YtoknnjiangjccaaGreatDoor
open Go
set_option maxRecDepth 100000
theorem Qj4:(Rows.fnConfTrialRow.recurses==Tryz.prog.recurses 5)=true:=by kernel_rfl
end Go.Proofs.YtoknnjiangjccaaGreatDoor
