/-
  What the form asks of the program for the row of FnConfTrial, reckoned; no condition.
-/
import Derived.Test.YtoknnjiangjccaaGreatDoorRows
import Derived.JoinedOf
import Derived.SevenTiedAt
import Derived.KernelRfl
set_option linter.all false
namespace Go.Proofs.YtoknnjiangjccaaGreatDoor
open Go
set_option maxRecDepth 100000
theorem Qjx:false=Rows.fnConfTrialRow.goesBy Tryz.pinned.checked.prog:=by kernel_rfl
end Go.Proofs.YtoknnjiangjccaaGreatDoor
