/-
  What the form asks of the program for the row of FnConfFall, reckoned; no condition.
-/
import Derived.Test.YtoknnjiangjccaaGreatDoorRows
import Derived.JoinedOf
import Derived.SevenTiedAt
import Derived.KernelRfl
set_option linter.all false
namespace Go.Proofs.YtoknnjiangjccaaGreatDoor
open Go
set_option maxRecDepth 100000
theorem Qh1:(Rows.fnConfFallRow.inPlace==Tryz.prog.inPlace 4)=true:=by kernel_rfl
end Go.Proofs.YtoknnjiangjccaaGreatDoor
