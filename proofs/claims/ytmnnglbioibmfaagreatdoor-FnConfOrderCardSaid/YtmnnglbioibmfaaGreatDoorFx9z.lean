/-
  What the form asks of the program for the row of FnConfOrder, reckoned; no condition.
-/
import Derived.Test.YtmnnglbioibmfaaGreatDoorRows
import Derived.JoinedOf
import Derived.SevenTiedAt
import Derived.KernelRfl
set_option linter.all false
namespace Go.Proofs.YtmnnglbioibmfaaGreatDoor
open Go
set_option maxRecDepth 100000
theorem Qit:false=Rows.fnConfOrderRow.goesBy Tryz.pinned.checked.prog:=by kernel_rfl
end Go.Proofs.YtmnnglbioibmfaaGreatDoor
