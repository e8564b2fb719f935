/-
  What the form asks of the program for the row of FnTernTable, reckoned; no condition.
-/
import Derived.Test.YtjjkhncoafdfmaaGreatDoorRows
import Derived.JoinedOf
import Derived.SevenTiedAt
import Derived.KernelRfl
set_option linter.all false
namespace Go.Proofs.YtjjkhncoafdfmaaGreatDoor
open Go
set_option maxRecDepth 100000
theorem QkR:(Rows.fnTernTableRow.unfollowed==Tryz.prog.unfollowed 3)=true:=by kernel_rfl
end Go.Proofs.YtjjkhncoafdfmaaGreatDoor
