/-
  What the form asks of the program for the row of FnTernLines, reckoned; no condition.
-/
import Derived.Test.YtfpbhbbdhfbilaaGreatDoorRows
import Derived.JoinedOf
import Derived.SevenTiedAt
import Derived.KernelRfl
set_option linter.all false
namespace Go.Proofs.YtfpbhbbdhfbilaaGreatDoor
open Go
set_option maxRecDepth 100000
theorem QjV:(Rows.fnTernLinesRow.unfollowed==Tryz.prog.unfollowed 4)=true:=by kernel_rfl
end Go.Proofs.YtfpbhbbdhfbilaaGreatDoor
