/-
  What the form asks of the program for the row of FnTernTable, reckoned; no condition.
-/
import Derived.Test.YtjjkhncoafdfmaaGreatDoorRows
import Derived.JoinedOf
import Derived.SevenTiedAt
import Derived.KernelRfl
set_option linter.all false
namespace Go.Proofs.YtjjkhncoafdfmaaGreatDoor
open Go
set_option maxRecDepth 100000
theorem QmF:Tryz.pinned.checked.prog.funcNamed Rows.fnTernTableRow.func=some 3:=by kernel_rfl
theorem QkV:Tryz.prog.funcNamed Tryz.f3.name=some 3:=by kernel_rfl
theorem QkW:OpenClaim.wfByText (OpenSpec.ofChange Rows.fnTernTableSpec) Rows.fnTernTableRow=true:=by kernel_rfl
end Go.Proofs.YtjjkhncoafdfmaaGreatDoor
