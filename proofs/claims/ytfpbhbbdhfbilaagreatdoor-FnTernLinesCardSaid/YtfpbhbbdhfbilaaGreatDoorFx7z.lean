/-
  What the form asks of the program for the row of FnTernLines, reckoned; no condition.
-/
import Derived.Test.YtfpbhbbdhfbilaaGreatDoorRows
import Derived.JoinedOf
import Derived.SevenTiedAt
import Derived.KernelRfl
set_option linter.all false
namespace Go.Proofs.YtfpbhbbdhfbilaaGreatDoor
open Go
set_option maxRecDepth 100000
theorem Qlv:Tryz.pinned.checked.prog.funcNamed Rows.fnTernLinesRow.func=some 4:=by kernel_rfl
theorem QjZ:Tryz.prog.funcNamed Tryz.f4.name=some 4:=by kernel_rfl
theorem Qj0:OpenClaim.wfByText (OpenSpec.ofChange Rows.fnTernLinesSpec) Rows.fnTernLinesRow=true:=by kernel_rfl
end Go.Proofs.YtfpbhbbdhfbilaaGreatDoor
