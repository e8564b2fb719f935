/-
  What the form asks of the program for the row of FnTernLines, reckoned; no condition.
-/
import Derived.Test.YtfpbhbbdhfbilaaGreatDoorRows
import Derived.JoinedOf
import Derived.SevenTiedAt
import Derived.KernelRfl
set_option linter.all false
namespace Go.Proofs.YtfpbhbbdhfbilaaGreatDoor
open Go
set_option maxRecDepth 100000
theorem QjY:Tryz.prog.mayEnter=true:=by kernel_rfl
theorem Qjf:(Rows.fnTernLinesRow.lifted==Tryz.prog.liftsFinal)=true:=by kernel_rfl
theorem Qjg:(Tryz.prog.make==some Rows.fnTernLinesRow.make)=true:=by kernel_rfl
theorem Qjh:Rows.fnTernLinesRow.veiledFits Tryz.prog Tryz.f4.params.toList (Tryz.f4.params.toList++DataSpec.varTypes Tryz.prog Rows.fnTernLinesSpec.plain++Tryz.f4.resultTypes.toList)=true:=by kernel_rfl
end Go.Proofs.YtfpbhbbdhfbilaaGreatDoor
