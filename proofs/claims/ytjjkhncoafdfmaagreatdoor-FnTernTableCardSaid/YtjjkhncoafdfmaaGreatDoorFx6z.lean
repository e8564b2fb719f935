/-
  What the form asks of the program for the row of FnTernTable, reckoned; no condition.
-/
import Derived.Test.YtjjkhncoafdfmaaGreatDoorRows
import Derived.JoinedOf
import Derived.SevenTiedAt
import Derived.KernelRfl
set_option linter.all false
namespace Go.Proofs.YtjjkhncoafdfmaaGreatDoor
open Go
set_option maxRecDepth 100000
theorem QkU:Tryz.prog.mayEnter=true:=by kernel_rfl
theorem Qkg:(Rows.fnTernTableRow.lifted==Tryz.prog.liftsFinal)=true:=by kernel_rfl
theorem Qkh:(Tryz.prog.make==some Rows.fnTernTableRow.make)=true:=by kernel_rfl
theorem Qki:Rows.fnTernTableRow.veiledFits Tryz.prog Tryz.f3.params.toList (Tryz.f3.params.toList++DataSpec.varTypes Tryz.prog Rows.fnTernTableSpec.plain++Tryz.f3.resultTypes.toList)=true:=by kernel_rfl
end Go.Proofs.YtjjkhncoafdfmaaGreatDoor
