/-
  What the form asks of the program for the row of FnConfFall, reckoned; no condition.
-/
import Derived.Test.YtoknnjiangjccaaGreatDoorRows
import Derived.JoinedOf
import Derived.SevenTiedAt
import Derived.KernelRfl
set_option linter.all false
namespace Go.Proofs.YtoknnjiangjccaaGreatDoor
open Go
set_option maxRecDepth 100000
theorem QlH:Tryz.prog.mayEnter=true:=by kernel_rfl
theorem Qj3:(Rows.fnConfFallRow.lifted==Tryz.prog.liftsFinal)=true:=by kernel_rfl
theorem Qj4:(Tryz.prog.make==some Rows.fnConfFallRow.make)=true:=by kernel_rfl
theorem Qj5:Rows.fnConfFallRow.veiledFits Tryz.prog Tryz.f4.params.toList (Tryz.f4.params.toList++DataSpec.varTypes Tryz.prog Rows.fnConfFallSpec.plain++Tryz.f4.resultTypes.toList)=true:=by kernel_rfl
end Go.Proofs.YtoknnjiangjccaaGreatDoor
