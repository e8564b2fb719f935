/-
  What the form asks of the program for the row of FnConfTrial, reckoned; no condition.
-/
import Derived.Test.YtoknnjiangjccaaGreatDoorRows
import Derived.JoinedOf
import Derived.SevenTiedAt
import Derived.KernelRfl
set_option linter.all false
namespace Go.Proofs.YtoknnjiangjccaaGreatDoor
open Go
set_option maxRecDepth 100000
theorem Qj6:Tryz.prog.mayEnter=true:=by kernel_rfl
theorem Qjt:(Rows.fnConfTrialRow.lifted==Tryz.prog.liftsFinal)=true:=by kernel_rfl
theorem Qju:(Tryz.prog.make==some Rows.fnConfTrialRow.make)=true:=by kernel_rfl
theorem Qjv:Rows.fnConfTrialRow.veiledFits Tryz.prog Tryz.f5.params.toList (Tryz.f5.params.toList++DataSpec.varTypes Tryz.prog Rows.fnConfTrialSpec.plain++Tryz.f5.resultTypes.toList)=true:=by kernel_rfl
end Go.Proofs.YtoknnjiangjccaaGreatDoor
