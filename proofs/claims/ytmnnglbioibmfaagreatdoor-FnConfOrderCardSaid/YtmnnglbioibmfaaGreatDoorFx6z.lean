/-
  What the form asks of the program for the row of FnConfOrder, reckoned; no condition.
-/
import Derived.Test.YtmnnglbioibmfaaGreatDoorRows
import Derived.JoinedOf
import Derived.SevenTiedAt
import Derived.KernelRfl
set_option linter.all false
namespace Go.Proofs.YtmnnglbioibmfaaGreatDoor
open Go
set_option maxRecDepth 100000
theorem Qi0:Tryz.prog.mayEnter=true:=by kernel_rfl
theorem Qip:(Rows.fnConfOrderRow.lifted==Tryz.prog.liftsFinal)=true:=by kernel_rfl
theorem Qiq:(Tryz.prog.make==some Rows.fnConfOrderRow.make)=true:=by kernel_rfl
theorem Qir:Rows.fnConfOrderRow.veiledFits Tryz.prog Tryz.f3.params.toList (Tryz.f3.params.toList++DataSpec.varTypes Tryz.prog Rows.fnConfOrderSpec.plain++Tryz.f3.resultTypes.toList)=true:=by kernel_rfl
end Go.Proofs.YtmnnglbioibmfaaGreatDoor
