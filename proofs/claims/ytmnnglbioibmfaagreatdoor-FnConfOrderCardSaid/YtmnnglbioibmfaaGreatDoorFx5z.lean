/-
  What the form asks of the program for the row of FnConfOrder, reckoned; no condition.
-/
import Derived.Test.YtmnnglbioibmfaaGreatDoorRows
import Derived.JoinedOf
import Derived.SevenTiedAt
import Derived.KernelRfl
set_option linter.all false
namespace Go.Proofs.YtmnnglbioibmfaaGreatDoor
open Go
set_option maxRecDepth 100000
theorem QkC:OpenClaim.wf (OpenSpec.ofChange Rows.fnConfOrderSpec) Rows.fnConfOrderRow=true:=by kernel_rfl
theorem Qin:mapsRowed Tryz.prog=true:=by kernel_rfl
theorem QhE:(Tryz.prog.stops==[])=true:=by kernel_rfl
theorem QhF:(Tryz.prog.stopKnobs==[])=true:=by kernel_rfl
theorem Qio:(Rows.fnConfOrderRow.plainKeys==Tryz.prog.plainKeys)=true:=by kernel_rfl
theorem QhG:Tryz.prog.stopsHeard=true:=by kernel_rfl
end Go.Proofs.YtmnnglbioibmfaaGreatDoor
