/-
  What the form asks of the program for the row of FnConfOrder, reckoned; no condition.
-/
import Derived.Test.YtmnnglbioibmfaaGreatDoorRows
import Derived.JoinedOf
import Derived.SevenTiedAt
import Derived.KernelRfl
set_option linter.all false
namespace Go.Proofs.YtmnnglbioibmfaaGreatDoor
open Go
set_option maxRecDepth 100000
theorem Qkx:OpenClaim.wf (OpenSpec.ofChange Rows.fnConfOrderSpec) Rows.fnConfOrderRow=true:=by kernel_rfl
theorem Qij:mapsRowed Tryz.prog=true:=by kernel_rfl
theorem QhA:(Tryz.prog.stops==[])=true:=by kernel_rfl
theorem QhB:(Tryz.prog.stopKnobs==[])=true:=by kernel_rfl
theorem Qik:(Rows.fnConfOrderRow.plainKeys==Tryz.prog.plainKeys)=true:=by kernel_rfl
theorem QhC:Tryz.prog.stopsHeard=true:=by kernel_rfl
end Go.Proofs.YtmnnglbioibmfaaGreatDoor
