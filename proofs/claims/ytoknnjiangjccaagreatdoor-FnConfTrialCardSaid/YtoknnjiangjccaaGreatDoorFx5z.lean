/-
  What the form asks of the program for the row of FnConfTrial, reckoned; no condition.
-/
import Derived.Test.YtoknnjiangjccaaGreatDoorRows
import Derived.JoinedOf
import Derived.SevenTiedAt
import Derived.KernelRfl
set_option linter.all false
namespace Go.Proofs.YtoknnjiangjccaaGreatDoor
open Go
set_option maxRecDepth 100000
theorem QlJ:OpenClaim.wf (OpenSpec.ofChange Rows.fnConfTrialSpec) Rows.fnConfTrialRow=true:=by kernel_rfl
theorem Qjr:mapsRowed Tryz.prog=true:=by kernel_rfl
theorem QiI:(Tryz.prog.stops==[])=true:=by kernel_rfl
theorem QiJ:(Tryz.prog.stopKnobs==[])=true:=by kernel_rfl
theorem Qjs:(Rows.fnConfTrialRow.plainKeys==Tryz.prog.plainKeys)=true:=by kernel_rfl
theorem QiK:Tryz.prog.stopsHeard=true:=by kernel_rfl
end Go.Proofs.YtoknnjiangjccaaGreatDoor
