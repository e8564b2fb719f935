/-
  What the form asks of the program for the row of FnConfFall, reckoned; no condition.
-/
import Derived.Test.YtoknnjiangjccaaGreatDoorRows
import Derived.JoinedOf
import Derived.SevenTiedAt
import Derived.KernelRfl
set_option linter.all false
namespace Go.Proofs.YtoknnjiangjccaaGreatDoor
open Go
set_option maxRecDepth 100000
theorem Qmh:OpenClaim.wf (OpenSpec.ofChange Rows.fnConfFallSpec) Rows.fnConfFallRow=true:=by kernel_rfl
theorem Qj1:mapsRowed Tryz.prog=true:=by kernel_rfl
theorem Qjt:(Tryz.prog.stops==[])=true:=by kernel_rfl
theorem Qju:(Tryz.prog.stopKnobs==[])=true:=by kernel_rfl
theorem Qj2:(Rows.fnConfFallRow.plainKeys==Tryz.prog.plainKeys)=true:=by kernel_rfl
theorem Qjv:Tryz.prog.stopsHeard=true:=by kernel_rfl
end Go.Proofs.YtoknnjiangjccaaGreatDoor
