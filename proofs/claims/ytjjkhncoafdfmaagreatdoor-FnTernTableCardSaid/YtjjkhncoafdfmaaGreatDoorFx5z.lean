/-
  What the form asks of the program for the row of FnTernTable, reckoned; no condition.
-/
import Derived.Test.YtjjkhncoafdfmaaGreatDoorRows
import Derived.JoinedOf
import Derived.SevenTiedAt
import Derived.KernelRfl
set_option linter.all false
namespace Go.Proofs.YtjjkhncoafdfmaaGreatDoor
open Go
set_option maxRecDepth 100000
theorem QmE:OpenClaim.wf (OpenSpec.ofChange Rows.fnTernTableSpec) Rows.fnTernTableRow=true:=by kernel_rfl
theorem Qke:mapsRowed Tryz.prog=true:=by kernel_rfl
theorem Qjs:(Tryz.prog.stops==[])=true:=by kernel_rfl
theorem Qjt:(Tryz.prog.stopKnobs==[])=true:=by kernel_rfl
theorem Qkf:(Rows.fnTernTableRow.plainKeys==Tryz.prog.plainKeys)=true:=by kernel_rfl
theorem Qju:Tryz.prog.stopsHeard=true:=by kernel_rfl
end Go.Proofs.YtjjkhncoafdfmaaGreatDoor
