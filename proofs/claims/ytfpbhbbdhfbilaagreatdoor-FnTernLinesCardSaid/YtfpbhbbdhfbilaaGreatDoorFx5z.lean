/-
  What the form asks of the program for the row of FnTernLines, reckoned; no condition.
-/
import Derived.Test.YtfpbhbbdhfbilaaGreatDoorRows
import Derived.JoinedOf
import Derived.SevenTiedAt
import Derived.KernelRfl
set_option linter.all false
namespace Go.Proofs.YtfpbhbbdhfbilaaGreatDoor
open Go
set_option maxRecDepth 100000
theorem Qlu:OpenClaim.wf (OpenSpec.ofChange Rows.fnTernLinesSpec) Rows.fnTernLinesRow=true:=by kernel_rfl
theorem Qjd:mapsRowed Tryz.prog=true:=by kernel_rfl
theorem Qiv:(Tryz.prog.stops==[])=true:=by kernel_rfl
theorem Qiw:(Tryz.prog.stopKnobs==[])=true:=by kernel_rfl
theorem Qje:(Rows.fnTernLinesRow.plainKeys==Tryz.prog.plainKeys)=true:=by kernel_rfl
theorem Qix:Tryz.prog.stopsHeard=true:=by kernel_rfl
end Go.Proofs.YtfpbhbbdhfbilaaGreatDoor
