/-
  Two facts about the whole program that every row's proof wants; no condition.
-/
import Derived.Test.YtoknnjiangjccaaGreatDoorTbz
import Derived.Test.YtoknnjiangjccaaGreatDoorRows
set_option linter.all false
namespace Go.Proofs.YtoknnjiangjccaaGreatDoor
open Go Go.Ab
theorem Tryz.own:ownKnob Tryz.prog.godebug=none:=by kernel_rfl
theorem Tryz.laidOut:laidOutB Tryz.prog=true:=by kernel_rfl
end Go.Proofs.YtoknnjiangjccaaGreatDoor
