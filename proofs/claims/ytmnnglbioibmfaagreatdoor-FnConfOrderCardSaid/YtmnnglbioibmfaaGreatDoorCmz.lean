/-
  Two facts about the whole program that every row's proof wants; no condition.
-/
import Derived.Test.YtmnnglbioibmfaaGreatDoorTbz
import Derived.Test.YtmnnglbioibmfaaGreatDoorRows
set_option linter.all false
namespace Go.Proofs.YtmnnglbioibmfaaGreatDoor
open Go Go.Ab
theorem Tryz.own:ownKnob Tryz.prog.godebug=none:=by kernel_rfl
theorem Tryz.laidOut:laidOutB Tryz.prog=true:=by kernel_rfl
end Go.Proofs.YtmnnglbioibmfaaGreatDoor
