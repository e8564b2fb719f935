/-
  Two facts about the whole program that every row's proof wants; no condition.
-/
import Derived.Test.YtjgjdobkahdgfaaDoorTbz
import Derived.Test.YtjgjdobkahdgfaaDoorRows
set_option linter.all false
namespace Go.Proofs.YtjgjdobkahdgfaaDoor
open Go Go.Ab
theorem Tryd.own : ownKnob Tryd.prog.godebug = none := by kernel_rfl
theorem Tryd.laidOut : laidOutB Tryd.prog = true := by kernel_rfl

end Go.Proofs.YtjgjdobkahdgfaaDoor
