/-
  Two facts about the whole program that every row's proof wants; no condition.
-/
import Derived.Test.YtaoeomoepefojabTbz
import Derived.Test.YtaoeomoepefojabRows
set_option linter.all false
namespace Go.Proofs.Ytaoeomoepefojab
open Go Go.Ab
theorem Try.own : ownKnob Try.prog.godebug = none := by kernel_rfl
theorem Try.laidOut : laidOutB Try.prog = true := by kernel_rfl

end Go.Proofs.Ytaoeomoepefojab
