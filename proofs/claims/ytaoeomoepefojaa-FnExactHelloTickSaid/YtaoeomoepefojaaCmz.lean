/-
  Two facts about the whole program that every row's proof wants; no condition.
-/
import Derived.Test.YtaoeomoepefojaaTbz
import Derived.Test.YtaoeomoepefojaaRows
set_option linter.all false
namespace Go.Proofs.Ytaoeomoepefojaa
open Go Go.Ab
theorem Try.own : ownKnob Try.prog.godebug = none := by kernel_rfl
theorem Try.laidOut : laidOutB Try.prog = true := by kernel_rfl

end Go.Proofs.Ytaoeomoepefojaa
