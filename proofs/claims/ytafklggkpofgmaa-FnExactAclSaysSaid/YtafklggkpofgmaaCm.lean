/-
  Two facts about the whole program that every row's proof wants; no condition.
-/
import Derived.Test.YtafklggkpofgmaaTb
import Derived.Test.YtafklggkpofgmaaRows
import Derived.Test.YtafklggkpofgmaaAb5
namespace Go.Proofs.Ytafklggkpofgmaa
open Go Go.Ab
theorem Try.own : ownKnob Try.prog.godebug = none := by kernel_rfl
theorem Try.laidOut : laidOutB Try.prog = true := by kernel_rfl

end Go.Proofs.Ytafklggkpofgmaa
