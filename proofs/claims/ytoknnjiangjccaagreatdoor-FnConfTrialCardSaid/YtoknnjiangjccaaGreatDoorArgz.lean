/-
  How a law reads its arguments; no condition.
-/
import Derived.Test.YtoknnjiangjccaaGreatDoorTyz
import Derived.Test.YtoknnjiangjccaaGreatDoorTbz
set_option linter.all false
namespace Go.Proofs.YtoknnjiangjccaaGreatDoor
open Go Go.Ab
set_option maxRecDepth 100000
end Go.Proofs.YtoknnjiangjccaaGreatDoor
