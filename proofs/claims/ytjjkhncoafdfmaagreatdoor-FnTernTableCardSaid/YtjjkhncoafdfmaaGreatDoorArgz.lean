/-
  How a law reads its arguments; no condition.
-/
import Derived.Test.YtjjkhncoafdfmaaGreatDoorTyz
import Derived.Test.YtjjkhncoafdfmaaGreatDoorTbz
set_option linter.all false
namespace Go.Proofs.YtjjkhncoafdfmaaGreatDoor
open Go Go.Ab
set_option maxRecDepth 100000
end Go.Proofs.YtjjkhncoafdfmaaGreatDoor
