/-
  How a law reads its arguments; no condition.
-/
import Derived.Test.YtmnnglbioibmfaaGreatDoorTyz
import Derived.Test.YtmnnglbioibmfaaGreatDoorTbz
set_option linter.all false
namespace Go.Proofs.YtmnnglbioibmfaaGreatDoor
open Go Go.Ab
set_option maxRecDepth 100000
end Go.Proofs.YtmnnglbioibmfaaGreatDoor
