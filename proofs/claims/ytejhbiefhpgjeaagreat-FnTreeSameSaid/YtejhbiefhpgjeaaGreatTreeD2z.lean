/-
  Plain Lean: the draws of worlds, spoilt or not, and of bridges always give something.
-/
import Derived.Test.YtejhbiefhpgjeaaGreatKz5
import Derived.Test.YtejhbiefhpgjeaaGreatTreeDz
set_option linter.all false
namespace Go.Proofs.YtejhbiefhpgjeaaGreat
open Go Go.Ab
set_option maxHeartbeats 400000
end Go.Proofs.YtejhbiefhpgjeaaGreat
