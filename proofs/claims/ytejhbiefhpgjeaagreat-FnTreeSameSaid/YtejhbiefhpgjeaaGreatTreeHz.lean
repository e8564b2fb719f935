/-
  Plain Lean: the laws' classes of bridges that links join: who is of one class is joined.
-/
import Derived.Test.YtejhbiefhpgjeaaGreatKz5
import Derived.Test.YtejhbiefhpgjeaaGreatTreeCiz
import Derived.Test.YtejhbiefhpgjeaaGreatPoBz
set_option linter.all false
namespace Go.Proofs.YtejhbiefhpgjeaaGreat
open Go Go.Ab
set_option maxHeartbeats 400000
end Go.Proofs.YtejhbiefhpgjeaaGreat
