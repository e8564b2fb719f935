/-
  How a law reads its arguments; no condition.
-/
import Derived.Test.YtejhbiefhpgjeaaGreatTyz
import Derived.Test.YtejhbiefhpgjeaaGreatTbz
set_option linter.all false
namespace Go.Proofs.YtejhbiefhpgjeaaGreat
open Go Go.Ab
set_option maxRecDepth 100000
end Go.Proofs.YtejhbiefhpgjeaaGreat
