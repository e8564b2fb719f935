/-
  How a law reads its arguments; no condition.
-/
import Derived.Test.YtejhbiefhpgjeaaTyz
import Derived.Test.YtejhbiefhpgjeaaTbz
set_option linter.all false
namespace Go.Proofs.Ytejhbiefhpgjeaa
open Go Go.Ab
set_option maxRecDepth 100000
end Go.Proofs.Ytejhbiefhpgjeaa
