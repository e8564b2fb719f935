/-
  Plain Lean: marks on books, and looks at them.
-/
import Derived.Test.YtejhbiefhpgjeaaKz3
import Derived.Test.YtejhbiefhpgjeaaMkz
import Derived.Test.YtejhbiefhpgjeaaNatP4z
set_option linter.all false
namespace Go.Proofs.Ytejhbiefhpgjeaa
open Go Go.Ab
set_option maxHeartbeats 400000
end Go.Proofs.Ytejhbiefhpgjeaa
