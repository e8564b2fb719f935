/-
  Plain Lean: marks on worlds, and looks at them.
-/
import Derived.Test.YtejhbiefhpgjeaaGreatKz5
import Derived.Test.YtejhbiefhpgjeaaGreatTreeWz
import Derived.Test.YtejhbiefhpgjeaaGreatTreeP4z
import Derived.Test.YtejhbiefhpgjeaaGreatMkz
set_option linter.all false
namespace Go.Proofs.YtejhbiefhpgjeaaGreat
open Go Go.Ab
set_option maxHeartbeats 400000
end Go.Proofs.YtejhbiefhpgjeaaGreat
