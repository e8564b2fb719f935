/-
  Plain Lean: marks on worlds, and looks at them.
-/
import Derived.Test.YthgcnnkjojemdaaKz4
import Derived.Test.YthgcnnkjojemdaaTreeWz
import Derived.Test.YthgcnnkjojemdaaTreeP4z
import Derived.Test.YthgcnnkjojemdaaMkz
set_option linter.all false
namespace Go.Proofs.Ythgcnnkjojemdaa
open Go Go.Ab
set_option maxHeartbeats 400000
end Go.Proofs.Ythgcnnkjojemdaa
