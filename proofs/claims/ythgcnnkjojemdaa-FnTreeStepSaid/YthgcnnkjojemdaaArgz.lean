/-
  How a law reads its arguments; no condition.
-/
import Derived.Test.YthgcnnkjojemdaaTyz
import Derived.Test.YthgcnnkjojemdaaTbz
set_option linter.all false
namespace Go.Proofs.Ythgcnnkjojemdaa
open Go Go.Ab
set_option maxRecDepth 100000
end Go.Proofs.Ythgcnnkjojemdaa
