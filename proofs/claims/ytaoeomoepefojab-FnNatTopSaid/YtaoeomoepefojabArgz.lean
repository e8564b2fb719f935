/-
  How a law reads its arguments; no condition.
-/
import Derived.Test.YtaoeomoepefojabTyz
import Derived.Test.YtaoeomoepefojabTbz
set_option linter.all false
namespace Go.Proofs.Ytaoeomoepefojab
open Go Go.Ab
set_option maxRecDepth 100000
end Go.Proofs.Ytaoeomoepefojab
