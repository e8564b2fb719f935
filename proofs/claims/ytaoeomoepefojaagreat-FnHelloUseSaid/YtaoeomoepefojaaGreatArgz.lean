/-
  How a law reads its arguments; no condition.
-/
import Derived.Test.YtaoeomoepefojaaGreatTyz
import Derived.Test.YtaoeomoepefojaaGreatTbz
set_option linter.all false
namespace Go.Proofs.YtaoeomoepefojaaGreat
open Go Go.Ab
set_option maxRecDepth 100000
end Go.Proofs.YtaoeomoepefojaaGreat
