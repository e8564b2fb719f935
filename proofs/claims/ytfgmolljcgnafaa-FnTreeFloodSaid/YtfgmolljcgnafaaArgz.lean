/-
  How a law reads its arguments; no condition.
-/
import Derived.Test.YtfgmolljcgnafaaTyz
import Derived.Test.YtfgmolljcgnafaaTbz
set_option linter.all false
namespace Go.Proofs.Ytfgmolljcgnafaa
open Go Go.Ab
set_option maxRecDepth 100000
end Go.Proofs.Ytfgmolljcgnafaa
