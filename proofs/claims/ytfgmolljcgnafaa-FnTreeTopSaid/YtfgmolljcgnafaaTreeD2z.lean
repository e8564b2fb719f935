/-
  Plain Lean: the draws of worlds, spoilt or not, and of bridges always give something.
-/
import Derived.Test.YtfgmolljcgnafaaKz5
import Derived.Test.YtfgmolljcgnafaaTreeDz
set_option linter.all false
namespace Go.Proofs.Ytfgmolljcgnafaa
open Go Go.Ab
set_option maxHeartbeats 400000
end Go.Proofs.Ytfgmolljcgnafaa
