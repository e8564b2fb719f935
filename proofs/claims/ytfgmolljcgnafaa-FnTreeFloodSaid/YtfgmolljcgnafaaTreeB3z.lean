/-
  Plain Lean: the rows FnExactTreeBest and FnExactTreeRight.
-/
import Derived.Test.YtfgmolljcgnafaaKz5
import Derived.Test.YtfgmolljcgnafaaTreeB2z
import Derived.Test.YtfgmolljcgnafaaTreeMz
set_option linter.all false
namespace Go.Proofs.Ytfgmolljcgnafaa
open Go Go.Ab
set_option maxHeartbeats 400000
end Go.Proofs.Ytfgmolljcgnafaa
