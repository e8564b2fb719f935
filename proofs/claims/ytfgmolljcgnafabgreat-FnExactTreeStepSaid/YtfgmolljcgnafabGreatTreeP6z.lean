/-
  Plain Lean: TreeOpenWorld says what the reference says, and hands out rows of its own; the row FnExactTreeOpenWorld.
-/
import Derived.Test.YtfgmolljcgnafabGreatKz4
import Derived.Test.YtfgmolljcgnafabGreatTreeP5z
import Derived.Test.YtfgmolljcgnafabGreatTreeMz
import Derived.Test.YtfgmolljcgnafabGreatTreeCpz
import Derived.Test.YtfgmolljcgnafabGreatMkz
set_option linter.all false
namespace Go.Proofs.YtfgmolljcgnafabGreat
open Go Go.Ab
set_option maxHeartbeats 400000
end Go.Proofs.YtfgmolljcgnafabGreat
