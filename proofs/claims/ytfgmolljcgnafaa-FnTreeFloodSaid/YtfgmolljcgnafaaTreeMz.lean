/-
  Plain Lean: marks on worlds, and looks at them.
-/
import Derived.Test.YtfgmolljcgnafaaKz5
import Derived.Test.YtfgmolljcgnafaaTreeWz
import Derived.Test.YtfgmolljcgnafaaTreeP4z
import Derived.Test.YtfgmolljcgnafaaMkz
set_option linter.all false
namespace Go.Proofs.Ytfgmolljcgnafaa
open Go Go.Ab
set_option maxHeartbeats 400000
end Go.Proofs.Ytfgmolljcgnafaa
