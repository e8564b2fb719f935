/-
  Plain Lean: what a model gives, said without computing it.
-/
import Derived.Test.YtfgmolljcgnafaaGreatKz4
set_option linter.all false
namespace Go.Proofs.YtfgmolljcgnafaaGreat
open Go Go.Ab
set_option maxHeartbeats 400000
end Go.Proofs.YtfgmolljcgnafaaGreat
