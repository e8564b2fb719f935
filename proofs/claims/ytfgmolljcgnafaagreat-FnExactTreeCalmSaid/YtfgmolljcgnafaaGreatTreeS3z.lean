/-
  Plain Lean: links cut and mended, words said; a whole step, a calm round, calm: they leave a world ok.
-/
import Derived.Test.YtfgmolljcgnafaaGreatKz4
import Derived.Test.YtfgmolljcgnafaaGreatTreeS2z
import Derived.Test.YtfgmolljcgnafaaGreatPoBz
set_option linter.all false
namespace Go.Proofs.YtfgmolljcgnafaaGreat
open Go Go.Ab
set_option maxHeartbeats 400000
end Go.Proofs.YtfgmolljcgnafaaGreat
