/-
  Plain Lean: rounds of calm: the program's and the reference's are the same function; the row FnTreeRounds.
-/
import Derived.Test.YtfgmolljcgnafabGreatKz4
import Derived.Test.YtfgmolljcgnafabGreatTreeI3z
set_option linter.all false
namespace Go.Proofs.YtfgmolljcgnafabGreat
open Go Go.Ab
set_option maxHeartbeats 400000
structure Kp (w v:TreeWorld):Prop where
  g:Good v
  s:Same w v
  d:v.Down = w.Down
end Go.Proofs.YtfgmolljcgnafabGreat
