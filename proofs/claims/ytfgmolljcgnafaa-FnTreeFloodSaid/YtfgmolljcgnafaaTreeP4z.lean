/-
  Plain Lean: the laws' own helpers on worlds; the row FnExactTreeWorldOk in plain Lean.
-/
import Derived.Test.YtfgmolljcgnafaaKz5
import Derived.Test.YtfgmolljcgnafaaTreePz
set_option linter.all false
namespace Go.Proofs.Ytfgmolljcgnafaa
open Go Go.Ab
set_option maxHeartbeats 400000
structure TreeWorld.Len (w:TreeWorld) (n:Nat):Prop where
  b:w.Bridges.length ≤ n
  l:w.Links.length ≤ n
  d:w.Down.length ≤ n
  a:w.AtA.length ≤ n
  z:w.AtB.length ≤ n
  r:w.Radio.length ≤ n
end Go.Proofs.Ytfgmolljcgnafaa
