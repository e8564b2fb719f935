/-
  Plain Lean: the laws' own helpers on worlds; the row FnExactTreeWorldOk in plain Lean.
-/
import Derived.Test.YtejhbiefhpgjeaaGreatKz5
import Derived.Test.YtejhbiefhpgjeaaGreatTreePz
set_option linter.all false
namespace Go.Proofs.YtejhbiefhpgjeaaGreat
open Go Go.Ab
set_option maxHeartbeats 400000
structure TreeWorld.Len (w:TreeWorld) (n:Nat):Prop where
  b:w.Bridges.length≤n
  l:w.Links.length≤n
  d:w.Down.length≤n
  a:w.AtA.length≤n
  z:w.AtB.length≤n
  r:w.Radio.length≤n
end Go.Proofs.YtejhbiefhpgjeaaGreat
