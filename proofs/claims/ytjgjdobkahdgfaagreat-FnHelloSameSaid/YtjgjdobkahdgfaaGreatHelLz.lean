/-
  Plain Lean: the laws' own helpers on ends.
-/
import Derived.Test.YtjgjdobkahdgfaaGreatKz5
import Derived.Test.YtjgjdobkahdgfaaGreatMkz
import Derived.Test.YtjgjdobkahdgfaaGreatHelSz
set_option linter.all false
namespace Go.Proofs.YtjgjdobkahdgfaaGreat
open Go Go.Ab
set_option maxHeartbeats 1000000
set_option maxRecDepth 100000
structure Lens (e:Qxb) (n:Nat):Prop where
  k:e.Keys.length≤n
  w:e.Want.length≤n
  t:e.Told.length≤n
  h:e.Heard.length≤n
end Go.Proofs.YtjgjdobkahdgfaaGreat
