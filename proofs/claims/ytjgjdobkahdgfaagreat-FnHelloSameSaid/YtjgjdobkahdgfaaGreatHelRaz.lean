/-
  Plain Lean: worlds that are ok, as both say it.
-/
import Derived.Test.YtjgjdobkahdgfaaGreatKz5
import Derived.Test.YtjgjdobkahdgfaaGreatHelZz
import Derived.Test.YtjgjdobkahdgfaaGreatHelNz
set_option linter.all false
namespace Go.Proofs.YtjgjdobkahdgfaaGreat
open Go Go.Ab
set_option maxHeartbeats 400000
set_option maxRecDepth 100000
structure Wz (w:Qxe):Prop where
  sides:w.Sides.length≤3
  ends:∀ s ∈ w.Sides,Lens s.End 40
  len:w.Radio.length≤100
end Go.Proofs.YtjgjdobkahdgfaaGreat
