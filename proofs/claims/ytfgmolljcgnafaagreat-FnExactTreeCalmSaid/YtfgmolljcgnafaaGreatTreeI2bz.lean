/-
  Plain Lean: what a link's end is told (for seats without steps).
-/
import Derived.Test.YtfgmolljcgnafaaGreatKz4
import Derived.Test.YtfgmolljcgnafaaGreatTreeIz
set_option linter.all false
namespace Go.Proofs.YtfgmolljcgnafaaGreat
open Go Go.Ab
set_option maxHeartbeats 400000
theorem told_p {w:TreeWorld} (h:Good w) {i:Nat} (hi:i < w.Links.length) {e:Int} (he:e = 0 ∨ e = 1):impl_TreeWorld_told_m w (i:Int) e = some (wordFor w i e).Vector := by
  have hb := brAt_in' h hi (1 - e);unfold impl_TreeWorld_told_m wordFor;rw [wrap_i64 (n := 1 - e) (by omega) (by omega),bridgeAt_p hi,bd_val,gd_pos hb]
end Go.Proofs.YtfgmolljcgnafaaGreat
