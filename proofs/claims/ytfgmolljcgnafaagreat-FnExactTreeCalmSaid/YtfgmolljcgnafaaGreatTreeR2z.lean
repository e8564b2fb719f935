/-
  Plain Lean: the row FnTreeRounds.
-/
import Derived.Test.YtfgmolljcgnafaaGreatKz4
import Derived.Test.YtfgmolljcgnafaaGreatTreeRz
set_option linter.all false
namespace Go.Proofs.YtfgmolljcgnafaaGreat
open Go Go.Ab
set_option maxHeartbeats 400000
theorem sCalm_no {w:TreeWorld} (hl:w.Len 9223372036854775807) (h:worldOk w = false) (r a:Int):spec_TreeCalm_m w r a = some ⟨[],[],[],[],[],[]⟩ := by
  unfold spec_TreeCalm_m;rw [specWorldOk_p hl.b hl.l hl.d hl.r,bd_val,h]; rfl
end Go.Proofs.YtfgmolljcgnafaaGreat
