/-
  Plain Lean: a copy of a world is the world.
-/
import Derived.Test.YtfgmolljcgnafabGreatKz4
import Derived.Test.YtfgmolljcgnafabGreatTreeMz
import Derived.Test.YtfgmolljcgnafabGreatTreeWz
set_option linter.all false
namespace Go.Proofs.YtfgmolljcgnafabGreat
open Go Go.Ab
set_option maxHeartbeats 400000
theorem copy_p {w:TreeWorld} (h:w.Len 1048576):spec_l82Copy_m w = some w := by
  obtain ⟨h1,h2,h3,h4,h5,h6⟩ := h;unfold spec_l82Copy_m;rw [gd_pos (by omega),gd_pos (by omega),gd_pos (by omega),gd_pos (by omega),gd_pos (by omega),gd_pos (by omega)]
end Go.Proofs.YtfgmolljcgnafabGreat
