/-
  Plain Lean: a copy of a world is the world.
-/
import Derived.Test.YtejhbiefhpgjeaaGreatKz5
import Derived.Test.YtejhbiefhpgjeaaGreatTreeMz
import Derived.Test.YtejhbiefhpgjeaaGreatTreeWz
set_option linter.all false
namespace Go.Proofs.YtejhbiefhpgjeaaGreat
open Go Go.Ab
set_option maxHeartbeats 400000
theorem copy_p {w:TreeWorld} (h:w.Len 1048576):spec_l82Copy_m w=some w:=by
  obtain ⟨h1,h2,h3,h4,h5,h6⟩:=h;unfold spec_l82Copy_m;rw [gd_pos (by omega),gd_pos (by omega),gd_pos (by omega),gd_pos (by omega),gd_pos (by omega),gd_pos (by omega)]
end Go.Proofs.YtejhbiefhpgjeaaGreat
