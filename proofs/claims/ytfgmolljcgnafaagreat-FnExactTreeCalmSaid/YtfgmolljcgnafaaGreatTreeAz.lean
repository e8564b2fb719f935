/-
  Plain Lean: which links let frames pass, impl's and the reference's alike; the row FnExactTreePasses.
-/
import Derived.Test.YtfgmolljcgnafaaGreatKz4
import Derived.Test.YtfgmolljcgnafaaGreatTreeP6z
import Derived.Test.YtfgmolljcgnafaaGreatTreeWz
import Derived.Test.YtfgmolljcgnafaaGreatTreeMz
import Derived.Test.YtfgmolljcgnafaaGreatMkz
set_option linter.all false
namespace Go.Proofs.YtfgmolljcgnafaaGreat
open Go Go.Ab
set_option maxHeartbeats 400000
def isOpen (w:TreeWorld) (i:Nat):Bool := (!hasI w.Down i && (w.Bridges.getD (w.Links.getD i default).A.toNat default).Up) && (w.Bridges.getD (w.Links.getD i default).B.toNat default).Up
theorem implOpenL_p {w:TreeWorld} (hw:WOk w) (hd:w.Down.length ≤ 9223372036854775807) {i:Nat} (hi:i < w.Links.length):impl_TreeWorld_open_m w (i:Int) = some (isOpen w i) := by
  unfold impl_TreeWorld_open_m isOpen;have hl := linkAt hw.link hi;rw [gd_pos (by omega),isDown_p hd,bd_val,Int.toNat_natCast,gd_pos (fun _ => by omega),gd_pos (fun _ => by omega)]
theorem specOpenL_p {w:TreeWorld} (hw:WOk w) (hd:w.Down.length ≤ 9223372036854775807) {i:Nat} (hi:i < w.Links.length):spec_l83Open_m w (i:Int) = some (isOpen w i) := by
  unfold spec_l83Open_m isOpen;have hl := linkAt hw.link hi;rw [l82Has_p hd,bd_val,Int.toNat_natCast,gd_pos (fun _ => by omega),gd_pos (fun _ => by omega),gd_pos (fun _ => by omega),gd_pos (fun _ => by omega)]
end Go.Proofs.YtfgmolljcgnafaaGreat
