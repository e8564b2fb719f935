/-
  Plain Lean: what each bridge should take to be so, impl's and the reference's alike.
-/
import Derived.Test.YtfgmolljcgnafaaKz5
import Derived.Test.YtfgmolljcgnafaaBfz
import Derived.Test.YtfgmolljcgnafaaTreeAz
set_option linter.all false
namespace Go.Proofs.Ytfgmolljcgnafaa
open Go Go.Ab
set_option maxHeartbeats 400000
def netOf (w:TreeWorld):Net := ⟨w.Bridges.length,w.Links.length,isOpen w,fun i => (w.Links.getD i default).A.toNat,fun i => (w.Links.getD i default).B.toNat,fun i => (w.Links.getD i default).Cost⟩
theorem netOk {w:TreeWorld} (hw:WOk w):(netOf w).Ok := by
  refine ⟨fun i hi => ?_,fun i hi => ?_,fun i hi => ?_,fun i hi => ?_,fun i hi => ?_⟩ <;> have := linkAt hw.link hi <;> dsimp only [netOf] <;> omega
theorem bridgesLen {w:TreeWorld} (hw:WOk w):w.Bridges.length ≤ 8 := by have := linksOk_len hw.link; omega
theorem netSize {w:TreeWorld} (hw:WOk w):(netOf w).n * (netOf w).m ≤ 96 := by
  have h1:(netOf w).n ≤ 8 := bridgesLen hw;have h2:(netOf w).m ≤ 12 := linksLen hw;exact Nat.mul_le_mul h1 h2
def unfar (x:Int):Int := if x = far then -1 else x
theorem bd_get {D:List Int} {k:Nat} (h:Bd k D) {v:Nat} (hv:v < D.length):0 ≤ D.getD v default ∧ (D.getD v default = far ∨ D.getD v default ≤ 50 * (k:Int)) := h v hv
theorem map_get {D:List Int} {v:Nat} (hv:v < D.length):(D.map unfar).getD v default = unfar (D.getD v default) := by
  simp [List.getD_eq_getElem?_getD,hv]
end Go.Proofs.Ytfgmolljcgnafaa
