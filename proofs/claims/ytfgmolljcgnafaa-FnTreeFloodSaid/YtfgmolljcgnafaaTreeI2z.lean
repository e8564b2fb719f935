/-
  Plain Lean: bridges, links, whole steps: the program's do what the reference's do.
-/
import Derived.Test.YtfgmolljcgnafaaKz5
import Derived.Test.YtfgmolljcgnafaaTreeIz
set_option linter.all false
namespace Go.Proofs.Ytfgmolljcgnafaa
open Go Go.Ab
set_option maxHeartbeats 400000
theorem bd_some {α β:Type} {m:Option α} {k:α → Option β} {y:β} (h:bd m k = some y):∃ x,m = some x ∧ k x = some y := by
  cases m with
  | none => exact absurd h (by simp [bd])
  | some x => exact ⟨x,rfl,h⟩
theorem told_p {w:TreeWorld} (h:Good w) {i:Nat} (hi:i < w.Links.length) {e:Int} (he:e = 0 ∨ e = 1):impl_TreeWorld_told_m w (i:Int) e = some (wordFor w i e).Vector := by
  have hb := brAt_in' h hi (1 - e);unfold impl_TreeWorld_told_m wordFor;rw [wrap_i64 (n := 1 - e) (by omega) (by omega),bridgeAt_p hi,bd_val,gd_pos hb]
end Go.Proofs.Ytfgmolljcgnafaa
