/-
  Two facts about the whole program that every row's proof wants; no condition.
-/
import Derived.Test.YtfgmolljcgnafaaGreatTbz
import Derived.Test.YtfgmolljcgnafaaGreatRows
set_option linter.all false
namespace Go.Proofs.YtfgmolljcgnafaaGreat
open Go Go.Ab
theorem Tryz.own:ownKnob Tryz.prog.godebug = none := by kernel_rfl
theorem Tryz.laidOut:laidOutB Tryz.prog = true := by kernel_rfl
theorem len_three {α:Type} {l:List α} (h:l.length = 3):∃ a b c,l = [a,b,c] := by
  match l,h with
  | [a,b,c],_ => exact ⟨a,b,c,rfl⟩
end Go.Proofs.YtfgmolljcgnafaaGreat
