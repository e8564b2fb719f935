/-
  Plain Lean: what the program's steps do: the same as the reference's.
-/
import Derived.Test.YtfgmolljcgnafabGreatKz4
import Derived.Test.YtfgmolljcgnafabGreatTreeS4z
set_option linter.all false
namespace Go.Proofs.YtfgmolljcgnafabGreat
open Go Go.Ab
set_option maxHeartbeats 400000
theorem thinks_sh (w:TreeWorld) (b:Nat):thinks w b = { w with Bridges := (thinks w b).Bridges } := by
  unfold thinks setBr;split <;> rfl
theorem older_if {s:TreeSlot} (h:slotOk s = true) {k:Int} (hk:k = s.Left - 1):(if (if k > 0 then k else 0) = 0 then noSlot else ⟨s.Vector,if k > 0 then k else 0⟩) = older s := by
  have := slotLeft h;unfold older
  by_cases c:s.Left ≤ 1
  · rw [if_pos c,if_neg (show ¬ k > 0 by omega),if_pos rfl]; rfl
  · rw [if_neg c,if_pos (show k > 0 by omega),if_neg (by omega),hk]
def Brs (w v:TreeWorld):Prop := v = { w with Bridges := v.Bridges }
theorem brs_thinks {w v:TreeWorld} {b:Nat} (h:Brs w v):Brs w (thinks v b) := by
  unfold Brs at h ⊢;unfold thinks setBr;split
  · rw [h]
  · exact h
end Go.Proofs.YtfgmolljcgnafabGreat
