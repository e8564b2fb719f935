/-
  Plain Lean: what the program's steps do: the same as the reference's.
-/
import Derived.Test.YtfgmolljcgnafaaGreatKz4
import Derived.Test.YtfgmolljcgnafaaGreatTreeS4z
set_option linter.all false
namespace Go.Proofs.YtfgmolljcgnafaaGreat
open Go Go.Ab
set_option maxHeartbeats 400000
theorem thinks_sh (w:TreeWorld) (b:Nat):thinks w b = { w with Bridges := (thinks w b).Bridges } := by
  unfold thinks setBr;split <;> rfl
theorem hear_sh (w:TreeWorld) (x:TreeWord):hear w x = { w with Bridges := (hear w x).Bridges,AtA := (hear w x).AtA,AtB := (hear w x).AtB } := by
  unfold hear;split
  · rfl
  · rw [thinks_sh];unfold setSlot;split <;> rfl
theorem put_sh (w:TreeWorld) (x:TreeWord):putR w x = { w with Radio := (putR w x).Radio } := by
  unfold putR setRadio;split <;> rfl
theorem older_if {s:TreeSlot} (h:slotOk s = true) {k:Int} (hk:k = s.Left - 1):(if (if k > 0 then k else 0) = 0 then noSlot else ⟨s.Vector,if k > 0 then k else 0⟩) = older s := by
  have := slotLeft h;unfold older
  by_cases c:s.Left ≤ 1
  · rw [if_pos c,if_neg (show ¬ k > 0 by omega),if_pos rfl]; rfl
  · rw [if_neg c,if_pos (show k > 0 by omega),if_neg (by omega),hk]
def Brs (w v:TreeWorld):Prop := v = { w with Bridges := v.Bridges }
theorem brs_thinks {w v:TreeWorld} {b:Nat} (h:Brs w v):Brs w (thinks v b) := by
  unfold Brs at h ⊢;unfold thinks setBr;split
  · rw [h]
  · exact h
theorem brs_ticks {w:TreeWorld}:∀ j,Brs w ((List.range j).foldl thinks w) := by
  intro j
  induction j with
  | zero => rfl
  | succ j ih => rw [List.range_succ,List.foldl_append]; exact brs_thinks ih
theorem glue {w u v:TreeWorld} (hb:Brs u v) (hs:Slots w u):({ w with Bridges := v.Bridges,AtA := v.AtA,AtB := u.AtB }:TreeWorld) = v := by
  have hv:v = { u with Bridges := v.Bridges } := hb;have h1:v.Links = u.Links := by rw [hv]
  have h2:v.Down = u.Down := by rw [hv]
  have h3:v.Radio = u.Radio := by rw [hv]
  have h4:v.AtB = u.AtB := by rw [hv]
  rw [← hs.links,← hs.down,← hs.radio,← h1,← h2,← h3,← h4]
end Go.Proofs.YtfgmolljcgnafaaGreat
