/-
  Plain Lean: a whole step of the program; who is up thinks what he has heard.
-/
import Derived.Test.YtfgmolljcgnafaaGreatKz4
import Derived.Test.YtfgmolljcgnafaaGreatTreeI2bz
set_option linter.all false
namespace Go.Proofs.YtfgmolljcgnafaaGreat
open Go Go.Ab
set_option maxHeartbeats 400000
theorem iClone_p {w:TreeWorld} (h:w.Len 1048576):impl_clone_TreeBridge_m w.Bridges = some w.Bridges ∧ impl_clone_TreeLink_m w.Links = some w.Links ∧ impl_clone_int_m w.Down = some w.Down ∧ impl_clone_TreeSlot_m w.AtA = some w.AtA ∧ impl_clone_TreeSlot_m w.AtB = some w.AtB ∧ impl_clone_TreeWord_m w.Radio = some w.Radio := by
  have := h.b;have := h.l;have := h.d;have := h.a;have := h.z;have := h.r;unfold impl_clone_TreeBridge_m impl_clone_TreeLink_m impl_clone_int_m impl_clone_TreeSlot_m impl_clone_TreeWord_m;refine ⟨?_,?_,?_,?_,?_,?_⟩ <;> (rw [gd_pos (by omega),gd_pos (by simp; omega)]; rfl)
theorem iCopy_p {w:TreeWorld} (h:w.Len 1048576):impl_copyTree_m w = some w := by
  obtain ⟨h1,h2,h3,h4,h5,h6⟩ := iClone_p h;unfold impl_copyTree_m;rw [h1,bd_val,h2,bd_val,h3,bd_val,h4,bd_val,h5,bd_val,h6,bd_val]
theorem words_sh (w:TreeWorld) (e:TreeEvent):words w e = { words w e with Links := w.Links,Down := w.Down } := by
  unfold words;split
  · split
    · rw [hear_sh]; rfl
    · split
      · rw [put_sh]
      · rfl
  · rfl
theorem tick_sh {w:TreeWorld} (h:Good w):ticked w = { ticked w with Links := w.Links,Down := w.Down,Radio := w.Radio } := by
  have g := glue (v := ticked w) (brs_ticks _) (aged_good h).2;exact g.symm.trans (by rw [← g])
end Go.Proofs.YtfgmolljcgnafaaGreat
