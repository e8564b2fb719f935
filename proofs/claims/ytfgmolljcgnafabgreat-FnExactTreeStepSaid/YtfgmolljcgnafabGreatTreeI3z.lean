/-
  Plain Lean: a whole step of the program; who is up thinks what he has heard.
-/
import Derived.Test.YtfgmolljcgnafabGreatKz4
import Derived.Test.YtfgmolljcgnafabGreatTreeI2z
set_option linter.all false
namespace Go.Proofs.YtfgmolljcgnafabGreat
open Go Go.Ab
set_option maxHeartbeats 400000
theorem iClone_p {w:TreeWorld} (h:w.Len 1048576):impl_clone_TreeBridge_m w.Bridges = some w.Bridges ∧ impl_clone_TreeLink_m w.Links = some w.Links ∧ impl_clone_int_m w.Down = some w.Down ∧ impl_clone_TreeSlot_m w.AtA = some w.AtA ∧ impl_clone_TreeSlot_m w.AtB = some w.AtB ∧ impl_clone_TreeWord_m w.Radio = some w.Radio := by
  have := h.b;have := h.l;have := h.d;have := h.a;have := h.z;have := h.r;unfold impl_clone_TreeBridge_m impl_clone_TreeLink_m impl_clone_int_m impl_clone_TreeSlot_m impl_clone_TreeWord_m;refine ⟨?_,?_,?_,?_,?_,?_⟩ <;> (rw [gd_pos (by omega),gd_pos (by simp; omega)]; rfl)
theorem iCopy_p {w:TreeWorld} (h:w.Len 1048576):impl_copyTree_m w = some w := by
  obtain ⟨h1,h2,h3,h4,h5,h6⟩ := iClone_p h;unfold impl_copyTree_m;rw [h1,bd_val,h2,bd_val,h3,bd_val,h4,bd_val,h5,bd_val,h6,bd_val]
theorem sStep_p {w:TreeWorld} (h:Good w) (e:TreeEvent):spec_TreeStep_m w e = some (doEv w e) := by
  have hl := h.len;obtain ⟨g,s⟩ := do_good h e;unfold spec_TreeStep_m;rw [specWorldOk_p (by have := hl.b; omega) (by have := hl.l; omega) (by have := hl.d; omega) (by have := hl.r; omega),bd_val,good_iff.2 h,if_neg (by decide),copyA_p,h.copy,bd_val,do_p h,bd_val,g.copy,bd_val]
end Go.Proofs.YtfgmolljcgnafabGreat
