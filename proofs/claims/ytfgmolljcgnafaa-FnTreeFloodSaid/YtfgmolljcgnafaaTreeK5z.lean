/-
  Plain Lean: in a calm bridges have no loop, and all that is joined is reached; the row FnTreeTop.
-/
import Derived.Test.YtfgmolljcgnafaaKz5
import Derived.Test.YtfgmolljcgnafaaTreeK4z
import Derived.Test.YtfgmolljcgnafaaTreeB3z
import Derived.Test.YtfgmolljcgnafaaTreeD3z
set_option linter.all false
namespace Go.Proofs.Ytfgmolljcgnafaa
open Go Go.Ab
set_option maxHeartbeats 400000
structure Rt (w:TreeWorld):Prop where
  g:Good w
  r:∀ B,Good B → Nt B w → Right B w
theorem Good.dn {w:TreeWorld} (h:Good w):w.Down.length ≤ 9223372036854775807 := by have := h.len.d; omega
theorem rt_calm {w:TreeWorld} (h:Good w) (t:Nat) {n:Nat} (hn:22 ≤ n):Rt (itN (roundR t) n w) := by
  have R := calm_right h.wok h.dn (.refl h) t hn;have nt := R.calm.nt;exact ⟨nt.k.g,fun B gB hB => calm_right gB.wok gB.dn (hB.trans (nt.symm h)) t hn⟩
theorem Rt.self {w:TreeWorld} (h:Rt w):Right w w := h.r w h.g (.refl h.g)
theorem wtInts_self {xs:List Int} (h:xs.length ≤ 1048576):laws_wtInts_m xs xs = some true := by
  unfold laws_wtInts_m;rw [if_neg (by simp),lp_all xs.length (fun _ => true) (.inl ()) (.inr ()) (fun i hi _ => ?_) (fun _ => by rw [if_neg (by simp)]),if_pos (allR_of fun _ _ => rfl),bd_val];rw [if_pos (by simp; omega),gd_pos (by omega),gd_pos (by omega),if_neg (by simp),wrap_succ hi (by omega),if_pos rfl]
theorem openL_le {w:TreeWorld} (h:Good w):(openL w w.Links.length).length ≤ 12 := Nat.le_trans (openL_len w _) h.l12
end Go.Proofs.Ytfgmolljcgnafaa
