/-
  Plain Lean: the row FnTreeRounds.
-/
import Derived.Test.YtfgmolljcgnafaaKz4
import Derived.Test.YtfgmolljcgnafaaTreeRz
import Derived.Test.YtfgmolljcgnafaaTreeD2z
set_option linter.all false
namespace Go.Proofs.Ytfgmolljcgnafaa
open Go Go.Ab
set_option maxHeartbeats 400000
theorem calm_draw {b:List Int} (hb:b.length ≤ 9223372036854775807) (h:∀ x ∈ b,FitsB x):Post (spec_DrawTreeCalm_m b) fun x => Drawn x.1 := by
  unfold spec_DrawTreeCalm_m;exact .bd (open_post hb h) fun r hr => .bd (any_post hr (by omega)) fun x2 ⟨g2,h2⟩ => .bd (pick_post h2 (by omega) (by omega)) fun x3 ⟨g3,h3⟩ => .gd ⟨g3.1,by simpa using g3.2⟩ (.bd (pick_post h3 (by omega) (by omega)) fun x5 ⟨g5,h5⟩ => .gd ⟨g5.1,by simpa using g5.2⟩ (.ret g2))
theorem calmF_p (w:TreeWorld) (r a:Int):impl_TreeCalm_fz_m w r a = impl_TreeCalm_m w r a := rfl
theorem iCalm_no {w:TreeWorld} (hl:w.Len 9223372036854775807) (h:worldOk w = false) (r a:Int):impl_TreeCalm_m w r a = some ⟨[],[],[],[],[],[]⟩ := by
  unfold impl_TreeCalm_m;rw [implWorldOk_p hl.b hl.l hl.d hl.r,bd_val,h]; rfl
theorem sCalm_no {w:TreeWorld} (hl:w.Len 9223372036854775807) (h:worldOk w = false) (r a:Int):spec_TreeCalm_m w r a = some ⟨[],[],[],[],[],[]⟩ := by
  unfold spec_TreeCalm_m;rw [specWorldOk_p hl.b hl.l hl.d hl.r,bd_val,h]; rfl
theorem wt_empty:laws_wtWorld_m ⟨[],[],[],[],[],[]⟩ ⟨[],[],[],[],[],[]⟩ = some true := wtWorld_p ⟨by simp,by simp,by simp,by simp,by simp,by simp⟩
theorem off_same {w v:TreeWorld} (h:v.Links = w.Links) (a:Int):off v a = off w a := by unfold off; rw [h]
theorem fnTreeRounds_p {a0 a1:List Int} (h:a0.length ≤ 9223372036854775807 ∧ ∀ x ∈ a0,FitsB x) (h':a1.length ≤ 9223372036854775807 ∧ ∀ x ∈ a1,FitsB x):laws_FnTreeRounds_m a0 a1 = some true := by
  unfold laws_FnTreeRounds_m
  by_cases hb:a0.length ≤ 1048576 ∧ a1.length ≤ 1048576
  · rw [if_neg (by simp; omega)];obtain ⟨x1,e1,hd⟩ := calm_draw h.1 h.2;rw [e1,bd_val,gd_pos (by decide),gd_pos (by decide)];have e5:∀ n:Nat,((n:Nat):Int).tmod 5 = ((n % 5:Nat):Int) := fun n => by rw [Int.ofNat_tmod]; rfl
    rw [e5,e5];have hm := Nat.mod_lt a0.length (show 0 < 5 by decide);have hn := Nat.mod_lt a1.length (show 0 < 5 by decide);generalize a0.length % 5 = m at *;generalize a1.length % 5 = n at *;rw [wrap_i64 (n := (m:Int) + (n:Int)) (by omega) (by omega)];have hl:x1.1.Len 9223372036854775807 := Len.mono hd.len (by omega);generalize x1.1 = w at *;generalize x1.2.2 = t at *
    cases hw:worldOk w
    · rw [iCalm_no hl hw,bd_val,sCalm_no hl hw,bd_val,wt_empty,bd_val,if_neg (by decide),specWorldOk_p hl.b hl.l hl.d hl.r,bd_val,hw,if_pos (by decide),bd_val]
    · have g := good_iff.1 hw;have k1 := kp_it (t := off w t) g (rnds ((m:Int) + (n:Int)));have hlv := k1.g.len;have hok := good_iff.2 k1.g;have er:rnds ((m:Int) + (n:Int)) = m + n := by unfold rnds; omega
      have em:rnds (m:Int) = m := by unfold rnds; omega
      have en:rnds (n:Int) = n := by unfold rnds; omega
      have k2 := kp_it (t := off w t) g (rnds (m:Int));rw [iCalm_p g,bd_val,sCalm_p g,bd_val,wtWorld_p (Len.mono hlv (by omega)),bd_val,if_neg (by decide),specWorldOk_p hl.b hl.l hl.d hl.r,bd_val,hw,if_neg (by decide),implWorldOk_p (by have := hlv.b; omega) (by have := hlv.l; omega) (by have := hlv.d; omega) (by have := hlv.r; omega),bd_val,hok,calmF_p,iCalm_p g,gcall_pos rfl,bd_val,calmF_p,iCalm_p k2.g,gcall_pos rfl,bd_val,off_same k2.s.links,em,en,← itN_add,er,wtWorld_p (by rw [er] at hlv; exact Len.mono hlv (by omega)),gcall_pos rfl,bd_val]
      rfl
  · rw [if_pos (by simp; omega)]
end Go.Proofs.Ytfgmolljcgnafaa
