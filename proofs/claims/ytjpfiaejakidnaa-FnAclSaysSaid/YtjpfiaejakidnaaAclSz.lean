/-
  Plain Lean: the row FnAclSays.
-/
import Derived.Test.YtjpfiaejakidnaaKz3
import Derived.Test.YtjpfiaejakidnaaAclPoz
set_option linter.all false
namespace Go.Proofs.Ytjpfiaejakidnaa
open Go Go.Ab
set_option maxHeartbeats 400000

theorem fnAclSays_p {a0 : List Int} (h : a0.length ≤ 9223372036854775807 ∧ ∀ x ∈ a0, FitsB x) : laws_FnAclSays_m a0 = some true := by
  unfold laws_FnAclSays_m
  by_cases h0 : ((a0.length : Nat) : Int) > 1048576
  · rw [if_pos (by simpa using h0)]
  rw [if_neg (by simpa using h0)]
  obtain ⟨⟨rs, p⟩, e, hl⟩ := drawAclSays_post h.1 h.2
  rw [e, bd_val]
  dsimp only at hl ⊢
  rw [implSays_p (by omega), bd_val, specSays_p (by omega), bd_val, if_neg (by simp)]
  cases hs : aclOk rs && packetOk p
  · simp [says, hs]
  have ha : aclOk rs = true := by
    simp only [Bool.and_eq_true] at hs
    exact hs.1
  cases hd : decideR rs p with
  | none => simp [says, hs, hd, at?, permit]
  | some i =>
    obtain ⟨hi, hf, hk⟩ := firstR_some hd
    have es : says rs p = ((i : Int), (rs.getD i default).Permit) := by simp [says, hs, hd, at?, permit]
    rw [es, if_neg (by simp)]
    dsimp only
    rw [lp_all (i + 1) (fun _ => true) (.inl ()) (.inr ()) (fun j hj _ => ?_) (fun _ => by rw [if_neg (by simp; omega)]), bd_val]
    · rw [allR_of fun _ _ => rfl, if_pos rfl]
      dsimp only
      rw [gd_pos (by omega), Int.toNat_natCast]
      simp
    · have hr := aclOk_at ha (i := j) (by omega)
      simp only [ruleOk, Bool.and_eq_true] at hr
      have hin : (0 : Int) ≤ (j : Int) ∧ (j : Int) < ((rs.length : Nat) : Int) := by omega
      rw [if_pos (by simp; omega), gd_pos hin, Int.toNat_natCast, specNetHas_p, bd_val, gd_pos (fun _ => hin), specNetHas_p, gcall_b, bd_val, gd_pos (fun _ => hin), gd_pos (fun _ _ => hin), wrap_succ hj (by omega), hr.1.1, hr.1.2]
      have hx : ((true && netHas (rs.getD j default).From p.From && (true && netHas (rs.getD j default).From p.From && (true && netHas (rs.getD j default).To p.To))) && (((rs.getD j default).Kind == 0) || ((rs.getD j default).Kind == p.Kind))) = ((j : Int) == (i : Int)) := by
        have : fits (rs.getD j default) p = decide (j = i) := by
          rcases Nat.lt_or_ge j i with h1 | h1
          · rw [hk j h1]; simp; omega
          · have : j = i := by omega
            subst this; rw [hf]; simp
        have e2 : ((j : Int) == (i : Int)) = decide (j = i) := by
          rw [Bool.eq_iff_iff, beq_iff_eq, decide_eq_true_eq]; omega
        rw [e2, ← this, fits]
        cases netHas (rs.getD j default).From p.From <;> cases netHas (rs.getD j default).To p.To <;> rfl
      rw [hx, if_neg (by simp), if_pos rfl]

end Go.Proofs.Ytjpfiaejakidnaa
