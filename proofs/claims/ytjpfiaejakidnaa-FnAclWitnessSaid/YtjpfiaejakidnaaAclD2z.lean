/-
  Plain Lean: the rows FnAclWitness, FnAclDiffer.
-/
import Derived.Test.YtjpfiaejakidnaaKz5
import Derived.Test.YtjpfiaejakidnaaAclDz
import Derived.Test.YtjpfiaejakidnaaAclPoz
set_option linter.all false
namespace Go.Proofs.Ytjpfiaejakidnaa
open Go Go.Ab
set_option maxHeartbeats 400000

theorem drawAclWitness_post {b : List Int} (hb : b.length ≤ 9223372036854775807) (h : ∀ x ∈ b, FitsB x) : Post (spec_DrawAclWitness_m b) fun x => x.1.length ≤ 20 := by
  unfold spec_DrawAclWitness_m
  refine .bd (open_post hb h) fun x1 h1 => .bd (anyRules_post h1 (by omega)) fun x2 ⟨g2, h2⟩ => ?_
  rw [wrap_i64 (n := ((x2.1.length : Nat) : Int) + 2) (by omega) (by omega)]
  exact .bd (pick_post h2 (by omega) (by omega)) fun x3 ⟨_, h3⟩ => .bd (pick_post h3 (by omega) (by omega)) fun x4 _ => .ret g2
theorem drawAclDiffer_post {b : List Int} (hb : b.length ≤ 9223372036854775807) (h : ∀ x ∈ b, FitsB x) : Post (spec_DrawAclDiffer_m b) fun x => x.1.length ≤ 20 ∧ x.2.length ≤ 40 := by
  unfold spec_DrawAclDiffer_m
  refine .bd (open_post hb h) fun x1 h1 => .bd (anyRules_post h1 (by omega)) fun x2 ⟨g2, h2⟩ => .gd (by omega) ?_
  refine .bd (Q := fun x => x.1.length ≤ 40 ∧ RdOk ⟨x1.b, x.2⟩ 810) (.ite (fun c => ?_) fun _ => .ret ⟨by dsimp only; omega, h2.mono (by omega)⟩) fun x3 ⟨g3, h3⟩ => ?_
  · simp only [decide_eq_true_eq] at c
    rw [wrap_i64 (n := ((x2.1.length : Nat) : Int) - 1) (by omega) (by omega)]
    refine .bd (pick_post h2 (by omega) (by omega)) fun x6 ⟨g6, h6⟩ => .bd (pick_post h6 (by omega) (by omega)) fun x7 ⟨_, h7⟩ => ?_
    rw [wrap_i64 (n := x6.1 + 1) (by omega) (by omega)]
    refine .ite (fun _ => .gd (by omega) (.gd (by omega) (.gd (by omega) (.bd (Q := fun x => x.length ≤ 20) (.ret (by simp; omega)) fun x11 g11 => .gd (by omega) (.bd (Q := fun x => x.length ≤ 20) (.ret (by simp; omega)) fun x13 g13 => .ret ⟨by dsimp only; omega, h7.mono (by omega)⟩))))) fun _ => ?_
    refine .ite (fun _ => .gd (by omega) (.gd (by omega) (.gd (by omega) (.gd (by simp [dsub_eq]; omega) (.ret ⟨by simp [dsub_eq]; omega, h7.mono (by omega)⟩))))) fun _ => ?_
    exact .ite (fun _ => .gd (by omega) (.gd (by omega) (.bd (Q := fun x => x.length ≤ 20) (.ret (by simp; omega)) fun x20 g20 => .ret ⟨by dsimp only; omega, h7.mono (by omega)⟩))) fun _ => .ret ⟨by dsimp only; omega, h7.mono (by omega)⟩
  · refine .bd (pick_post h3 (by omega) (by omega)) fun x21 ⟨_, h21⟩ => .ite (fun _ => .bd (anyRules_post h21 (by omega)) fun x22 ⟨g22, _⟩ => .ret ⟨g2, by dsimp only; omega⟩) fun _ => .ret ⟨g2, g3⟩

theorem packet_beq (p q : AclPacket) : ((p.From == q.From) && ((p.To == q.To) && ((p.Kind == q.Kind) && true))) = decide (p = q) := by
  cases p; cases q
  simp only [AclPacket.mk.injEq, Bool.and_true]
  rw [Bool.eq_iff_iff]
  simp

theorem fnAclWitness_p {a0 a1 : List Int} (h : a0.length ≤ 9223372036854775807 ∧ ∀ x ∈ a0, FitsB x) (k : a1.length ≤ 9223372036854775807 ∧ ∀ x ∈ a1, FitsB x) : laws_FnAclWitness_m a0 a1 = some true := by
  unfold laws_FnAclWitness_m
  by_cases h0 : ((decide (((a0.length : Nat) : Int) > 1048576)) || (decide (((a1.length : Nat) : Int) > 1048576))) = true
  · rw [if_pos h0]
  rw [if_neg h0]
  obtain ⟨⟨rs, n⟩, e, hl⟩ := drawAclWitness_post h.1 h.2
  rw [e, bd_val]
  dsimp only at hl ⊢
  obtain ⟨r, e1, e2, h1, h2⟩ := witness_p (rs := rs) (by omega) n
  rw [e1, bd_val, e2, bd_val, packet_beq, if_neg (by simp)]
  cases hr : r.2
  · rw [if_neg (by decide)]
    obtain ⟨⟨qs, q⟩, e3, _⟩ := drawAclSays_post k.1 k.2
    rw [e3, bd_val]
    dsimp only
    rw [implSays_p (by omega), bd_val]
    have := h2 hr q
    by_cases hn : n < 0
    · simp [hn]
    · have : (says rs q).1 ≠ n := fun e => hn (this e)
      simp [hn, this]
  · obtain ⟨g1, g2, g3⟩ := h1 hr
    rw [if_pos rfl, implSays_p (by omega), bd_val]
    unfold says
    rw [g1, g2]
    simp [g3]

end Go.Proofs.Ytjpfiaejakidnaa
