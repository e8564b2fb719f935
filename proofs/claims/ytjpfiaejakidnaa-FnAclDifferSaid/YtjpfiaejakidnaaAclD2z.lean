/-
  Plain Lean: the rows FnAclWitness, FnAclDiffer.
-/
import Derived.Test.YtjpfiaejakidnaaKz5
import Derived.Test.YtjpfiaejakidnaaAclDz
import Derived.Test.YtjpfiaejakidnaaAclPoz
set_option linter.all false
namespace Go.Proofs.Ytjpfiaejakidnaa
open Go Go.Ab
set_option maxHeartbeats 400000

theorem drawAclWitness_post {b : List Int} (hb : b.length ≤ 9223372036854775807) (h : ∀ x ∈ b, FitsB x) : Post (spec_DrawAclWitness_m b) fun x => x.1.length ≤ 20 := by
  unfold spec_DrawAclWitness_m
  refine .bd (open_post hb h) fun x1 h1 => .bd (anyRules_post h1 (by omega)) fun x2 ⟨g2, h2⟩ => ?_
  rw [wrap_i64 (n := ((x2.1.length : Nat) : Int) + 2) (by omega) (by omega)]
  exact .bd (pick_post h2 (by omega) (by omega)) fun x3 ⟨_, h3⟩ => .bd (pick_post h3 (by omega) (by omega)) fun x4 _ => .ret g2
theorem drawAclDiffer_post {b : List Int} (hb : b.length ≤ 9223372036854775807) (h : ∀ x ∈ b, FitsB x) : Post (spec_DrawAclDiffer_m b) fun x => x.1.length ≤ 20 ∧ x.2.length ≤ 40 := by
  unfold spec_DrawAclDiffer_m
  refine .bd (open_post hb h) fun x1 h1 => .bd (anyRules_post h1 (by omega)) fun x2 ⟨g2, h2⟩ => .gd (by omega) ?_
  refine .bd (Q := fun x => x.1.length ≤ 40 ∧ RdOk ⟨x1.b, x.2⟩ 810) (.ite (fun c => ?_) fun _ => .ret ⟨by dsimp only; omega, h2.mono (by omega)⟩) fun x3 ⟨g3, h3⟩ => ?_
  · simp only [decide_eq_true_eq] at c
    rw [wrap_i64 (n := ((x2.1.length : Nat) : Int) - 1) (by omega) (by omega)]
    refine .bd (pick_post h2 (by omega) (by omega)) fun x6 ⟨g6, h6⟩ => .bd (pick_post h6 (by omega) (by omega)) fun x7 ⟨_, h7⟩ => ?_
    rw [wrap_i64 (n := x6.1 + 1) (by omega) (by omega)]
    refine .ite (fun _ => .gd (by omega) (.gd (by omega) (.gd (by omega) (.bd (Q := fun x => x.length ≤ 20) (.ret (by simp; omega)) fun x11 g11 => .gd (by omega) (.bd (Q := fun x => x.length ≤ 20) (.ret (by simp; omega)) fun x13 g13 => .ret ⟨by dsimp only; omega, h7.mono (by omega)⟩))))) fun _ => ?_
    refine .ite (fun _ => .gd (by omega) (.gd (by omega) (.gd (by omega) (.gd (by simp [dsub_eq]; omega) (.ret ⟨by simp [dsub_eq]; omega, h7.mono (by omega)⟩))))) fun _ => ?_
    exact .ite (fun _ => .gd (by omega) (.gd (by omega) (.bd (Q := fun x => x.length ≤ 20) (.ret (by simp; omega)) fun x20 g20 => .ret ⟨by dsimp only; omega, h7.mono (by omega)⟩))) fun _ => .ret ⟨by dsimp only; omega, h7.mono (by omega)⟩
  · refine .bd (pick_post h3 (by omega) (by omega)) fun x21 ⟨_, h21⟩ => .ite (fun _ => .bd (anyRules_post h21 (by omega)) fun x22 ⟨g22, _⟩ => .ret ⟨g2, by dsimp only; omega⟩) fun _ => .ret ⟨g2, g3⟩

theorem packet_beq (p q : AclPacket) : ((p.From == q.From) && ((p.To == q.To) && ((p.Kind == q.Kind) && true))) = decide (p = q) := by
  cases p; cases q
  simp only [AclPacket.mk.injEq, Bool.and_true]
  rw [Bool.eq_iff_iff]
  simp

theorem fnAclDiffer_p {a0 a1 : List Int} (h : a0.length ≤ 9223372036854775807 ∧ ∀ x ∈ a0, FitsB x) (k : a1.length ≤ 9223372036854775807 ∧ ∀ x ∈ a1, FitsB x) : laws_FnAclDiffer_m a0 a1 = some true := by
  unfold laws_FnAclDiffer_m
  by_cases h0 : ((decide (((a0.length : Nat) : Int) > 1048576)) || (decide (((a1.length : Nat) : Int) > 1048576))) = true
  · rw [if_pos h0]
  rw [if_neg h0]
  obtain ⟨⟨a, b⟩, e, hl⟩ := drawAclDiffer_post h.1 h.2
  rw [e, bd_val]
  dsimp only at hl ⊢
  obtain ⟨r, e1, e2, e3, h1, h2⟩ := differ_p (a := a) (b := b) (by omega) (by omega)
  rw [e1, bd_val, e2, bd_val, e3, bd_val, packet_beq, if_neg (by simp)]
  obtain ⟨⟨qs, q⟩, e4, _⟩ := drawAclSays_post k.1 k.2
  rw [e4, bd_val]
  dsimp only
  have so : ∀ p, aclOk a = true → aclOk b = true → packetOk p = true → soR a b (-1) p = !((says a p).2 == (says b p).2) := fun p ha hb hp => by
    unfold soR says
    rw [ha, hb, hp]
    simp
  have end_ : ∀ p : AclPacket, (r.2 = true → p = r.1) → (bd (impl_AclSays_m a p) fun x9 => bd (impl_AclSays_m b p) fun x10 => bd (spec_AclOk_m a) fun x11 => bd (gcall ((!x11) = false) (spec_AclOk_m b)) fun x12 =>
      some ((((!x11) || (!x12)) || ((!(x9.2 == x10.2)) == (r.2 && ((p.From == r.1.From) && ((p.To == r.1.To) && ((p.Kind == r.1.Kind) && true)))))) || (r.2 && (!((p.From == r.1.From) && ((p.To == r.1.To) && ((p.Kind == r.1.Kind) && true))))))) = some true := fun p hp => by
    simp only [packet_beq]
    rw [implSays_p (by omega), bd_val, implSays_p (by omega), bd_val, specAclOk_p (by omega), bd_val, specAclOk_p (by omega), gcall_nb, bd_val]
    cases ha : aclOk a
    · rfl
    cases hb : aclOk b
    · rfl
    obtain ⟨k1, k2⟩ := h1 ha hb
    cases hr : r.2
    · have : ((says a p).2 == (says b p).2) = true := by
        cases hpk : packetOk p
        · unfold says; rw [hpk]; simp
        · have := k2 hr p hpk
          rw [so p ha hb hpk] at this
          simpa using this
      rw [this]; rfl
    · have e := hp hr
      subst e
      obtain ⟨k3, k4⟩ := k1 hr
      rw [so _ ha hb k3] at k4
      rw [k4]; simp
  cases hr : r.2
  · rw [if_neg (by decide), bd_val]
    have := end_ q (fun h => by rw [hr] at h; cases h)
    rw [hr] at this
    exact this
  · rw [if_pos rfl, bd_val]
    have := end_ r.1 (fun _ => rfl)
    rw [hr] at this
    exact this

end Go.Proofs.Ytjpfiaejakidnaa
