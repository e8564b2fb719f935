/-
  Plain Lean: the laws' helpers on access lists; the row FnExactAclDiffer.
-/
import Derived.Test.YtjpfiaejakidnaaKz5
import Derived.Test.YtjpfiaejakidnaaAclLz
import Derived.Test.YtjpfiaejakidnaaArgz
set_option linter.all false
namespace Go.Proofs.Ytjpfiaejakidnaa
open Go Go.Ab
set_option maxHeartbeats 400000

theorem clone_p {xs : List AclRule} (h : xs.length ≤ 1048576) : impl_clone_AclRule_m xs = some xs := by
  unfold impl_clone_AclRule_m
  rw [gd_pos (by omega), gd_pos (by simp; omega)]
  rfl
theorem soR_symm (a b : List AclRule) : soR b a (-1) = soR a b (-1) := by
  funext p
  unfold soR
  rw [if_neg (by decide), if_neg (by decide)]
  cases permit a (decideR a p) <;> cases permit b (decideR b p) <;> rfl
theorem differ_p {a b : List AclRule} (ha : a.length ≤ 1048576) (hb : b.length ≤ 1048576) : ∃ r : AclPacket × Bool, impl_AclDiffer_m a b = some r ∧ spec_AclDiffer_m a b = some r ∧ impl_AclDiffer_m b a = some r ∧
    (aclOk a = true → aclOk b = true → (r.2 = true → packetOk r.1 = true ∧ soR a b (-1) r.1 = true) ∧ (r.2 = false → ∀ p, packetOk p = true → soR a b (-1) p = false)) ∧ ((aclOk a && aclOk b) = false → r.2 = false) := by
  by_cases hok : aclOk a = true ∧ aclOk b = true
  · obtain ⟨ka, kb⟩ := hok
    have ho := oks_app ka kb
    obtain ⟨fs, ts, g⟩ := grids ho
    refine ⟨leastR (soR a b (-1)) fs ts, ?_, ?_, ?_, fun _ _ => ⟨fun h => ⟨least_ok g ho h, (leastR_true h).1⟩, fun h p hp => grid_so g ho (fun r hr => List.mem_append_left _ hr) (fun r hr => List.mem_append_right _ hr) h hp⟩, fun h => by rw [ka, kb] at h; cases h⟩
    · unfold impl_AclDiffer_m
      rw [implAclOk_p (by omega), bd_val, implAclOk_p (by omega), gcall_nb, bd_val, ka, kb, if_neg (by decide), clone_p ha, bd_val, gd_pos (by omega), implDifferLeast_p ka kb g (fun _ => Iff.rfl) ho, bd_val]
    · unfold spec_AclDiffer_m
      rw [specAclOk_p (by omega), bd_val, specAclOk_p (by omega), gcall_nb, bd_val, ka, kb, if_neg (by decide), specLeast_p ka kb g, bd_val]
    · unfold impl_AclDiffer_m
      rw [implAclOk_p (by omega), bd_val, implAclOk_p (by omega), gcall_nb, bd_val, ka, kb, if_neg (by decide), clone_p hb, bd_val, gd_pos (by omega), implDifferLeast_p kb ka g (fun r => by simp only [List.mem_append]; exact or_comm) ho, bd_val, soR_symm]
  · have hf : (aclOk a && aclOk b) = false := by
      cases h1 : aclOk a <;> cases h2 : aclOk b <;> simp_all
    refine ⟨(⟨0, 0, 0⟩, false), ?_, ?_, ?_, fun h1 h2 => absurd ⟨h1, h2⟩ hok, fun _ => rfl⟩
    · unfold impl_AclDiffer_m
      rw [implAclOk_p (by omega), bd_val, implAclOk_p (by omega), gcall_nb, bd_val, if_pos (by cases h1 : aclOk a <;> cases h2 : aclOk b <;> simp_all)]
    · unfold spec_AclDiffer_m
      rw [specAclOk_p (by omega), bd_val, specAclOk_p (by omega), gcall_nb, bd_val, if_pos (by cases h1 : aclOk a <;> cases h2 : aclOk b <;> simp_all)]
    · unfold impl_AclDiffer_m
      rw [implAclOk_p (by omega), bd_val, implAclOk_p (by omega), gcall_nb, bd_val, if_pos (by cases h1 : aclOk a <;> cases h2 : aclOk b <;> simp_all)]

theorem at_lt {rs : List AclRule} {p : AclPacket} {n : Int} (h : at? (decideR rs p) = n) (hn : 0 ≤ n) : n < rs.length := by
  unfold at? at h
  cases hd : decideR rs p with
  | none => rw [hd] at h; simp at h; omega
  | some i =>
    rw [hd] at h
    simp at h
    have := (firstR_some hd).1
    omega
theorem witness_p {rs : List AclRule} (hl : rs.length ≤ 1048576) (n : Int) : ∃ r : AclPacket × Bool, impl_AclWitness_m rs n = some r ∧ spec_AclWitness_m rs n = some r ∧
    (r.2 = true → aclOk rs = true ∧ packetOk r.1 = true ∧ at? (decideR rs r.1) = n) ∧ (r.2 = false → ∀ p, (says rs p).1 = n → n < 0) := by
  have w : IntKind.i64.wrap (((rs.length : Nat) : Int) - 1) = ((rs.length : Nat) : Int) - 1 := wrap_i64 (by omega) (by omega)
  by_cases hok : aclOk rs = true ∧ inR n 0 (((rs.length : Nat) : Int) - 1) = true
  · obtain ⟨ka, kn⟩ := hok
    have hn := inR_iff.1 kn
    have ho := oks_of ka
    obtain ⟨fs, ts, g⟩ := grids ho
    have ho' : Oks (rs ++ []) := by rw [List.append_nil]; exact ho
    have g' : Grids (rs ++ []) fs ts := by rw [List.append_nil]; exact g
    have nb : ∀ p, soR rs [] n p = (at? (decideR rs p) == n) := fun p => by simp [soR, hn.1]
    refine ⟨leastR (soR rs [] n) fs ts, ?_, ?_, fun h => ⟨ka, least_ok g ho h, ?_⟩, fun h p hp => ?_⟩
    · unfold impl_AclWitness_m
      rw [implAclOk_p (by omega), bd_val, w, within_p, gcall_nb, bd_val, ka, kn, if_neg (by decide), implWitnessLeast_p ka g hn.1, bd_val]
    · unfold spec_AclWitness_m
      rw [specAclOk_p (by omega), bd_val, w, l1In_p, gcall_nb, bd_val, ka, kn, if_neg (by decide), specLeast_p ka (by decide) g', bd_val]
    · have := (leastR_true h).1
      rw [nb] at this
      simpa using this
    · unfold says at hp
      rw [ka, Bool.true_and] at hp
      cases hq : packetOk p
      · rw [hq] at hp; simp at hp; omega
      · rw [hq, if_pos rfl] at hp
        have := grid_so g ho (fun r hr => hr) (fun r hr => by simp at hr) h hq
        rw [nb] at this
        dsimp only at hp
        rw [hp] at this
        simp at this
  · refine ⟨(⟨0, 0, 0⟩, false), ?_, ?_, fun h => (by cases h), fun _ p hp => ?_⟩
    · unfold impl_AclWitness_m
      rw [implAclOk_p (by omega), bd_val, w, within_p, gcall_nb, bd_val, if_pos]
      cases h1 : aclOk rs <;> cases h2 : inR n 0 (((rs.length : Nat) : Int) - 1) <;> simp_all
    · unfold spec_AclWitness_m
      rw [specAclOk_p (by omega), bd_val, w, l1In_p, gcall_nb, bd_val, if_pos]
      cases h1 : aclOk rs <;> cases h2 : inR n 0 (((rs.length : Nat) : Int) - 1) <;> simp_all
    · unfold says at hp
      split at hp
      · rename_i hc
        simp only [Bool.and_eq_true] at hc
        dsimp only at hp
        apply Int.lt_of_not_ge
        intro hge
        exact hok ⟨hc.1, inR_iff.2 ⟨hge, by have := at_lt hp hge; omega⟩⟩
      · simp at hp; omega


end Go.Proofs.Ytjpfiaejakidnaa
