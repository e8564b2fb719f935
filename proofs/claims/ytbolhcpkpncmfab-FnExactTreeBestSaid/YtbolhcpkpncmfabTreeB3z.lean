/-
  Plain Lean: the rows FnExactTreeBest and FnExactTreeRight.
-/
import Derived.Test.YtbolhcpkpncmfabKz5
import Derived.Test.YtbolhcpkpncmfabTreeB2z
import Derived.Test.YtbolhcpkpncmfabTreeMz
set_option linter.all false
namespace Go.Proofs.Ytbolhcpkpncmfab
open Go Go.Ab
set_option maxHeartbeats 400000

theorem treeBest_len {w : TreeWorld} (h : w.Len 1048576) : (treeBest w).length ≤ 1048576 := by
  unfold treeBest
  split
  · simpa using h.b
  · exact Nat.zero_le _
theorem eqTreeMindS_p {xs ys : List TreeMind} (h : xs.length ≤ 1048576) : laws_eqTreeMindS_m xs ys = some (decide (xs = ys)) := by
  unfold laws_eqTreeMindS_m
  by_cases hl : xs.length = ys.length
  · rw [if_neg (by simp; omega), lp_all xs.length (fun i => decide (xs.getD i default = ys.getD i default)) (.inl ()) (.inr ()) (fun i hi _ => ?_) (fun _ => by rw [if_neg (by simp)]), list_eq hl]
    · cases decide (xs = ys) <;> rfl
    · rw [if_pos (by simp; omega), gd_pos (by omega), gd_pos (by omega), eqTreeMind_p, bd_val, Int.toNat_natCast, wrap_succ hi (by omega)]
      cases decide (xs.getD i default = ys.getD i default) <;> rfl
  · rw [if_pos (by simp; omega)]
    have : xs ≠ ys := fun e => hl (by rw [e])
    simp [this]
def mkTreeMind (n : Int) : TreeMind := ⟨⟨n, (n + 1), (n + 1 + 1)⟩, (n + 1 + 1 + 1)⟩
theorem markTreeMindS_p {xs : List TreeMind} {a : Int} (h0 : 0 ≤ a) (h1 : a + 4 * (xs.length : Int) ≤ 1152921504606846976) : laws_markTreeMindS_m xs a = some (a + 4 * (xs.length : Int), mkL mkTreeMind 4 a xs.length) := by
  unfold laws_markTreeMindS_m
  rw [mark_p mkTreeMind 4 (fun i ys n hi hy hn => ?_) (fun ys n hy => by rw [← hy, if_neg (by simp)]), bd_val, gd_pos rfl]
  have hg : ∀ v : TreeMind, (ys.set i v).getD i default = v := fun v => getD_set (by omega)
  have hi' : (0 : Int) ≤ (i : Int) ∧ (i : Int) < ((ys.length : Nat) : Int) := by omega
  have h3 : (3 : Int) ≠ 0 := by decide
  have hlt : decide ((i : Int) < ((ys.length : Nat) : Int)) = true := by simp; omega
  have hin : (i : Int) < (xs.length : Int) := by omega
  simp only [hlt, if_true, gd_pos hi', gd_pos h3, Int.toNat_natCast, bd_val, List.set_set, hg]
  simp (disch := omega) only [wrap_i64, mkTreeMind]
  refine congrArg some (congrArg Sum.inl (Prod.ext rfl (Prod.ext ?_ ?_))) <;> dsimp only <;> omega
theorem heldTreeMindS_p {m : Nat} {a : Int} (h0 : 0 ≤ a) (h1 : a + 4 * (m : Int) ≤ 1152921504606846976) : laws_heldTreeMindS_m (mkL mkTreeMind 4 a m) a = some (a + 4 * (m : Int)) := by
  unfold laws_heldTreeMindS_m
  have hl : (mkL mkTreeMind 4 a m).length = m := mkL_len
  rw [hl, held_p 4 m (fun i n hi hn => ?_) (fun n => by rw [if_neg (by simp)]), bd_val]
  have hg : (mkL mkTreeMind 4 a m).getD i default = mkTreeMind n := by rw [hn]; exact mkL_get hi
  have hi' : (0 : Int) ≤ (i : Int) ∧ (i : Int) < (m : Int) := by omega
  have h3 : (3 : Int) ≠ 0 := by decide
  have hlt : decide ((i : Int) < (m : Int)) = true := by simp; omega
  simp only [hlt, if_true, gd_pos hi', gd_pos h3, Int.toNat_natCast, hg, mkTreeMind]
  simp (disch := omega) only [wrap_i64, bne_self_eq_false, beq_self_eq_true, Bool.not_true, Bool.false_eq_true, if_false]
  refine congrArg some (congrArg Sum.inl (Prod.ext ?_ ?_)) <;> dsimp only <;> omega
theorem fnExactTreeBest_p {a0 : TreeWorld} (h : a0.Fit) : laws_FnExactTreeBest_m a0 = some true := by
  have h := fit_lens h
  unfold laws_FnExactTreeBest_m
  obtain ⟨x, hx, hl⟩ := szTreeWorld_p h
  rw [hx, bd_val]
  by_cases h0 : x < 0
  · rw [if_pos (by simpa using h0)]
  · have h1 := hl h0
    have hp := treeBest_len h1
    obtain ⟨m1, m2, m3, m4, m5, m6⟩ := marked_len (w := a0)
    rw [if_neg (by simpa using h0)]
    simp only [toTreeWorld_p h1, specTreeBest_p h, implTreeBest_p h, eqTreeMindS_p hp, eqTreeWorld_p h1, bd_val, decide_true, Bool.not_true, Bool.false_eq_true, if_false]
    rw [markTreeWorld_p h1, bd_val]
    dsimp only
    have hm : ¬ a0.marks < 0 := by unfold TreeWorld.marks; omega
    rw [gd_pos m1, gd_pos m2, gd_pos m3, gd_pos m4, gd_pos m5, gd_pos m6, gcall_pos (by simpa using hm), bd_val, if_neg (by simp [hm]), markTreeMindS_p (by omega) (by omega), bd_val, gd_pos mkL_len]
    dsimp only
    rw [heldTreeMindS_p (by omega) (by omega), bd_val, if_neg (by simp; omega), if_neg (by simp), bd_val, if_neg (by simp; omega), if_neg (by simp)]

end Go.Proofs.Ytbolhcpkpncmfab
