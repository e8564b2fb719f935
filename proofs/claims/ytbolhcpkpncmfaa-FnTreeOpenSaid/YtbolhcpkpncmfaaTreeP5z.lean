/-
  Plain Lean: TreeThink says what the reference says; rows FnExactTreeWorldOk and FnExactTreeThink by the arguments' facts.
-/
import Derived.Test.YtbolhcpkpncmfaaKz5
import Derived.Test.YtbolhcpkpncmfaaMkz
import Derived.Test.YtbolhcpkpncmfaaTreeP4z
import Derived.Test.YtbolhcpkpncmfaaArgz
set_option linter.all false
namespace Go.Proofs.Ytbolhcpkpncmfaa
open Go Go.Ab
set_option maxHeartbeats 400000

structure TSt where
  root : Int
  cost : Int
  age : Int
  link : Int
  id : Int
structure WOk (w : TreeWorld) : Prop where
  l : w.Links.length ≤ 9223372036854775807
  link : linksOk w.Bridges.length w.Links = true
  a : w.AtA.length = w.Links.length
  b : w.AtB.length = w.Links.length
  ends : ∀ i, i < w.Links.length → endsOk w i = true
  br : ∀ i, i < w.Bridges.length → bridgeOk w i = true
theorem wOk {w : TreeWorld} (h : w.Len 9223372036854775807) (h1 : worldOk w = true) : WOk w := by
  simp only [worldOk, Bool.and_eq_true, decide_eq_true_eq] at h1
  obtain ⟨⟨⟨⟨⟨a1, a2⟩, ⟨a3, a4⟩, a5⟩, a6⟩, a7⟩, a8⟩ := h1
  exact ⟨h.l, a1, a3, a4, fun i hi => allR_get a8 hi, fun i hi => allR_get a2 hi⟩
theorem WOk.slot {w : TreeWorld} (h : WOk w) {i : Nat} (hi : i < w.Links.length) (e : Int) : slotOk (slotAt w i e) = true := by
  have := h.ends i hi
  simp only [endsOk, endOk, Bool.and_eq_true] at this
  unfold slotAt
  split
  · exact this.1.1
  · exact this.2.1
theorem WOk.vec {w : TreeWorld} (h : WOk w) {i : Nat} (hi : i < w.Links.length) (e : Int) : vecOk (slotAt w i e).Vector = true := by
  have := h.slot hi e
  simp only [slotOk, Bool.and_eq_true] at this
  exact this.1.1
theorem vec_in {v : TreeVector} (h : vecOk v = true) : 0 ≤ v.Root ∧ v.Root ≤ 1000 ∧ 0 ≤ v.Cost ∧ v.Cost ≤ 1000 ∧ 0 ≤ v.Age ∧ v.Age ≤ 10 ∧ (v.Root = 0 → nothing v = true) ∧ (nothing v = true → v.Root = 0) := by
  have := vecOk_root h
  unfold vecOk at h
  simp only [Bool.or_eq_true, Bool.and_eq_true, inR_iff] at h
  rcases h with h | h
  · have h' := h
    simp [nothing] at h'
    refine ⟨by omega, by omega, by omega, by omega, by omega, by omega, fun _ => h, fun _ => by omega⟩
  · refine ⟨by omega, by omega, by omega, by omega, by omega, by omega, fun e => by rw [this, e]; rfl, fun e => by simpa [this] using e⟩
theorem selfMind_p (a : Int) : impl_selfMind_m a = some ⟨⟨a, 0, 0⟩, -1⟩ := rfl
theorem compare_lt {r c a r' c' a' : Int} (h : 0 ≤ r ∧ r ≤ 1000 ∧ 0 ≤ c ∧ c ≤ 1000) (h' : 0 ≤ r' ∧ r' ≤ 1000 ∧ 0 ≤ c' ∧ c' ≤ 1000) : impl_TreeVector_compare_m ⟨r, c, a⟩ ⟨r', c', a'⟩ = some (if r = r' then c - c' else r - r') := by
  unfold impl_TreeVector_compare_m
  dsimp only
  rw [wrap_i64 (by omega) (by omega), wrap_i64 (by omega) (by omega)]
  by_cases e : r = r'
  · rw [if_neg (by simp [e]), if_pos e]
  · rw [if_pos (by simp [e]), if_neg e]

end Go.Proofs.Ytbolhcpkpncmfaa
