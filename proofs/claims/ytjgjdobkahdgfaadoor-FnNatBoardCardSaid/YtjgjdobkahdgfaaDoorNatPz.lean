/-
  Plain Lean: what NatBookOk and NatInside say, impl's and the reference's alike; no condition but those typed.
-/
import Derived.Test.YtjgjdobkahdgfaaDoorKz3
set_option linter.all false
namespace Go.Proofs.YtjgjdobkahdgfaaDoor
open Go Go.Ab
set_option maxHeartbeats 400000
set_option maxRecDepth 100000

def netSize (len : Int) : Int := 2 ^ (16 - len).toNat
theorem netSize_pos (len : Int) : 0 < netSize len := by unfold netSize; exact Int.pow_pos (by omega)
theorem netSize_le {len : Int} (h : 0 ≤ len) : netSize len ≤ 65536 := by
  unfold netSize
  have := pow2_le (a := (16 - len).toNat) (b := 16) (by omega)
  simpa using this
def netOk (p : NetPrefix) : Bool := decide (0 ≤ p.Len) && decide (p.Len ≤ 16) && decide (0 ≤ p.Addr) && decide (p.Addr ≤ 65535) && (p.Addr.tmod (netSize p.Len) == 0)
def netHas (p : NetPrefix) (a : Int) : Bool := decide (p.Addr ≤ a) && decide (a < p.Addr + netSize p.Len)
theorem netOk_spec {p : NetPrefix} (h : netOk p = true) : 0 ≤ p.Len ∧ p.Len ≤ 16 ∧ 0 ≤ p.Addr ∧ p.Addr ≤ 65535 := by
  simp [netOk] at h
  omega

@[simp] theorem within_p (a lo hi : Int) : impl_within_m a lo hi = some (decide (lo ≤ a) && decide (a ≤ hi)) := rfl
@[simp] theorem l21In_p (a lo hi : Int) : spec_l21In_m a lo hi = some (decide (lo ≤ a) && decide (a ≤ hi)) := by simp [spec_l21In_m]

theorem l22Size_p {n : Int} (h0 : 0 ≤ n) (h1 : n ≤ 16) : spec_l22Size_m n = some (netSize n) := by
  obtain ⟨k, rfl⟩ : ∃ k : Nat, n = k := ⟨n.toNat, by omega⟩
  have : k = 0 ∨ k = 1 ∨ k = 2 ∨ k = 3 ∨ k = 4 ∨ k = 5 ∨ k = 6 ∨ k = 7 ∨ k = 8 ∨ k = 9 ∨ k = 10 ∨ k = 11 ∨ k = 12 ∨ k = 13 ∨ k = 14 ∨ k = 15 ∨ k = 16 := by omega
  rcases this with rfl | rfl | rfl | rfl | rfl | rfl | rfl | rfl | rfl | rfl | rfl | rfl | rfl | rfl | rfl | rfl | rfl <;> exact (bd_of (lp_iff.2 ⟨18, rfl⟩)).trans rfl

theorem size_p {p : NetPrefix} (h0 : 0 ≤ p.Len) (h1 : p.Len ≤ 16) : impl_NetPrefix_size_m p = some (netSize p.Len) := by
  have e : IntKind.i64.wrap (16 - p.Len) = 16 - p.Len := wrap_i64 (by omega) (by omega)
  have hb : IntKind.bits .i64 = 64 := rfl
  unfold impl_NetPrefix_size_m
  rw [e, gd_pos (by omega), hb, Nat.min_eq_left (by omega), Int.one_mul]
  have h := netSize_le h0
  have hp := netSize_pos p.Len
  unfold netSize at *
  rw [wrap_i64 (by omega) (by omega)]

theorem netOk_p (p : NetPrefix) : impl_NetOk_m p = some (netOk p) := by
  unfold impl_NetOk_m
  simp only [within_p, bd_val]
  by_cases h : 0 ≤ p.Len ∧ p.Len ≤ 16
  · have hs := size_p h.1 h.2
    have hp := netSize_pos p.Len
    rw [show (decide (0 ≤ p.Len) && decide (p.Len ≤ 16)) = true by simp [h]]
    simp only [gcall, Bool.true_and, if_true, bd_val, hs]
    by_cases h2 : (decide (0 ≤ p.Addr) && decide (p.Addr ≤ 65535)) = true
    · rw [if_pos h2, bd_val, gd_pos (fun _ => by omega), h2]
      simp at h2
      simp [netOk, h, h2]
    · rw [if_neg h2, bd_val, gd_pos (fun h => absurd h h2)]
      simp at h2
      simp [netOk, h]
      grind
  · rw [show (decide (0 ≤ p.Len) && decide (p.Len ≤ 16)) = false by simp; omega]
    simp [gcall, gd, netOk]
    grind

theorem has_p {p : NetPrefix} (h : netOk p = true) (a : Int) : impl_NetPrefix_has_m p a = some (netHas p a) := by
  obtain ⟨h1, h2, h3, h4⟩ := netOk_spec h
  have hs := netSize_le h1
  have hp := netSize_pos p.Len
  unfold impl_NetPrefix_has_m impl_NetPrefix_last_m
  rw [size_p h1 h2]
  simp only [bd_val, within_p]
  rw [wrap_i64 (n := p.Addr + netSize p.Len) (by omega) (by omega), wrap_i64 (by omega) (by omega)]
  simp [netHas]
  grind

@[reducible] def NatBook.net (b : NatBook) : NetPrefix := ⟨b.Addr, b.Len⟩
def NatBook.inside (b : NatBook) (a : Int) : Bool := netHas b.net a
theorem implInside_p {b : NatBook} (h : netOk b.net = true) (a : Int) : impl_NatBook_inside_m b a = some (b.inside a) := by
  unfold impl_NatBook_inside_m
  rw [has_p h]; rfl
theorem specInside_p {b : NatBook} (h : netOk b.net = true) (a : Int) : spec_l22Inside_m b a = some (b.inside a) := by
  obtain ⟨h1, h2, h3, h4⟩ : 0 ≤ b.Len ∧ b.Len ≤ 16 ∧ 0 ≤ b.Addr ∧ b.Addr ≤ 65535 := netOk_spec h
  have hs := netSize_le h1
  have hp := netSize_pos b.Len
  unfold spec_l22Inside_m
  by_cases ha : a ≥ b.Addr
  · simp only [gcall, ha, decide_true, if_true, l22Size_p h1 h2, bd_val]
    rw [wrap_i64 (by omega) (by omega)]
    simp [NatBook.inside, netHas]
    intro _; exact ha
  · simp [gcall, ha, NatBook.inside, netHas]
    try omega

def NatBook.frameOk (b : NatBook) : Bool := netOk b.net && decide (0 ≤ b.Own) && decide (b.Own ≤ 65535) && !b.inside b.Own && decide (1 ≤ b.Low) && decide (b.Low ≤ b.High) && decide (b.High ≤ 65535) && decide (0 ≤ b.Now) && decide (b.Now ≤ 1000000)
theorem frameOk_spec {b : NatBook} (h : b.frameOk = true) : netOk b.net = true ∧ 0 ≤ b.Now ∧ b.Now ≤ 1000000 := by
  simp [NatBook.frameOk] at h
  exact ⟨by simp [h], by omega, by omega⟩

theorem specFrame_p (b : NatBook) : spec_l22Frame_m b = some b.frameOk := by
  unfold spec_l22Frame_m
  simp only [l21In_p, bd_val]
  by_cases h : (0 ≤ b.Len ∧ b.Len ≤ 16) ∧ 0 ≤ b.Addr ∧ b.Addr ≤ 65535
  · obtain ⟨⟨h1, h2⟩, h3, h4⟩ := h
    have hp := netSize_pos b.Len
    simp only [h1, h2, h3, h4, decide_true, Bool.true_and, Bool.not_true, gcall, if_true, bd_val, Bool.false_or, Bool.or_false, l22Size_p h1 h2]
    rw [gd_pos (fun _ => by omega)]
    by_cases hm : b.Addr.tmod (netSize b.Len) = 0
    · have hn : netOk b.net = true := by simp [netOk, h1, h2, h3, h4, hm]
      simp only [hm, bne_self_eq_false, Bool.false_eq_true, if_false, specInside_p hn]
      by_cases ho : 0 ≤ b.Own ∧ b.Own ≤ 65535
      · simp only [ho.1, ho.2, decide_true, Bool.true_and, Bool.not_true, if_true, bd_val, Bool.false_or]
        by_cases hi : b.inside b.Own = true
        · simp [hi, NatBook.frameOk]
        · simp [hi, NatBook.frameOk, hn, ho]
          by_cases hl : 1 ≤ b.Low ∧ b.Low ≤ b.High ∧ b.High ≤ 65535
          · simp [hl]
          · simp [show ¬ ((1 ≤ b.Low ∧ b.Low ≤ b.High) ∧ b.High ≤ 65535) by omega]
      · simp [NatBook.frameOk, show (decide (0 ≤ b.Own) && decide (b.Own ≤ 65535)) = false by simp; omega]
        grind
    · have hn : netOk b.net = false := by simp [netOk, hm]
      simp [hm, NatBook.frameOk, hn]
  · have hn : netOk b.net = false := by simp [netOk]; grind
    by_cases hl : 0 ≤ b.Len ∧ b.Len ≤ 16
    · simp [hl, gcall, gd, show (decide (0 ≤ b.Addr) && decide (b.Addr ≤ 65535)) = false by simp; omega, NatBook.frameOk, hn]
    · simp [gcall, gd, show (decide (0 ≤ b.Len) && decide (b.Len ≤ 16)) = false by simp; omega, NatBook.frameOk, hn]

end Go.Proofs.YtjgjdobkahdgfaaDoor
