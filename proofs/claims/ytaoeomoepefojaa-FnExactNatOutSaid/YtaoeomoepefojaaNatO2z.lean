/-
  Plain Lean: NatOut of the program, whole; the row FnExactNatOut.
-/
import Derived.Test.YtaoeomoepefojaaKz2
import Derived.Test.YtaoeomoepefojaaNatOz
import Derived.Test.YtaoeomoepefojaaArgz
import Derived.Test.YtaoeomoepefojaaNatMz
set_option linter.all false
namespace Go.Proofs.Ytaoeomoepefojaa
open Go Go.Ab
set_option maxHeartbeats 400000

theorem outOf_now {b : NatBook} (f : NatFlow) : (outOf b f).1.Addr = b.Addr ∧ (outOf b f).1.Len = b.Len ∧ (outOf b f).1.Own = b.Own ∧ (outOf b f).1.Low = b.Low ∧ (outOf b f).1.High = b.High ∧ (outOf b f).1.Now = b.Now := by
  unfold outOf
  split
  · exact ⟨rfl, rfl, rfl, rfl, rfl, rfl⟩
  · split
    · exact ⟨rfl, rfl, rfl, rfl, rfl, rfl⟩
    · split
      · exact ⟨rfl, rfl, rfl, rfl, rfl, rfl⟩
      · split <;> exact ⟨rfl, rfl, rfl, rfl, rfl, rfl⟩
theorem natOut_lens {b : NatBook} (f : NatFlow) : (natOut b f).1.Doors.length ≤ b.Doors.length ∧ (natOut b f).1.Entries.length ≤ b.Entries.length + 1 := by
  unfold natOut outOf
  split
  · exact ⟨Nat.zero_le _, Nat.zero_le _⟩
  · split
    · exact ⟨Nat.le_refl _, Nat.le_succ _⟩
    · split
      · exact ⟨Nat.le_refl _, Nat.le_succ _⟩
      · split
        · exact ⟨Nat.le_refl _, Nat.le_succ _⟩
        · split
          · exact ⟨Nat.le_refl _, by simp⟩
          · split
            · exact ⟨Nat.le_refl _, Nat.le_succ _⟩
            · split
              · exact ⟨Nat.le_refl _, Nat.le_succ _⟩
              · exact ⟨Nat.le_refl _, by dsimp only; rw [len_putE]; exact Nat.le_refl _⟩
theorem implOut_p {b : NatBook} (hd : b.Doors.length ≤ 9223372036854775807) (he : b.Entries.length ≤ 9223372036854775807) (f : NatFlow) : impl_NatOut_pu_o05_07_m b f = some (natOut b f) := by
  unfold impl_NatOut_pu_o05_07_m natOut
  rw [implBookOk_p hd he, bd_val]
  cases hok : b.ok
  · rfl
  · obtain ⟨hd, he⟩ := ok_lens hok
    have hf := ok_frame hok
    have hn := (frameOk_spec hf).1
    rw [if_neg (c := (!true) = true) (by decide), if_neg (c := true = false) (by decide), implCopyB_q (by omega) (by omega), bd_val, implFlowOk_p, bd_val]
    cases h1 : flowOk f
    · rfl
    · rw [if_neg (c := (!true) = true) (by decide), if_neg (c := true = false) (by decide), implInside_p hn, bd_val, implInside_p hn, gcall_nb, bd_val]
      by_cases h2 : b.inside f.From = false ∨ b.inside f.To = true ∨ f.To = b.Own
      · rw [if_pos h2, if_pos]
        · rfl
        · cases q1 : b.inside f.From <;> cases q2 : b.inside f.To <;> simp_all
      · rw [if_neg h2, if_neg (by
          cases q1 : b.inside f.From <;> cases q2 : b.inside f.To <;> simp_all)]
        obtain ⟨e1, e2, e3⟩ := implPort_p hok f
        obtain ⟨n1, n2, n3, n4, n5, n6⟩ := outOf_now (b := b) f
        rw [e1, bd_val]
        generalize outOf b f = x at *
        obtain ⟨⟨b1, b2, b3, b4, b5, b6, b7, b8⟩, g, c⟩ := x
        dsimp only at *
        subst n1 n2 n3 n4 n5 n6
        by_cases h3 : c = 0
        · subst h3
          rw [if_neg (by simp)]
          have := e2 rfl
          rw [this]
          rfl
        · rw [if_pos (by simpa using h3), e3 h3]
          rfl

theorem fnExactNatOut_p {a0 : NatBook} {a1 : NatFlow} (h : a0.Fit) (_ : a1.Fit) : laws_FnExactNatOut_m a0 a1 = some true := by
  obtain ⟨hd, he⟩ := fit_len h
  unfold laws_FnExactNatOut_m
  obtain ⟨x, hx, hl⟩ := szNatBook_p hd he
  rw [hx, bd_val]
  by_cases h0 : x < 0
  · rw [if_pos (by simpa using h0)]
  · obtain ⟨h1, h2⟩ := hl h0
    have lens := natOut_lens (b := a0) a1
    have he17 : (natOut a0 a1).1.Entries.length ≤ 1048576 := by
      cases hok : a0.ok
      · unfold natOut; rw [hok]; exact Nat.zero_le _
      · have := (ok_lens hok).2; omega
    have hv : (natOut a0 a1).1.Doors.length ≤ 1048576 ∧ (natOut a0 a1).1.Entries.length ≤ 1048576 := ⟨by omega, he17⟩
    obtain ⟨m1, m2⟩ := marked_lens (b := a0)
    obtain ⟨n1, n2⟩ := marked_lens (b := (natOut a0 a1).1)
    rw [if_neg (by simpa using h0)]
    simp only [toNatBook_p h1 h2, toNatFlow_p, specOut_p, implOut_p hd he, eqNatBook_p h1 h2, eqNatBook_p hv.1 hv.2, eqNatFlow_p, bd_val, decide_true, Bool.not_true, bne_self_eq_false, Bool.or_self, Bool.false_eq_true, if_false, gcall_val]
    rw [markNatBook_p h1 h2, bd_val]
    dsimp only
    have hm : ¬ a0.marks < 0 := by unfold NatBook.marks; omega
    have hm2 : ¬ (natOut a0 a1).1.marks < 0 := by unfold NatBook.marks; omega
    rw [gd_pos m1, gd_pos m2]
    simp only [decide_eq_false hm, if_true, bd_val, Bool.not_true, Bool.or_self, if_neg, Bool.false_eq_true, if_false]
    rw [markNatBook_p hv.1 hv.2, bd_val]
    dsimp only
    rw [gd_pos n1, gd_pos n2]
    simp only [heldNatBook_p hv.1 hv.2, bd_val]
    simp [hm2]

end Go.Proofs.Ytaoeomoepefojaa
