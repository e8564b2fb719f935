/-
  Plain Lean: NatOut of the program, whole; at plain results.
-/
import Derived.Test.YtaoeomoepefojabKz3
import Derived.Test.YtaoeomoepefojabNatObz
set_option linter.all false
namespace Go.Proofs.Ytaoeomoepefojab
open Go Go.Ab
set_option maxHeartbeats 400000

theorem outOf_now {b : NatBook} (f : NatFlow) : (outOf b f).1.Addr = b.Addr ∧ (outOf b f).1.Len = b.Len ∧ (outOf b f).1.Own = b.Own ∧ (outOf b f).1.Low = b.Low ∧ (outOf b f).1.High = b.High ∧ (outOf b f).1.Now = b.Now := by
  unfold outOf
  split
  · exact ⟨rfl, rfl, rfl, rfl, rfl, rfl⟩
  · split
    · exact ⟨rfl, rfl, rfl, rfl, rfl, rfl⟩
    · split
      · exact ⟨rfl, rfl, rfl, rfl, rfl, rfl⟩
      · split <;> exact ⟨rfl, rfl, rfl, rfl, rfl, rfl⟩
theorem natOut_lens {b : NatBook} (f : NatFlow) : (natOut b f).1.Doors.length ≤ b.Doors.length ∧ (natOut b f).1.Entries.length ≤ b.Entries.length + 1 := by
  unfold natOut outOf
  split
  · exact ⟨Nat.zero_le _, Nat.zero_le _⟩
  · split
    · exact ⟨Nat.le_refl _, Nat.le_succ _⟩
    · split
      · exact ⟨Nat.le_refl _, Nat.le_succ _⟩
      · split
        · exact ⟨Nat.le_refl _, Nat.le_succ _⟩
        · split
          · exact ⟨Nat.le_refl _, by simp⟩
          · split
            · exact ⟨Nat.le_refl _, Nat.le_succ _⟩
            · split
              · exact ⟨Nat.le_refl _, Nat.le_succ _⟩
              · exact ⟨Nat.le_refl _, by dsimp only; rw [len_putE]; exact Nat.le_refl _⟩
theorem implOut2_p {b : NatBook} (hd : b.Doors.length ≤ 9223372036854775807) (he : b.Entries.length ≤ 9223372036854775807) (f : NatFlow) : impl_NatOut_m b f = some (natOut b f) := by
  unfold impl_NatOut_m natOut
  rw [implBookOk_p hd he, bd_val]
  cases hok : b.ok
  · rfl
  · obtain ⟨hd, he⟩ := ok_lens hok
    have hf := ok_frame hok
    have hn := (frameOk_spec hf).1
    rw [if_neg (c := (!true) = true) (by decide), if_neg (c := true = false) (by decide), implCopyB_q (by omega) (by omega), bd_val, implFlowOk_p, bd_val]
    cases h1 : flowOk f
    · rfl
    · rw [if_neg (c := (!true) = true) (by decide), if_neg (c := true = false) (by decide), implInside_p hn, bd_val, implInside_p hn, gcall_nb, bd_val]
      by_cases h2 : b.inside f.From = false ∨ b.inside f.To = true ∨ f.To = b.Own
      · rw [if_pos h2, if_pos]
        · rfl
        · cases q1 : b.inside f.From <;> cases q2 : b.inside f.To <;> simp_all
      · rw [if_neg h2, if_neg (by
          cases q1 : b.inside f.From <;> cases q2 : b.inside f.To <;> simp_all)]
        obtain ⟨e1, e2, e3⟩ := implPort_p hok f
        obtain ⟨n1, n2, n3, n4, n5, n6⟩ := outOf_now (b := b) f
        have e4 : (outOf b f).1.Doors = b.Doors := by
          unfold outOf
          split
          · rfl
          · split
            · rfl
            · split
              · rfl
              · split <;> rfl
        rw [e1, bd_val]
        generalize outOf b f = x at *
        obtain ⟨⟨b1, b2, b3, b4, b5, b6, b7, b8⟩, g, c⟩ := x
        dsimp only at *
        subst n1 n2 n3 n4 n5 n6 e4
        by_cases h3 : c = 0
        · subst h3
          rw [if_neg (by simp)]
          have := e2 rfl
          rw [this]
          rfl
        · rw [if_pos (by simpa using h3), e3 h3]
          rfl


end Go.Proofs.Ytaoeomoepefojab
