/-
  Plain Lean: the row FnNatIn.
-/
import Derived.Test.YtkcmmigdhkalnaaKz8
import Derived.Test.YtkcmmigdhkalnaaNatPo4z
set_option linter.all false
namespace Go.Proofs.Ytkcmmigdhkalnaa
open Go Go.Ab
set_option maxHeartbeats 400000

theorem door_in {b : NatBook} (h : b.ok = true) {i : Nat} (hi : i < b.Doors.length) : b.inside (b.Doors.getD i default).Inner = true := by
  simp only [NatBook.ok, NatBook.doorsOk, Bool.and_eq_true] at h
  have := allR_get h.1.2.2 hi
  simp only [doorAt, doorOk, Bool.and_eq_true] at this
  simp_all
theorem entry_in {b : NatBook} (h : b.ok = true) {i : Nat} (hi : i < b.Entries.length) : b.inside (b.Entries.getD i default).Inner = true := by
  simp only [NatBook.ok, NatBook.entriesOk, Bool.and_eq_true] at h
  have := allR_get h.2.2 hi
  simp only [entryAt, entryOk, Bool.and_eq_true] at this
  simp_all

theorem natIn_bad {b : NatBook} (f : NatFlow) (h : b.ok = false) : (natIn b f).2 = 1 := by
  unfold natIn
  rw [if_pos h]
theorem natIn_zero (b : NatBook) (f : NatFlow) : (natIn b f).2 = 0 ∨ (natIn b f).1 = ⟨0, 0, 0, 0, 0⟩ := by
  unfold natIn
  split
  · exact .inr rfl
  · split
    · exact .inr rfl
    · split
      · exact .inr rfl
      · split
        · exact .inl rfl
        · split
          · exact .inl rfl
          · exact .inr rfl
theorem natIn_in {b : NatBook} (f : NatFlow) (hok : b.ok = true) (h : (natIn b f).2 = 0) : b.inside (natIn b f).1.To = true ∧ (natIn b f).1.From = f.From ∧ (natIn b f).1.FromPort = f.FromPort ∧ (natIn b f).1.Kind = f.Kind := by
  revert h
  unfold natIn
  split
  · intro h; exact absurd h (by decide)
  · split
    · intro h; exact absurd h (by decide)
    · split
      · intro h; exact absurd h (by decide)
      · split
        · rename_i i hi
          intro _
          exact ⟨door_in hok (firstR_some hi).1, rfl, rfl, rfl⟩
        · split
          · rename_i i hi
            intro _
            exact ⟨entry_in hok (firstR_some hi).1, rfl, rfl, rfl⟩
          · intro h; exact absurd h (by decide)
theorem natIn_six {b : NatBook} (f : NatFlow) (h : (natIn b f).2 = 6) : (∀ k, k < b.Doors.length → doorHit b f k = false) ∧ ∀ k, k < b.Entries.length → entryHit b f k = false := by
  revert h
  unfold natIn
  split
  · intro h; exact absurd h (by decide)
  · split
    · intro h; exact absurd h (by decide)
    · split
      · intro h; exact absurd h (by decide)
      · split
        · intro h; exact absurd h (by dsimp only; decide)
        · rename_i hd
          split
          · intro h; exact absurd h (by dsimp only; decide)
          · rename_i he
            intro _
            exact ⟨firstR_none hd, firstR_none he⟩

theorem wvDoor_p {b : NatBook} (h : b.Doors.length ≤ 1048576) (f : NatFlow) (hn : ∀ k, k < b.Doors.length → doorHit b f k = false) : laws_wvDoor_m b f = some false := by
  unfold laws_wvDoor_m
  rw [lp_all b.Doors.length (fun i => !doorHit b f i) (.inl ()) (.inr ()) (fun i hi _ => ?_) (fun _ => by rw [if_neg (by simp)]), bd_val]
  · rw [allR_of fun k hk => by simp [hn k hk]]
    rfl
  · rw [if_pos (by simp; omega), gd_pos (by omega), gd_pos (fun _ => by omega), Int.toNat_natCast, wrap_succ hi (by omega)]
    have e : doorHit b f i = (((b.Doors.getD i default).Kind == f.Kind) && ((b.Doors.getD i default).Outer == f.ToPort)) := rfl
    rw [e]
    cases ((b.Doors.getD i default).Kind == f.Kind) && ((b.Doors.getD i default).Outer == f.ToPort) <;> rfl

theorem fnNatIn_p {a0 : List Int} (h : a0.length ≤ 9223372036854775807 ∧ ∀ x ∈ a0, FitsB x) : laws_FnNatIn_m a0 = some true := by
  unfold laws_FnNatIn_m
  by_cases h0 : ((a0.length : Nat) : Int) > 1048576
  · rw [if_pos (by simpa using h0)]
  · rw [if_neg (by simpa using h0)]
    obtain ⟨⟨b, f⟩, e, hb⟩ := drawNatIn_post h.1 h.2
    have hd := hb.d
    have hn := hb.e
    dsimp only at hd hn
    have hd' : b.Doors.length ≤ 9223372036854775807 := by omega
    have hn' : b.Entries.length ≤ 9223372036854775807 := by omega
    rw [e, bd_val]
    dsimp only
    rw [implNatIn_p hd' hn', bd_val, specNatIn_p hd' hn', bd_val]
    have hz := natIn_zero b f
    have h6 := natIn_six (b := b) f
    have hi := natIn_in (b := b) f
    have hbad := natIn_bad (b := b) f
    generalize natIn b f = z at *
    obtain ⟨g, c⟩ := z
    dsimp only at *
    rw [if_neg (by
      simp only [bne_self_eq_false, beq_self_eq_true, Bool.and_self, Bool.not_true, Bool.or_self, Bool.false_or, Bool.and_eq_true, bne_iff_ne, ne_eq, Bool.not_eq_true']
      rintro ⟨h1, h2⟩
      rcases hz with h | h
      · exact h1 h
      · rw [h] at h2; simp at h2), specBookOk_p, bd_val]
    cases hok : b.ok
    · rw [if_pos (by decide), hbad hok]; rfl
    · rw [if_neg (by decide)]
      by_cases h00 : c = 0
      · obtain ⟨i1, i2, i3, i4⟩ := hi hok h00
        rw [if_pos (by simpa using h00), implNatInside_p hd' hn', bd_val, hok, i1, i2, i3, i4]
        simp
      · rw [if_neg (by simpa using h00)]
        rw [lp_all b.Entries.length (fun _ => true) (.inl ()) (.inr ()) (fun i hil _ => ?_) (fun _ => by rw [if_neg (by simp)]), bd_val]
        · rw [allR_of fun _ _ => rfl]
          simp only [if_true]
          by_cases h66 : c = 6
          · rw [gcall_pos (by simp [h66]), wvDoor_p (by omega) f (h6 h66).1, bd_val]; simp
          · rw [gcall_neg (by simp [h66]), bd_val]; simp [h66]
        · rw [if_pos (by simp; omega), gd_pos (by omega), Int.toNat_natCast, wrap_succ hil hn', if_neg]
          · rfl
          · intro hh
            simp only [Bool.and_eq_true, decide_eq_true_eq, beq_iff_eq] at hh
            obtain ⟨⟨⟨⟨⟨a1, a2⟩, a3⟩, a4⟩, a5⟩, a6⟩ := hh
            have hl : live b (b.Entries.getD i default) = true := decide_eq_true a2
            have hx : entryHit b f i = true := by simp only [entryHit, hl, a3, a4, a5, a6, beq_self_eq_true, Bool.and_self]
            rw [(h6 a1).2 i hil] at hx
            exact Bool.noConfusion hx

end Go.Proofs.Ytkcmmigdhkalnaa
