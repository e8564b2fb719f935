/-
  Plain Lean: NatIn says what the reference says; the three rows by the arguments' facts.
-/
import Derived.Test.YtaoeomoepefojabKz3
import Derived.Test.YtaoeomoepefojabNatP3z
import Derived.Test.YtaoeomoepefojabArgz
set_option linter.all false
namespace Go.Proofs.Ytaoeomoepefojab
open Go Go.Ab
set_option maxHeartbeats 400000

theorem specFlowOk_p (f : NatFlow) : spec_NatFlowOk_m f = some (flowOk f) := by
  unfold spec_NatFlowOk_m flowOk
  simp only [l21In_p, bd_val, gcall_b]
  congr 1; grind

def doorHit (b : NatBook) (f : NatFlow) (i : Nat) : Bool := (b.Doors.getD i default).Kind == f.Kind && (b.Doors.getD i default).Outer == f.ToPort
def entryHit (b : NatBook) (f : NatFlow) (i : Nat) : Bool := live b (b.Entries.getD i default) && (b.Entries.getD i default).Kind == f.Kind && (b.Entries.getD i default).Peer == f.From && (b.Entries.getD i default).PeerPort == f.FromPort && (b.Entries.getD i default).Outer == f.ToPort

/-- What a book does with a flow from outside. -/
def natIn (b : NatBook) (f : NatFlow) : NatFlow × Int :=
  if b.ok = false then (⟨0, 0, 0, 0, 0⟩, 1)
  else if flowOk f = false then (⟨0, 0, 0, 0, 0⟩, 2)
  else if f.To ≠ b.Own ∨ b.inside f.From = true ∨ f.From = b.Own then (⟨0, 0, 0, 0, 0⟩, 3)
  else match firstR (doorHit b f) b.Doors.length with
    | some i => (⟨f.Kind, f.From, f.FromPort, (b.Doors.getD i default).Inner, (b.Doors.getD i default).InnerPort⟩, 0)
    | none => match firstR (entryHit b f) b.Entries.length with
      | some i => (⟨f.Kind, f.From, f.FromPort, (b.Entries.getD i default).Inner, (b.Entries.getD i default).InnerPort⟩, 0)
      | none => (⟨0, 0, 0, 0, 0⟩, 6)

theorem implNatIn_p {b : NatBook} (hd : b.Doors.length ≤ 9223372036854775807) (he : b.Entries.length ≤ 9223372036854775807) (f : NatFlow) : impl_NatIn_m b f = some (natIn b f) := by
  unfold impl_NatIn_m natIn
  rw [implBookOk_p hd he, bd_val]
  rcases (Bool.eq_false_or_eq_true b.ok).symm with h | h
  · simp [h]
  · rw [h, if_neg (by decide), if_neg (by decide), implFlowOk_p, bd_val]
    rcases (Bool.eq_false_or_eq_true (flowOk f)).symm with h1 | h1
    · simp [h1]
    · rw [h1, if_neg (by decide), if_neg (by decide), implInside_p (frameOk_spec (ok_frame h)).1, gcall_nb, bd_val]
      by_cases h2 : f.To ≠ b.Own ∨ b.inside f.From = true ∨ f.From = b.Own
      · rw [if_pos (by grind), if_pos h2]
      · rw [if_neg (by grind), if_neg h2]
        rw [lp_first b.Doors.length (doorHit b f) (fun i => .inl ((b.Doors.getD i default).Inner, (b.Doors.getD i default).InnerPort)) (.inr ()) (fun i hi => ?_) (by rw [if_neg (by simp)]), bd_val]
        · cases hf : firstR (doorHit b f) b.Doors.length with
          | some i => rfl
          | none =>
            simp only [Option.map_none, Option.getD_none]
            rw [lp_first b.Entries.length (entryHit b f) (fun i => .inl (f.Kind, f.From, f.FromPort, (b.Entries.getD i default).Inner, (b.Entries.getD i default).InnerPort)) (.inr ()) (fun i hi => ?_) (by rw [if_neg (by simp)]), bd_val]
            · cases hg : firstR (entryHit b f) b.Entries.length <;> rfl
            · rw [if_pos (by simp; omega), gd_pos (by omega), Int.toNat_natCast, implLives_p, bd_val, wrap_succ hi he]
              rcases (Bool.eq_false_or_eq_true (entryHit b f i)).symm with h3 | h3
              · rw [h3, if_neg]
                · rfl
                · unfold entryHit at h3; rw [h3]; decide
              · rw [h3, if_pos]
                · unfold entryHit at h3
                  simp only [Bool.and_eq_true, beq_iff_eq] at h3
                  obtain ⟨⟨⟨⟨_, e1⟩, e2⟩, e3⟩, _⟩ := h3
                  rw [← e1, ← e2, ← e3]; rfl
                · exact h3
        · rw [if_pos (by simp; omega), gd_pos (by omega), Int.toNat_natCast, wrap_succ hi hd]
          rcases (Bool.eq_false_or_eq_true (doorHit b f i)).symm with h3 | h3
          · rw [h3, if_neg]
            · rfl
            · unfold doorHit at h3; rw [h3]; decide
          · rw [h3, if_pos]
            · rfl
            · exact h3

end Go.Proofs.Ytaoeomoepefojab
