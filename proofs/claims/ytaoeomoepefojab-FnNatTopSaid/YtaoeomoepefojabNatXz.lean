/-
  Plain Lean: there and back: the row FnNatThere.
-/
import Derived.Test.YtaoeomoepefojabKz3
import Derived.Test.YtaoeomoepefojabNatPcz
import Derived.Test.YtaoeomoepefojabNatO2bz
import Derived.Test.YtaoeomoepefojabNatPo4z
set_option linter.all false
namespace Go.Proofs.Ytaoeomoepefojab
open Go Go.Ab
set_option maxHeartbeats 400000

theorem wvBook_q {b : NatBook} (hd : b.Doors.length ≤ 1048576) (he : b.Entries.length ≤ 1048576) : laws_wvBook_m b b = some true := by
  unfold laws_wvBook_m
  rw [if_neg (by simp), lp_all b.Doors.length (fun _ => true) (.inl ()) (.inr ()) (fun i hi _ => ?_) (fun _ => by rw [if_neg (by simp)]), if_pos (allR_of fun _ _ => rfl), bd_val]
  · dsimp only
    rw [lp_all b.Entries.length (fun _ => true) (.inl ()) (.inr ()) (fun i hi _ => ?_) (fun _ => by rw [if_neg (by simp)]), if_pos (allR_of fun _ _ => rfl), bd_val]
    rw [if_pos (by simp; omega), gd_pos (by omega), gd_pos (by omega), if_neg (by simp), wrap_succ hi (by omega), if_pos rfl]
  · rw [if_pos (by simp; omega), gd_pos (by omega), gd_pos (by omega), if_neg (by simp), wrap_succ hi (by omega), if_pos rfl]
theorem natOut_code {b : NatBook} (f : NatFlow) (h : (natOut b f).2.2 ≠ 0) : (natOut b f).2.1 = noFlow ∧ ((natOut b f).2.2 = 1 ∨ (natOut b f).1 = b) := by
  cases hok : b.ok
  · have : natOut b f = (noBook0, noFlow, 1) := by unfold natOut; rw [if_pos hok]
    rw [this]; exact ⟨rfl, .inl rfl⟩
  · rcases natOut_cases hok f with ⟨c, _, e⟩ | ⟨g, w⟩
    · rw [e]; exact ⟨rfl, .inr rfl⟩
    · generalize natOut b f = x at *
      cases w <;> exact absurd rfl h
theorem flow_self (f : NatFlow) : ((f.Kind == f.Kind) && ((f.From == f.From) && ((f.FromPort == f.FromPort) && ((f.To == f.To) && ((f.ToPort == f.ToPort) && true))))) = true := by simp

end Go.Proofs.Ytaoeomoepefojab
