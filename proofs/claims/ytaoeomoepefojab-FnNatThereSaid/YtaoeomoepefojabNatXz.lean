/-
  Plain Lean: there and back: the row FnNatThere.
-/
import Derived.Test.YtaoeomoepefojabKz3
import Derived.Test.YtaoeomoepefojabNatPo4z
import Derived.Test.YtaoeomoepefojabNatO2z
set_option linter.all false
namespace Go.Proofs.Ytaoeomoepefojab
open Go Go.Ab
set_option maxHeartbeats 400000

theorem wvBook_q {b : NatBook} (hd : b.Doors.length ≤ 1048576) (he : b.Entries.length ≤ 1048576) : laws_wvBook_m b b = some true := by
  unfold laws_wvBook_m
  rw [if_neg (by simp), lp_all b.Doors.length (fun _ => true) (.inl ()) (.inr ()) (fun i hi _ => ?_) (fun _ => by rw [if_neg (by simp)]), if_pos (allR_of fun _ _ => rfl), bd_val]
  · dsimp only
    rw [lp_all b.Entries.length (fun _ => true) (.inl ()) (.inr ()) (fun i hi _ => ?_) (fun _ => by rw [if_neg (by simp)]), if_pos (allR_of fun _ _ => rfl), bd_val]
    rw [if_pos (by simp; omega), gd_pos (by omega), gd_pos (by omega), if_neg (by simp), wrap_succ hi (by omega), if_pos rfl]
  · rw [if_pos (by simp; omega), gd_pos (by omega), gd_pos (by omega), if_neg (by simp), wrap_succ hi (by omega), if_pos rfl]
theorem drawNatOut_post {b : List Int} (hb : b.length ≤ 9223372036854775807) (h : ∀ x ∈ b, FitsB x) : Post (spec_DrawNatOut_m b) fun x => Bk x.1 3 21 := by
  unfold spec_DrawNatOut_m
  refine .bd (open_post hb h) fun x1 h1 => .bd (any_post h1 (by omega)) fun x2 ⟨b2, h2⟩ => .bd (outFlow_post h2 (by omega) _) fun x3 h3 => .bd (pick_post h3 (by omega) (by omega)) fun x4 ⟨_, h4⟩ => .ite (fun _ => ?_) fun _ => .ret b2
  exact .bd (spoilFlow_post h4 (by omega) _) fun _ _ => .ret b2
theorem natOut_code {b : NatBook} (f : NatFlow) (h : (natOut b f).2.2 ≠ 0) : (natOut b f).2.1 = noFlow ∧ ((natOut b f).2.2 = 1 ∨ (natOut b f).1 = b) := by
  cases hok : b.ok
  · have : natOut b f = (noBook0, noFlow, 1) := by unfold natOut; rw [if_pos hok]
    rw [this]; exact ⟨rfl, .inl rfl⟩
  · rcases natOut_cases hok f with ⟨c, _, e⟩ | ⟨g, w⟩
    · rw [e]; exact ⟨rfl, .inr rfl⟩
    · generalize natOut b f = x at *
      cases w <;> exact absurd rfl h
theorem flow_self (f : NatFlow) : ((f.Kind == f.Kind) && ((f.From == f.From) && ((f.FromPort == f.FromPort) && ((f.To == f.To) && ((f.ToPort == f.ToPort) && true))))) = true := by simp
theorem fnNatThere_p {a0 : List Int} (h : a0.length ≤ 9223372036854775807 ∧ ∀ x ∈ a0, FitsB x) : laws_FnNatThere_m a0 = some true := by
  have key : Post (laws_FnNatThere_m a0) fun x => x = true := by
    unfold laws_FnNatThere_m
    refine .ite (fun _ => .ret rfl) fun _ => .bd (drawNatOut_post h.1 h.2) fun x hb => ?_
    obtain ⟨b, f⟩ := x
    have b1 := hb.d
    have b2 := hb.e
    dsimp only at b1 b2 ⊢
    have lens := natOut_lens (b := b) f
    rw [implOut2_p (by omega) (by omega), bd_val, specOut_p, bd_val, wvBook_q (by omega) (by omega), flow_self, gcall_val, bd_val]
    have hcode := natOut_code (b := b) f
    have hthere := fun hok => there (b := b) hok (f := f)
    have hbad : b.ok = false → (natOut b f).2.2 = 1 := fun hk => by unfold natOut; rw [if_pos hk]
    generalize hx : natOut b f = x at *
    obtain ⟨y, g, c⟩ := x
    dsimp only at *
    refine .ite (fun k => by simp at k) fun _ => ?_
    by_cases hc : c = 0
    · subst hc
      rw [if_neg (by simp)]
      have hok : b.ok = true := by
        cases hk : b.ok
        · exact absurd (hbad hk) (by decide)
        · rfl
      obtain ⟨t1, t2, t3, t4, t5⟩ := hthere hok rfl
      rw [show impl_NatBack_m g = some (back g) from rfl, bd_val, implNatIn_p (by omega) (by omega), bd_val, t1]
      dsimp only
      rw [show impl_NatBack_m (back f) = some f from rfl, gcall_val, bd_val]
      refine .ite (fun k => by simp [t2, t3, t4] at k) fun _ => ?_
      rw [implOut_p (by omega) (by omega), bd_val, t5]
      dsimp only
      rw [flow_self, wvBook_q (by omega) (by omega), gcall_val, bd_val]
      exact .ret (by simp)
    · rw [if_pos (by simpa using hc)]
      obtain ⟨e1, e2⟩ := hcode hc
      subst e1
      rcases e2 with e2 | e2
      · rw [e2, gcall_neg (by simp), bd_val]
        exact .ret (by simp [noFlow])
      · rw [e2, wvBook_q (by omega) (by omega)]
        refine .bd (Q := fun z => c = 1 ∨ z = true) (.gcall (fun _ => .ret (.inr rfl)) fun k => .inl ?_) fun z hz => .ret ?_
        · simpa [noFlow] using k
        · rcases hz with hz | hz <;> simp [noFlow, hz]
  obtain ⟨x, e, rfl⟩ := key
  exact e

end Go.Proofs.Ytaoeomoepefojab
