/-
  Plain Lean: the draws of books and flows always give something; the plays.
-/
import Derived.Test.YtjgjdobkahdgfaaDoorKz3
import Derived.Test.YtjgjdobkahdgfaaDoorNatPoz
set_option linter.all false
namespace Go.Proofs.YtjgjdobkahdgfaaDoor
open Go Go.Ab
set_option maxHeartbeats 400000

/-- A book's rows are so many at most. -/
structure Bk (b : NatBook) (d e : Int) : Prop where
  d : (b.Doors.length : Int) ≤ d
  e : (b.Entries.length : Int) ≤ e
theorem Bk.ok {b : NatBook} {d e : Int} (h : Bk b d e) (hd : d ≤ 1048576) (he : e ≤ 1048576) : BkOk b 1048576 := ⟨by have := h.d; omega, by have := h.e; omega⟩
theorem Bk.mono {b : NatBook} {d e d' e' : Int} (h : Bk b d e) (hd : d ≤ d') (he : e ≤ e') : Bk b d' e' := ⟨by have := h.d; omega, by have := h.e; omega⟩
theorem noBk {d e : Int} (hd : 0 ≤ d) (he : 0 ≤ e) : Bk ⟨0, 0, 0, 0, 0, [], 0, []⟩ d e := ⟨hd, he⟩
theorem frame_ports {b : NatBook} (h : b.frameOk = true) : 1 ≤ b.Low ∧ b.High ≤ 65535 := by
  simp [NatBook.frameOk] at h
  omega
theorem out_post {b : NatBook} {d e : Int} (h : Bk b d e) (hd : d ≤ 1048000) (he : e ≤ 1048000) (f : NatFlow) : Post (spec_NatOut_m b f) fun x => Bk x.1 d (e + 1) := by
  have h1 := h.d
  have h2 := h.e
  have hm : Bk b d (e + 1) := h.mono (Int.le_refl _) (by omega)
  unfold spec_NatOut_m
  rw [specBookOk_p, bd_val]
  refine .ite (fun _ => .ret (noBk (by omega) (by omega))) fun c => ?_
  have hok : b.ok = true := by simpa using c
  have hf := ok_frame hok
  rw [copy_post (h.ok (by omega) (by omega)) (Nat.le_refl _), bd_val, specFlowOk_p, bd_val]
  refine .ite (fun _ => .ret hm) fun _ => ?_
  rw [specInside_p (frameOk_spec hf).1, bd_val]
  refine .bd (Q := fun _ => True) (.gcall (fun _ => by rw [specInside_p (frameOk_spec hf).1]; exact .ret trivial) fun _ => trivial) fun x5 _ => .ite (fun _ => .ret hm) fun _ => ?_
  refine .bd (door_post (by omega) f) fun x6 h6 => .ite (fun c => ?_) fun _ => ?_
  · exact .gd (h6 (by simpa using c)) (.bd (Q := fun _ => True) ⟨_, rfl, trivial⟩ fun _ _ => .ret hm)
  refine .bd (entry_post (by omega) f) fun x9 h9 => .ite (fun c => ?_) fun _ => ?_
  · have h9 := h9 (by simpa using c)
    exact .gd h9 (.gd h9 (.bd (Q := fun _ => True) ⟨_, rfl, trivial⟩ fun _ _ => .ret ⟨h1, by simp; omega⟩))
  refine .ite (fun _ => .ret hm) fun _ => ?_
  refine .bd (free_post (by omega) (frame_ports hf).1 (frame_ports hf).2 f) fun x13 _ => .ite (fun _ => .ret hm) fun _ => ?_
  exact .bd (put_post (by omega) _) fun x14 h14 => .bd (Q := fun _ => True) ⟨_, rfl, trivial⟩ fun _ _ => .ret ⟨h1, by dsimp only; omega⟩
theorem tick_bk {b : NatBook} {d e : Int} (h : Bk b d e) (hd : d ≤ 1048576) (he : e ≤ 1048576) : Post (spec_NatTick_m b) fun x => Bk x.1 d e := by
  have h1 := h.d
  have h2 := h.e
  unfold spec_NatTick_m
  rw [specBookOk_p, bd_val]
  refine .ite (fun _ => .ret (noBk (by omega) (by omega))) fun _ => ?_
  rw [copy_post (h.ok hd he) (Nat.le_refl _), bd_val]
  refine .ite (fun _ => .ret h) fun _ => ?_
  refine .bd (Q := fun x => x.2.length ≤ b.Entries.length) (.lp (fun s => 0 ≤ s.2 ∧ s.2 ≤ b.Entries.length ∧ s.1.length ≤ s.2) (fun s => (b.Entries.length - s.2).toNat) ⟨Int.le_refl _, by dsimp only; omega, by decide⟩ fun s hs => ?_) fun x hx => .ret ⟨h1, by dsimp only; omega⟩
  refine .ite (fun c => ?_) fun _ => .ret (by dsimp only; omega)
  simp only [decide_eq_true_eq] at c
  rw [w_succ (n := b.Entries.length) hs.1 c (by omega)]
  refine .gd (by omega) (.ite (fun _ => .gd (by omega) (.gd (by simp; omega) (.ret ⟨⟨by dsimp only; omega, by dsimp only; omega, ?_⟩, by dsimp only; omega⟩))) fun _ => .ret ⟨⟨by dsimp only; omega, by dsimp only; omega, by dsimp only; omega⟩, by dsimp only; omega⟩)
  simp; omega
theorem putDoor_post {xs : List NatDoor} (h : xs.length ≤ 1048576) (e : NatDoor) : Post (spec_l25PutDoor_m xs e) fun ys => ys.length ≤ xs.length + 1 := by
  unfold spec_l25PutDoor_m
  refine .bd (Q := fun x => 0 ≤ x ∧ x ≤ (xs.length : Int)) (.lp (fun s => 0 ≤ s ∧ s ≤ xs.length) (fun s => (xs.length - s).toNat) (by omega) fun s hs => ?_) fun x hx => ?_
  · refine .gd (fun c => by simp only [decide_eq_true_eq] at c; omega) (.gd (fun _ c => by simp only [decide_eq_true_eq] at c; omega) (.gd (fun _ _ c => by simp only [decide_eq_true_eq] at c; omega) (.ite (fun c => ?_) fun _ => .ret hs)))
    simp only [Bool.and_eq_true, decide_eq_true_eq] at c
    rw [w_succ hs.1 c.1 h]
    exact .ret ⟨by omega, by omega⟩
  · refine .gd ⟨Int.le_refl _, hx⟩ (.gd (by omega) (.gd (by simp; omega) (.gd ⟨hx.1, hx.2, Int.le_refl _⟩ (.gd (by simp [dsub_eq]; omega) (.ret (by simp [dsub_eq]; omega))))))
theorem frame_post {r : l21Rd} {k : Int} (h : RdOk r k) (hk : k ≤ 1099511620000) : Post (spec_l25Frame_m r) fun x => Bk x.1 3 0 ∧ RdOk ⟨r.b, x.2.p⟩ (k + 100) := by
  unfold spec_l25Frame_m
  refine .bd (pick_post h (by omega) (by omega)) fun x1 ⟨_, h1⟩ => ?_
  refine .bd (Q := fun x => RdOk ⟨r.b, x.2.2.2⟩ (k + 3)) (.bd (pick_post h1 (by omega) (by omega)) fun x5 ⟨_, h5⟩ => .ite (fun _ => .ret (h5.mono (by omega))) fun _ => .ite (fun _ => .bd (pick_post h5 (by omega) (by omega)) fun x6 ⟨_, h6⟩ => .ret (h6.mono (by omega))) fun _ => .ite (fun _ => .ret (h5.mono (by omega))) fun _ => .ret (h5.mono (by omega))) fun x2 h2 => ?_
  refine .bd (pick_post h2 (by omega) (by omega)) fun x7 ⟨g7, h7⟩ => ?_
  refine .bd (Q := fun x => x.1.length ≤ 3 ∧ RdOk ⟨r.b, x.2⟩ (k + 100)) (.lp (fun s => 0 ≤ s.2.2 ∧ s.2.2 ≤ 3 ∧ (s.1.length : Int) + s.2.2 ≤ 3 ∧ RdOk ⟨r.b, s.2.1⟩ (k + 4 + 10 * (3 - s.2.2))) (fun s => s.2.2.toNat) ⟨g7.1, by dsimp only; omega, by simp; omega, h7.mono (by dsimp only; omega)⟩ fun s hs => ?_) fun x hx => .ret ⟨⟨by have := hx.1; dsimp only; omega, by simp⟩, hx.2⟩
  obtain ⟨s1, s2, s3, s4⟩ := hs
  refine .ite (fun c => ?_) fun _ => .ret ⟨by dsimp only; omega, s4.mono (by omega)⟩
  simp only [decide_eq_true_eq] at c
  refine .bd (pick_post s4 (by omega) (by omega)) fun x12 ⟨_, h12⟩ => .bd (pick_post h12 (by omega) (by omega)) fun x13 ⟨g13, h13⟩ => .gd g13 (.bd (inner_post h13 (by omega) _) fun x15 h15 => .bd (port_post h15 (by omega)) fun x16 h16 => .bd (putDoor_post (by omega) _) fun x17 h17 => ?_)
  rw [specBookOk_p, bd_val, wrap_i64 (n := s.2.2 - 1) (by omega) (by omega)]
  exact .ite (fun _ => .ret ⟨⟨by dsimp only; omega, by dsimp only; omega, by dsimp only; omega, h16.mono (by dsimp only; omega)⟩, by dsimp only; omega⟩) fun _ => .ret ⟨⟨by dsimp only; omega, by dsimp only; omega, by dsimp only; omega, h16.mono (by dsimp only; omega)⟩, by dsimp only; omega⟩

end Go.Proofs.YtjgjdobkahdgfaaDoor
