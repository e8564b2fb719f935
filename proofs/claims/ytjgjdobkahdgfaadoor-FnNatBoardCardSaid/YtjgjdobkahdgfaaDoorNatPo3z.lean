/-
  Plain Lean: the draws of books and flows always give something; books at last.
-/
import Derived.Test.YtjgjdobkahdgfaaDoorKz3
import Derived.Test.YtjgjdobkahdgfaaDoorNatPo2z
set_option linter.all false
namespace Go.Proofs.YtjgjdobkahdgfaaDoor
open Go Go.Ab
set_option maxHeartbeats 400000

theorem play_post {r : l21Rd} {k : Int} (h : RdOk r k) (hk : k ≤ 1099511600000) {b : NatBook} {d e : Int} (hb : Bk b d e) (hd : d ≤ 1000000) (he : e ≤ 1000000) {n : Int} (hn : 0 ≤ n ∧ n ≤ 14) :
    Post (spec_l25Play_m r b n) fun x => Bk x.1 d (e + 14) ∧ RdOk ⟨r.b, x.2.p⟩ (k + 1000) := by
  have hb1 := hb.d
  have hb2 := hb.e
  unfold spec_l25Play_m
  refine .bd (pick_post h (by omega) (by omega)) fun x1 ⟨g1, h1⟩ => .gd g1 ?_
  refine .bd (Q := fun x => (x.2.2.2.2.2.1.length : Int) ≤ d ∧ (x.2.2.2.2.2.2.2.1.length : Int) ≤ e + 14 ∧ RdOk ⟨r.b, x.2.2.2.2.2.2.2.2⟩ (k + 1000))
    (.lp (fun s => 0 ≤ s.2.2.2.2.2.2.2.2.2 ∧ s.2.2.2.2.2.2.2.2.2 ≤ n ∧ (s.2.2.2.2.2.1.length : Int) ≤ d ∧ (s.2.2.2.2.2.2.2.1.length : Int) ≤ e + (n - s.2.2.2.2.2.2.2.2.2) ∧ RdOk ⟨r.b, s.2.2.2.2.2.2.2.2.1⟩ (k + 1 + 50 * (n - s.2.2.2.2.2.2.2.2.2)))
      (fun s => s.2.2.2.2.2.2.2.2.2.toNat) ⟨hn.1, Int.le_refl _, hb1, by dsimp only; omega, h1.mono (by dsimp only; omega)⟩ fun s hs => ?_) fun x hx => .ret ⟨⟨hx.1, hx.2.1⟩, hx.2.2⟩
  obtain ⟨s1, s2, s3, s4, s5⟩ := hs
  refine .ite (fun c => ?_) fun _ => .ret ⟨s3, by dsimp only; omega, s5.mono (by omega)⟩
  simp only [decide_eq_true_eq] at c
  refine .bd (pick_post s5 (by omega) (by omega)) fun x7 ⟨_, h7⟩ => .ite (fun _ => ?_) fun _ => ?_
  · refine .bd (pick_post h7 (by omega) (by omega)) fun x8 ⟨g8, h8⟩ => .bd (pick_post h8 (by omega) (by omega)) fun x9 ⟨g9, h9⟩ => ?_
    have hm : 0 ≤ x8.1 * x9.1 ∧ x8.1 * x9.1 ≤ 4 := by
      have : x9.1 = 0 ∨ x9.1 = 1 := by omega
      rcases this with e | e <;> rw [e] <;> omega
    rw [wrap_i64 (n := x8.1 * x9.1) (by omega) (by omega), wrap_i64 (n := 1 + x8.1 * x9.1) (by omega) (by omega), wrap_i64 (n := s.2.2.2.2.2.2.2.2.2 - 1) (by omega) (by omega)]
    refine .bd (Q := fun x => (x.2.2.2.2.2.1.length : Int) ≤ d ∧ (x.2.2.2.2.2.2.2.length : Int) ≤ e + (n - s.2.2.2.2.2.2.2.2.2))
      (.lp (fun s' => 0 ≤ s'.2.2.2.2.2.2.2.2 ∧ s'.2.2.2.2.2.2.2.2 ≤ 100 ∧ (s'.2.2.2.2.2.1.length : Int) ≤ d ∧ (s'.2.2.2.2.2.2.2.1.length : Int) ≤ e + (n - s.2.2.2.2.2.2.2.2.2)) (fun s' => s'.2.2.2.2.2.2.2.2.toNat)
        ⟨by dsimp only; omega, by dsimp only; omega, s3, s4⟩ fun s' hs' => ?_) fun x hx => .ret ⟨⟨by dsimp only; omega, by dsimp only; omega, hx.1, by have := hx.2; dsimp only; omega, h9.mono (by dsimp only; omega)⟩, by dsimp only; omega⟩
    obtain ⟨t1, t2, t3, t4⟩ := hs'
    refine .ite (fun c' => ?_) fun _ => .ret ⟨t3, t4⟩
    simp only [decide_eq_true_eq] at c'
    refine .bd (tick_bk (d := d) (e := e + (n - s.2.2.2.2.2.2.2.2.2)) ⟨t3, t4⟩ (by omega) (by omega)) fun x14 h14 => ?_
    rw [wrap_i64 (n := s'.2.2.2.2.2.2.2.2 - 1) (by omega) (by omega)]
    exact .ret ⟨⟨by dsimp only; omega, by dsimp only; omega, h14.d, h14.e⟩, by dsimp only; omega⟩
  · refine .bd (outFlow_post h7 (by omega) _) fun x16 h16 => .bd (out_post (d := d) (e := e + (n - s.2.2.2.2.2.2.2.2.2)) ⟨s3, s4⟩ (by omega) (by omega) _) fun x17 h17 => ?_
    rw [wrap_i64 (n := s.2.2.2.2.2.2.2.2.2 - 1) (by omega) (by omega)]
    exact .ret ⟨⟨by dsimp only; omega, by dsimp only; omega, h17.d, by have := h17.e; dsimp only; omega, h16.mono (by dsimp only; omega)⟩, by dsimp only; omega⟩
theorem book_post {r : l21Rd} {k : Int} (h : RdOk r k) (hk : k ≤ 1099511500000) : Post (spec_l25Book_m r) fun x => Bk x.1 3 16 ∧ RdOk ⟨r.b, x.2.p⟩ (k + 2000) := by
  unfold spec_l25Book_m
  refine .bd (frame_post h (by omega)) fun x1 ⟨b1, h1⟩ => .bd (pick_post h1 (by omega) (by omega)) fun x2 ⟨_, h2⟩ => .ite (fun _ => ?_) fun _ => ?_
  · rw [copy_post (b1.ok (by omega) (by omega)) (Nat.le_refl _), bd_val]
    refine .bd (Q := fun x => (x.2.1 = x.1.length) ∧ (x.1.length : Int) ≤ 16 ∧ (x.2.2.1.length : Int) ≤ 3 ∧ RdOk ⟨r.b, x.2.2.2.2.2.2.2.2.2.2⟩ (k + 2000))
      (.lp (fun s => 0 ≤ s.2.2.2.2.2.2.2.2.2 ∧ s.2.2.2.2.2.2.2.2.2 ≤ 16 ∧ (s.1.length : Int) ≤ 3 ∧ (s.2.1.length : Int) ≤ s.2.2.2.2.2.2.2.2.2 ∧ RdOk ⟨r.b, s.2.2.2.2.2.2.2.2.1⟩ (k + 200 + s.2.2.2.2.2.2.2.2.2)) (fun s => (16 - s.2.2.2.2.2.2.2.2.2).toNat)
        ⟨Int.le_refl _, by dsimp only; omega, b1.d, by have := b1.e; dsimp only; omega, h2.mono (by dsimp only; omega)⟩ fun s hs => ?_) fun x hx => .ret ⟨⟨hx.2.2.1, hx.2.1⟩, hx.2.2.2⟩
    obtain ⟨s1, s2, s3, s4, s5⟩ := hs
    refine .bd (pick_post s5 (by omega) (by omega)) fun x8 ⟨g8, h8⟩ => ?_
    rw [wrap_i64 (n := 16 - x8.1) (by omega) (by omega)]
    refine .ite (fun c => ?_) fun _ => .ret ⟨rfl, by dsimp only; omega, s3, h8.mono (by omega)⟩
    simp only [decide_eq_true_eq] at c
    refine .bd (out_post (d := 3) (e := s.2.2.2.2.2.2.2.2.2) ⟨s3, s4⟩ (by omega) (by omega) _) fun x9 h9 => ?_
    rw [wrap_i64 (n := s.2.2.2.2.2.2.2.2.2 + 1) (by omega) (by omega)]
    exact .ret ⟨⟨by dsimp only; omega, by dsimp only; omega, h9.d, h9.e, h8.mono (by dsimp only; omega)⟩, by dsimp only; omega⟩
  · refine .bd (pick_post h2 (by omega) (by omega)) fun x11 ⟨g11, h11⟩ => .bd (play_post h11 (by omega) b1 (by omega) (by omega) ⟨g11.1, by omega⟩) fun x12 h12 => .ret ⟨h12.1.mono (by omega) (by omega), h12.2.mono (by omega)⟩

end Go.Proofs.YtjgjdobkahdgfaaDoor
