/-
  Plain Lean: the draws of books and flows always give something; all of them.
-/
import Derived.Test.YtjgjdobkahdgfaaDoorKz3
import Derived.Test.YtjgjdobkahdgfaaDoorNatPo3z
set_option linter.all false
namespace Go.Proofs.YtjgjdobkahdgfaaDoor
open Go Go.Ab
set_option maxHeartbeats 1000000

theorem spoil_post {r : l21Rd} {k : Int} (h : RdOk r k) (hk : k ≤ 1099511500000) {b : NatBook} {d e : Int} (hb : Bk b d e) (hd : d ≤ 1000000) (he : e ≤ 1000000) (he0 : 20 ≤ e) :
    Post (spec_l25Spoil_m r b) fun x => Bk x.1 d (e + 1) ∧ RdOk ⟨r.b, x.2.p⟩ (k + 20) := by
  have hb1 := hb.d
  have hb2 := hb.e
  unfold spec_l25Spoil_m
  rw [copy_post (hb.ok (by omega) (by omega)) (Nat.le_refl _), bd_val]
  rw [wrap_i64 (n := (b.Doors.length : Int) + 1) (by omega) (by omega), wrap_i64 (n := (b.Entries.length : Int) + 1) (by omega) (by omega)]
  refine .bd (pick_post h (by omega) (by omega)) fun x2 ⟨g2, h2⟩ => .bd (pick_post h2 (by omega) (by omega)) fun x3 ⟨g3, h3⟩ => ?_
  refine .bd (Q := fun x => (x.1.length : Int) ≤ d ∧ (x.2.1.length : Int) ≤ e + 1 ∧ RdOk ⟨r.b, x.2.2.2.2.2.2.2.2⟩ (k + 20)) ?_ fun x hx => .ret ⟨⟨hx.1, hx.2.1⟩, hx.2.2⟩
  refine .bd (pick_post h3 (by omega) (by omega)) fun x7 ⟨_, h7⟩ => ?_
  refine .ite (fun _ => ?_) fun _ => .ite (fun _ => ?_) fun _ => .ite (fun _ => ?_) fun _ => .ite (fun _ => ?_) fun _ => .ite (fun _ => ?_) fun _ => .ite (fun _ => ?_) fun _ => .ite (fun _ => ?_) fun _ => .ite (fun _ => ?_) fun _ => .ite (fun _ => ?_) fun _ => .ite (fun _ => ?_) fun _ => .ite (fun _ => ?_) fun _ => ?_
  case refine_7 =>
    refine .ite (fun c => ?_) fun _ => .ret ⟨hb1, by dsimp only; omega, h7.mono (by omega)⟩
    simp only [decide_eq_true_eq] at c
    exact .bd (pick_post h7 (by omega) (by omega)) fun y ⟨g, hy⟩ => .gd g (.gd ⟨g2.1, c⟩ (.bd (Q := fun z => z.length = b.Doors.length) (.ret (by simp)) fun z hz => .ret ⟨by dsimp only; omega, by dsimp only; omega, hy.mono (by omega)⟩))
  case refine_8 =>
    refine .ite (fun c => ?_) fun _ => .ret ⟨hb1, by dsimp only; omega, h7.mono (by omega)⟩
    simp only [decide_eq_true_eq] at c
    exact .bd (pick_post h7 (by omega) (by omega)) fun y ⟨g, hy⟩ => .gd g (.gd ⟨g2.1, c⟩ (.bd (Q := fun z => z.length = b.Doors.length) (.ret (by simp)) fun z hz => .bd (pick_post hy (by omega) (by omega)) fun y' ⟨g', hy'⟩ => .gd g' (.gd ⟨g2.1, c⟩ (.bd (Q := fun z => z.length = b.Doors.length) (.ret (by simp [hz])) fun z hz => .ret ⟨by dsimp only; omega, by dsimp only; omega, hy'.mono (by omega)⟩))))
  case refine_9 =>
    refine .ite (fun c => ?_) fun _ => .ret ⟨hb1, by dsimp only; omega, h7.mono (by omega)⟩
    simp only [decide_eq_true_eq] at c
    exact .bd (pick_post h7 (by omega) (by omega)) fun y ⟨g, hy⟩ => .gd g (.gd ⟨g3.1, c⟩ (.bd (Q := fun z => z.length = b.Entries.length) (.ret (by simp)) fun z hz => .ret ⟨by dsimp only; omega, by dsimp only; omega, hy.mono (by omega)⟩))
  case refine_10 =>
    refine .ite (fun c => ?_) fun _ => .ret ⟨hb1, by dsimp only; omega, h7.mono (by omega)⟩
    simp only [decide_eq_true_eq] at c
    exact .bd (pick_post h7 (by omega) (by omega)) fun y ⟨g, hy⟩ => .gd g (.gd ⟨g3.1, c⟩ (.bd (Q := fun z => z.length = b.Entries.length) (.ret (by simp)) fun z hz => .ret ⟨by dsimp only; omega, by dsimp only; omega, hy.mono (by omega)⟩))
  case refine_11 =>
    refine .ite (fun c => ?_) fun _ => .ret ⟨hb1, by dsimp only; omega, h7.mono (by omega)⟩
    simp only [decide_eq_true_eq] at c
    exact .bd (pick_post h7 (by omega) (by omega)) fun y ⟨g, hy⟩ => .gd g (.gd ⟨g3.1, c⟩ (.bd (Q := fun z => z.length = b.Entries.length) (.ret (by simp)) fun z hz => .gd ⟨g3.1, c⟩ (.gd (by simp; omega) (.ret ⟨by dsimp only; omega, by simp; omega, hy.mono (by omega)⟩))))
  case refine_12 =>
    refine .bd (pick_post h7 (by omega) (by omega)) fun x46 ⟨g46, h46⟩ => ?_
    rw [wrap_i64 (n := 16 + x46.1) (by omega) (by omega)]
    refine .bd (Q := fun x => (x.1.length : Int) ≤ e + 1) (.lp (fun s => (s.length : Int) ≤ e + 1) (fun s => 100 - s.length) (by omega) fun s hs => ?_) fun x hx => .ret ⟨hb1, hx, h46.mono (by omega)⟩
    refine .ite (fun c => ?_) fun _ => .ret hs
    simp only [decide_eq_true_eq] at c
    exact .gd (by simp; omega) (.ret ⟨by simp; omega, by simp; omega⟩)
  all_goals exact .bd (pick_post h7 (by omega) (by omega)) fun y ⟨g, hy⟩ => .gd g (.ret ⟨hb1, by dsimp only; omega, hy.mono (by omega)⟩)
theorem any_post {r : l21Rd} {k : Int} (h : RdOk r k) (hk : k ≤ 1099511400000) : Post (spec_l25Any_m r) fun x => Bk x.1 3 21 ∧ RdOk ⟨r.b, x.2.p⟩ (k + 3000) := by
  unfold spec_l25Any_m
  refine .bd (book_post h (by omega)) fun x1 ⟨b1, h1⟩ => .bd (pick_post h1 (by omega) (by omega)) fun x2 ⟨_, h2⟩ => .ite (fun _ => ?_) fun _ => .ret ⟨b1.mono (by omega) (by omega), h2.mono (by omega)⟩
  exact .bd (spoil_post (e := 20) h2 (by omega) (b1.mono (Int.le_refl _) (by omega)) (by omega) (by omega) (by omega)) fun x3 ⟨b3, h3⟩ => .ret ⟨b3, h3.mono (by omega)⟩
end Go.Proofs.YtjgjdobkahdgfaaDoor
