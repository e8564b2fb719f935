/-
  Plain Lean: the draws of books and flows always give something.
-/
import Derived.Test.YtjgjdobkahdgfaaDoorKz3
import Derived.Test.YtjgjdobkahdgfaaDoorPoz
import Derived.Test.YtjgjdobkahdgfaaDoorNatP5z
set_option linter.all false
namespace Go.Proofs.YtjgjdobkahdgfaaDoor
open Go Go.Ab
set_option maxHeartbeats 400000

theorem port_post {r : l21Rd} {k : Int} (h : RdOk r k) (hk : k ≤ 1099511627776) : Post (spec_l25Port_m r) fun x => RdOk ⟨r.b, x.2.p⟩ (k + 1) := by
  unfold spec_l25Port_m
  exact .bd (pick_post h hk (by omega)) fun x ⟨h1, h2⟩ => .gd h1 (.ret h2)
theorem peer_post {r : l21Rd} {k : Int} (h : RdOk r k) (hk : k ≤ 1099511627776) : Post (spec_l25Peer_m r) fun x => RdOk ⟨r.b, x.2.p⟩ (k + 1) := by
  unfold spec_l25Peer_m
  exact .bd (pick_post h hk (by omega)) fun x ⟨h1, h2⟩ => .gd h1 (.ret h2)
theorem RdOk.mono {r : l21Rd} {k m : Int} (h : RdOk r k) (hm : k ≤ m) : RdOk r m := ⟨h.bytes, h.len, h.p0, Int.le_trans h.p1 hm⟩
theorem inner_post {r : l21Rd} {k : Int} (h : RdOk r k) (hk : k ≤ 1099511627000) (b : NatBook) : Post (spec_l25Inner_m r b) fun x => RdOk ⟨r.b, x.2.p⟩ (k + 3) := by
  unfold spec_l25Inner_m
  rw [l21In_p, bd_val]
  refine .ite (fun _ => .ret (h.mono (by omega))) fun c => ?_
  simp only [Bool.not_eq_true', Bool.not_eq_false, Bool.and_eq_true, decide_eq_true_eq] at c
  rw [l22Size_p c.1 c.2, bd_val]
  have hp := netSize_pos b.Len
  exact .bd (pick_post h (by omega) (by omega)) fun x ⟨_, h1⟩ => .bd (pick_post h1 (by omega) (by omega)) fun y ⟨_, h2⟩ => .gd (by omega) (.bd (pick_post h2 (by omega) (by omega)) fun z ⟨h3, h4⟩ => .gd h3 (.ret (h4.mono (by omega))))
/-- A book's rows are few. -/
structure BkOk (b : NatBook) (n : Nat) : Prop where
  d : b.Doors.length ≤ n
  e : b.Entries.length ≤ n
theorem outFlow_post {r : l21Rd} {k : Int} (h : RdOk r k) (hk : k ≤ 1099511620000) (b : NatBook) : Post (spec_l25OutFlow_m r b) fun x => RdOk ⟨r.b, x.2.p⟩ (k + 20) := by
  unfold spec_l25OutFlow_m
  refine .bd (pick_post h (by omega) (by omega)) fun x1 ⟨_, h1⟩ => .bd (inner_post h1 (by omega) b) fun x2 h2 => .bd (port_post h2 (by omega)) fun x3 h3 => .bd (peer_post h3 (by omega)) fun x4 h4 => .bd (pick_post h4 (by omega) (by omega)) fun x5 ⟨g5, h5⟩ => .gd g5 ?_
  refine .bd (Q := fun x => RdOk ⟨r.b, x.2.2.2⟩ (k + 14)) (.bd (Q := fun x => RdOk ⟨r.b, x.2.p⟩ (k + 9)) (.gcallE (fun _ => (pick_post h5 (by omega) (by omega)).mono fun _ h => h.2.mono (by omega)) fun _ => h5.mono (by omega)) fun x9 h9 => .ite (fun c => by
      simp only [Bool.and_eq_true, decide_eq_true_eq] at c
      exact .bd (pick_post h9 (by omega) (by omega)) fun x10 ⟨g10, h10⟩ => .gd g10 (.ret (h10.mono (by omega)))) fun _ => .ret (h9.mono (by omega))) fun x6 h6 => ?_
  refine .bd (Q := fun x => RdOk ⟨r.b, x.2.p⟩ (k + 15)) (.gcallE (fun _ => (pick_post h6 (by omega) (by omega)).mono fun _ h => h.2.mono (by omega)) fun _ => h6.mono (by omega)) fun x12 h12 => ?_
  refine .ite (fun c => ?_) fun _ => .ret (h12.mono (by omega))
  simp only [Bool.and_eq_true, decide_eq_true_eq] at c
  exact .bd (pick_post h12 (by omega) (by omega)) fun x13 ⟨g13, h13⟩ => .gd g13 (.bd (Q := fun _ => True) ⟨_, rfl, trivial⟩ fun _ _ => .ret (h13.mono (by omega)))


theorem w_succ {s : Int} {n : Nat} (h0 : 0 ≤ s) (h : s < n) (hn : n ≤ 1048576) : IntKind.i64.wrap (s + 1) = s + 1 := wrap_i64 (by omega) (by omega)
theorem taken_post {b : NatBook} (h : b.Entries.length ≤ 1048576) (f : NatFlow) (o : Int) : Post (spec_l23Taken_m b f o) fun _ => True := by
  unfold spec_l23Taken_m
  refine .bd (Q := fun _ => True) (.lp (fun s => 0 ≤ s ∧ s ≤ b.Entries.length) (fun s => (b.Entries.length - s).toNat) (by omega) fun s hs => ?_) fun x _ => ?_
  · refine .ite (fun c => ?_) fun _ => .ret trivial
    simp only [decide_eq_true_eq] at c
    refine .gd (by omega) (.ite (fun _ => .ret trivial) fun _ => ?_)
    rw [w_succ hs.1 c h]
    exact .ret ⟨by omega, by omega⟩
  · cases x <;> exact .ret trivial
theorem door_post {b : NatBook} (h : b.Doors.length ≤ 1048576) (f : NatFlow) : Post (spec_l23Door_m b f) fun x => x ≥ 0 → 0 ≤ x ∧ x < b.Doors.length := by
  unfold spec_l23Door_m
  refine .bd (Q := fun r => match r with | .inl d => 0 ≤ d ∧ d < (b.Doors.length : Int) | .inr _ => True) (.lp (fun s => 0 ≤ s ∧ s ≤ b.Doors.length) (fun s => (b.Doors.length - s).toNat) (by omega) fun s hs => ?_) fun x hx => ?_
  · refine .ite (fun c => ?_) fun _ => .ret trivial
    simp only [decide_eq_true_eq] at c
    refine .gd (by omega) (.gd (fun _ => by omega) (.gd (fun _ => by omega) (.ite (fun _ => .ret ⟨hs.1, c⟩) fun _ => ?_)))
    rw [w_succ hs.1 c h]
    exact .ret ⟨by omega, by omega⟩
  · cases x
    · exact .ret fun _ => hx
    · exact .ret fun h => absurd h (by decide)
theorem entry_post {b : NatBook} (h : b.Entries.length ≤ 1048576) (f : NatFlow) : Post (spec_l23Entry_m b f) fun x => x ≥ 0 → 0 ≤ x ∧ x < b.Entries.length := by
  unfold spec_l23Entry_m
  refine .bd (Q := fun r => match r with | .inl d => 0 ≤ d ∧ d < (b.Entries.length : Int) | .inr _ => True) (.lp (fun s => 0 ≤ s ∧ s ≤ b.Entries.length) (fun s => (b.Entries.length - s).toNat) (by omega) fun s hs => ?_) fun x hx => ?_
  · refine .ite (fun c => ?_) fun _ => .ret trivial
    simp only [decide_eq_true_eq] at c
    refine .gd (by omega) (.bd (Q := fun _ => True) ⟨_, rfl, trivial⟩ fun _ _ => .gd (fun _ => by omega) (.bd (Q := fun _ => True) (.gcall (fun _ => ⟨_, rfl, trivial⟩) fun _ => trivial) fun _ _ => .ite (fun _ => .ret ⟨hs.1, c⟩) fun _ => ?_))
    rw [w_succ hs.1 c h]
    exact .ret ⟨by omega, by omega⟩
  · cases x
    · exact .ret fun _ => hx
    · exact .ret fun h => absurd h (by decide)
theorem free_post {b : NatBook} (h : b.Entries.length ≤ 1048576) (h1 : 1 ≤ b.Low) (h2 : b.High ≤ 65535) (f : NatFlow) : Post (spec_l23Free_m b f) fun _ => True := by
  unfold spec_l23Free_m
  refine .bd (Q := fun _ => True) (.lp (fun s => 1 ≤ s) (fun s => (b.High + 1 - s).toNat) h1 fun s hs => ?_) fun x _ => ?_
  · refine .ite (fun c => ?_) fun _ => .ret trivial
    simp only [decide_eq_true_eq] at c
    refine .bd (taken_post h f s) fun _ _ => .ite (fun _ => .ret trivial) fun _ => ?_
    rw [wrap_i64 (by omega) (by omega)]
    exact .ret ⟨by omega, by omega⟩
  · cases x <;> exact .ret trivial
theorem less_post (a b : NatEntry) : Post (spec_l22Less_m a b) fun _ => True := by
  unfold spec_l22Less_m
  exact .ite (fun _ => .ret trivial) fun _ => .ite (fun _ => .ret trivial) fun _ => .ite (fun _ => .ret trivial) fun _ => .ret trivial
theorem put_post {xs : List NatEntry} (h : xs.length ≤ 1048576) (e : NatEntry) : Post (spec_l23Put_m xs e) fun ys => ys.length ≤ xs.length + 1 := by
  unfold spec_l23Put_m
  refine .bd (Q := fun x => 0 ≤ x ∧ x ≤ (xs.length : Int)) (.lp (fun s => 0 ≤ s ∧ s ≤ xs.length) (fun s => (xs.length - s).toNat) (by omega) fun s hs => ?_) fun x hx => ?_
  · refine .gd (fun c => by simp only [decide_eq_true_eq] at c; omega) (.bd (Q := fun _ => True) (.gcall (fun _ => less_post _ _) fun _ => trivial) fun x6 _ => .ite (fun c => ?_) fun _ => .ret hs)
    simp only [Bool.and_eq_true, decide_eq_true_eq] at c
    rw [w_succ hs.1 c.1 h]
    exact .ret ⟨by omega, by omega⟩
  · refine .gd ⟨Int.le_refl _, hx⟩ (.gd (by omega) (.gd (by simp; omega) (.gd ⟨hx.1, hx.2, Int.le_refl _⟩ (.gd (by simp [dsub_eq]; omega) (.ret (by simp [dsub_eq]; omega))))))
theorem copy_post {b : NatBook} {n : Nat} (h : BkOk b n) (hn : n ≤ 1048576) : spec_l22Copy_m b = some b := by
  obtain ⟨h1, h2⟩ := h
  unfold spec_l22Copy_m
  rw [gd_pos (by omega), gd_pos (by omega)]
theorem BkOk.mono {b : NatBook} {n m : Nat} (h : BkOk b n) (hm : n ≤ m) : BkOk b m := ⟨Nat.le_trans h.d hm, Nat.le_trans h.e hm⟩
end Go.Proofs.YtjgjdobkahdgfaaDoor
