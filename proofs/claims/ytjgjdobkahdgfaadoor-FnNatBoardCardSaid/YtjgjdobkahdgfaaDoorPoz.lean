/-
  Plain Lean: what a model gives, said without computing it; the reader of the draws.
-/
import Derived.Test.YtjgjdobkahdgfaaDoorKz3
import Derived.Test.YtjgjdobkahdgfaaDoorNatP5z
set_option linter.all false
namespace Go.Proofs.YtjgjdobkahdgfaaDoor
open Go Go.Ab
set_option maxHeartbeats 400000

/-- The model gives something, and of that Q holds. -/
def Post {α : Type} (m : Option α) (Q : α → Prop) : Prop := ∃ x, m = some x ∧ Q x
theorem Post.ret {α : Type} {x : α} {Q : α → Prop} (h : Q x) : Post (some x) Q := ⟨x, rfl, h⟩
theorem Post.bd {α β : Type} {m : Option α} {f : α → Option β} {Q : α → Prop} {R : β → Prop} (h : Post m Q) (k : ∀ x, Q x → Post (f x) R) : Post (bd m f) R := by
  obtain ⟨x, e, hx⟩ := h
  rw [e, bd_val]
  exact k x hx
theorem Post.gd {α : Type} {c : Prop} [Decidable c] {m : Option α} {Q : α → Prop} (h : c) (k : Post m Q) : Post (gd c m) Q := by rwa [gd_pos h]
theorem Post.ite {α : Type} {c : Prop} [Decidable c] {a b : Option α} {Q : α → Prop} (k1 : c → Post a Q) (k2 : ¬ c → Post b Q) : Post (if c then a else b) Q := by
  by_cases h : c
  · rw [if_pos h]; exact k1 h
  · rw [if_neg h]; exact k2 h
theorem Post.gcall {α : Type} [Inhabited α] {c : Prop} [Decidable c] {m : Option α} {Q : α → Prop} (k1 : c → Post m Q) (k2 : ¬ c → Q default) : Post (gcall c m) Q := by
  by_cases h : c
  · rw [gcall_pos h]; exact k1 h
  · rw [gcall_neg h]; exact ⟨_, rfl, k2 h⟩
theorem Post.gcallE {α σ : Type} [Inhabited α] {c : Prop} [Decidable c] {m : Option (α × σ)} {s : σ} {Q : α × σ → Prop} (k1 : c → Post m Q) (k2 : ¬ c → Q (default, s)) : Post (gcallE c m s) Q := by
  by_cases h : c
  · rw [gcallE_pos h]; exact k1 h
  · rw [gcallE_neg h]; exact ⟨_, rfl, k2 h⟩
theorem Post.mono {α : Type} {m : Option α} {Q R : α → Prop} (h : Post m Q) (k : ∀ x, Q x → R x) : Post m R := by
  obtain ⟨x, e, hx⟩ := h
  exact ⟨x, e, k x hx⟩
theorem Post.lp {σ β : Type} {step : σ → Option (σ ⊕ β)} {s0 : σ} {Q : β → Prop} (inv : σ → Prop) (meas : σ → Nat) (h0 : inv s0)
    (hs : ∀ s, inv s → Post (step s) fun r => match r with | .inl s' => inv s' ∧ meas s' < meas s | .inr b => Q b) : Post (lp step s0) Q := by
  have key : ∀ n s, meas s ≤ n → inv s → Post (Go.Ab.lp step s) Q := by
    intro n
    induction n with
    | zero =>
      intro s hm hi
      obtain ⟨r, e, hr⟩ := hs s hi
      cases r with
      | inl s' => exact absurd hr.2 (by omega)
      | inr b => exact ⟨b, lp_done e, hr⟩
    | succ n ih =>
      intro s hm hi
      obtain ⟨r, e, hr⟩ := hs s hi
      cases r with
      | inl s' =>
        rw [lp_more e]
        exact ih s' (by have := hr.2; omega) hr.1
      | inr b => exact ⟨b, lp_done e, hr⟩
  exact key (meas s0) s0 (Nat.le_refl _) h0

structure RdOk (r : l21Rd) (k : Int) : Prop where
  bytes : ∀ x ∈ r.b, FitsB x
  len : r.b.length ≤ 2000
  p0 : 0 ≤ r.p
  p1 : r.p ≤ k

theorem getD_all {α : Type} [Inhabited α] {p : α → Prop} {xs : List α} (h : ∀ x ∈ xs, p x) (h0 : p default) (i : Nat) : p (xs.getD i default) := by
  rw [List.getD_eq_getElem?_getD]
  rcases hx : xs[i]? with _ | x
  · exact h0
  · exact h _ (List.mem_of_getElem? hx)

theorem open_post {b : List Int} (hb : b.length ≤ 9223372036854775807) (h : ∀ x ∈ b, FitsB x) : Post (spec_l21Open_m b) fun r => RdOk r 0 := by
  unfold spec_l21Open_m
  refine .ite (fun h1 => .gd ?_ (.ret ⟨fun x hx => h x (List.mem_of_mem_take hx), ?_, Int.le_refl _, Int.le_refl _⟩)) fun h1 => .ret ⟨h, ?_, Int.le_refl _, Int.le_refl _⟩
  · simp at h1; omega
  · simp; omega
  · show b.length ≤ 2000
    simp at h1; omega

theorem xor_nonneg {a b : Int} (ha : 0 ≤ a ∧ a ≤ 4611686018427387904) (hb : 0 ≤ b ∧ b ≤ 4611686018427387904) : 0 ≤ bits .xor .i64 a b := by
  unfold bits
  have e1 : IntKind.bits .i64 = 64 := rfl
  have l : ∀ x : Int, 0 ≤ x ∧ x ≤ 4611686018427387904 → (BitVec.ofInt 64 x).toNat < 2 ^ 63 := fun x hx => by
    rw [BitVec.toNat_ofInt]
    omega
  have h : (BitVec.ofInt 64 a ^^^ BitVec.ofInt 64 b).toNat < 2 ^ 63 := by
    rw [BitVec.toNat_xor]
    exact Nat.xor_lt_two_pow (l a ha) (l b hb)
  show 0 ≤ IntKind.i64.wrap (((BitVec.ofInt 64 a ^^^ BitVec.ofInt 64 b).toNat : Nat) : Int)
  rw [wrap_i64 (by omega) (by omega)]
  omega

theorem pick_post {r : l21Rd} {n k : Int} (h : RdOk r k) (hk : k ≤ 1099511627776) (hn : 1 ≤ n) : Post (spec_l21Rd_pick_m r n) fun x => (0 ≤ x.1 ∧ x.1 < n) ∧ RdOk ⟨r.b, x.2.p⟩ (k + 1) := by
  obtain ⟨h1, h2, h3, h4⟩ := h
  unfold spec_l21Rd_pick_m
  have e1 : IntKind.i64.wrap (r.p + 1) = r.p + 1 := wrap_i64 (by omega) (by omega)
  have e2 : IntKind.i64.wrap (r.p + 1 - 1) = r.p := (wrap_i64 (n := r.p + 1 - 1) (by omega) (by omega)).trans (by omega)
  have e3 : IntKind.i64.wrap (r.p * 7) = r.p * 7 := wrap_i64 (by omega) (by omega)
  have e4 : IntKind.i64.wrap (r.p * 7 + 3) = r.p * 7 + 3 := wrap_i64 (by omega) (by omega)
  have e5 : IntKind.i64.wrap (r.p * 29) = r.p * 29 := wrap_i64 (by omega) (by omega)
  rw [e1, e2, e3, e4, e5]
  have ok : RdOk ⟨r.b, r.p + 1⟩ (k + 1) := ⟨h1, h2, by dsimp only; omega, by dsimp only; omega⟩
  have byte : ∀ i : Nat, 0 ≤ r.b.getD i default ∧ r.b.getD i default ≤ 255 := fun i => getD_all h1 ⟨Int.le_refl _, by decide⟩ i
  have wb : ∀ i : Nat, IntKind.i64.wrap (r.b.getD i default) = r.b.getD i default := fun i => by have := byte i; exact wrap_i64 (by omega) (by omega)
  have md : ∀ x : Int, 0 ≤ x → 0 ≤ x.tmod n ∧ x.tmod n < n := fun x hx => ⟨Int.tmod_nonneg _ hx, Int.tmod_lt_of_pos _ (by omega)⟩
  refine .ite (fun _ => .ret ⟨⟨Int.le_refl _, by dsimp only; omega⟩, ok⟩) fun c1 => .ite (fun c2 => .gd ⟨h3, by simpa using c2⟩ (.gd (by omega) (.ret ⟨?_, ok⟩))) fun c2 => ?_
  · rw [wb]; exact md _ (byte _).1
  · have hl : (0 : Int) < (r.b.length : Nat) := by
      have : r.b.length ≠ 0 := fun e => c1 (by rw [e]; simp)
      omega
    have m1 : 0 ≤ r.p.tmod (r.b.length : Nat) ∧ r.p.tmod (r.b.length : Nat) < (r.b.length : Nat) := ⟨Int.tmod_nonneg _ h3, Int.tmod_lt_of_pos _ hl⟩
    have m2 : 0 ≤ (r.p * 7 + 3).tmod (r.b.length : Nat) ∧ (r.p * 7 + 3).tmod (r.b.length : Nat) < (r.b.length : Nat) := ⟨Int.tmod_nonneg _ (by omega), Int.tmod_lt_of_pos _ hl⟩
    refine .gd (by omega) (.gd m1 (.gd (by omega) (.gd m2 (.gd (by omega) (.gd (by decide) (.gd (by omega) (.ret ⟨?_, ok⟩)))))))
    have b1 := byte (r.p.tmod (r.b.length : Nat)).toNat
    have b2 := byte ((r.p * 7 + 3).tmod (r.b.length : Nat)).toNat
    have d1 : 0 ≤ r.p.tdiv (r.b.length : Nat) ∧ r.p.tdiv (r.b.length : Nat) ≤ r.p := by
      refine ⟨Int.tdiv_nonneg h3 (by omega), ?_⟩
      rw [Int.tdiv_eq_ediv_of_nonneg h3]
      exact Int.ediv_le_self _ h3
    rw [wb, wb]
    generalize r.b.getD (r.p.tmod (r.b.length : Nat)).toNat default = B1 at *
    generalize r.b.getD ((r.p * 7 + 3).tmod (r.b.length : Nat)).toNat default = B2 at *
    generalize r.p.tdiv (r.b.length : Nat) = D1 at *
    simp (disch := omega) only [wrap_i64]
    have hX : 0 ≤ B1 * 131 + B2 * 1117 + r.p * 29 + D1 * 53 ∧ B1 * 131 + B2 * 1117 + r.p * 29 + D1 * 53 ≤ 4611686018427387904 := by omega
    generalize B1 * 131 + B2 * 1117 + r.p * 29 + D1 * 53 = X at *
    have d2 : 0 ≤ X.tdiv 64 ∧ X.tdiv 64 ≤ 4611686018427387904 := by
      rw [Int.tdiv_eq_ediv_of_nonneg hX.1]
      omega
    rw [wrap_i64 (n := X.tdiv 64) (by omega) (by omega)]
    exact md _ (xor_nonneg hX d2)

end Go.Proofs.YtjgjdobkahdgfaaDoor
