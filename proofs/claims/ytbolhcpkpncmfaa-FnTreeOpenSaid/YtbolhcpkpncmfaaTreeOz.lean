/-
  Plain Lean: the draw of a world's beginning always gives something; the row FnTreeOpen.
-/
import Derived.Test.YtbolhcpkpncmfaaKz5
import Derived.Test.YtbolhcpkpncmfaaTreeAz
import Derived.Test.YtbolhcpkpncmfaaPoL81z
set_option linter.all false
namespace Go.Proofs.Ytbolhcpkpncmfaa
open Go Go.Ab
set_option maxHeartbeats 400000

theorem RdOk.mono {r : l81Rd} {k m : Int} (h : RdOk r k) (hm : k ≤ m) : RdOk r m := ⟨h.bytes, h.len, h.p0, Int.le_trans h.p1 hm⟩

/-- How far a number lies behind another, around the circle of numbers. -/
def farI (a x : Int) : Int := (x - a) % 1000
theorem filter_le {α : Type} {p q : α → Bool} : ∀ {xs : List α}, (∀ x ∈ xs, q x = true → p x = true) → (xs.filter q).length ≤ (xs.filter p).length
  | [], _ => Nat.le_refl _
  | x :: xs, h => by
    have ih := filter_le (xs := xs) fun y hy => h y (List.mem_cons_of_mem _ hy)
    have hx := h x (List.mem_cons_self ..)
    rw [List.filter_cons, List.filter_cons]
    cases hq : q x
    · cases hp : p x
      · exact ih
      · exact Nat.le_succ_of_le ih
    · rw [if_pos rfl, if_pos (hx hq)]
      exact Nat.succ_le_succ ih
theorem filter_lt {α : Type} {p q : α → Bool} : ∀ {xs : List α}, (∀ x ∈ xs, q x = true → p x = true) → (∃ x ∈ xs, p x = true ∧ q x = false) → (xs.filter q).length < (xs.filter p).length
  | [], _, h => by obtain ⟨x, hx, _⟩ := h; exact absurd hx (by simp)
  | x :: xs, h, ⟨y, hy, hp, hq⟩ => by
    have h' : ∀ x ∈ xs, q x = true → p x = true := fun y hy => h y (List.mem_cons_of_mem _ hy)
    have hx := h x (List.mem_cons_self ..)
    rw [List.filter_cons, List.filter_cons]
    rcases List.mem_cons.1 hy with rfl | hy
    · rw [if_neg (by rw [hq]; decide), if_pos hp]
      exact Nat.succ_le_succ (filter_le h')
    · have ih := filter_lt (xs := xs) h' ⟨y, hy, hp, hq⟩
      cases hq : q x
      · cases hp : p x
        · exact ih
        · exact Nat.lt_succ_of_lt ih
      · rw [if_pos rfl, if_pos (hx hq)]
        exact Nat.succ_lt_succ ih
theorem hasI_mem {xs : List Int} {a : Int} (h : hasI xs a = true) : a ∈ xs := by
  refine Classical.byContradiction fun hn => ?_
  have : allR xs.length (fun i => !(xs.getD i default == a)) = true := allR_of fun i hi => by
    rw [Bool.not_eq_true', beq_eq_false_iff_ne, List.getD_eq_getElem?_getD, List.getElem?_eq_getElem hi]
    exact fun e => hn (e ▸ List.getElem_mem hi)
  unfold hasI hasR at h
  rw [this] at h
  exact absurd h (by decide)
theorem freeId_post {xs : List Int} (hl : xs.length ≤ 500) {a : Int} (h0 : 1 ≤ a) (h1 : a ≤ 1000) : Post (lp (σ := Int) (β := (Int)) (fun s12 =>
    bd (spec_l82Has_m xs s12) fun x16 =>
    (if x16 = true then
    gd ((1000 : Int) ≠ 0) <|
    some (.inl (IntKind.i64.wrap (((s12 : Int).tmod 1000) + 1)))
    else
    some (.inr s12))) a) fun x => 1 ≤ x ∧ x ≤ 1000 := by
  refine .lp (fun s => 1 ≤ s ∧ s ≤ 1000 ∧ farI a s + ((xs.filter fun x => decide (farI a s ≤ farI a x)).length : Int) ≤ xs.length) (fun s => (xs.filter fun x => decide (farI a s ≤ farI a x)).length) ⟨h0, h1, ?_⟩ fun s ⟨i1, i2, i3⟩ => ?_
  · have : farI a a = 0 := by unfold farI; omega
    rw [this]
    have := List.length_filter_le (fun x => decide (0 ≤ farI a x)) xs
    omega
  · rw [l82Has_p (by omega), bd_val]
    refine .ite (fun c => .gd (by decide) (.ret ?_)) fun _ => .ret ⟨i1, i2⟩
    have hm := hasI_mem c
    have et : s.tmod 1000 = s % 1000 := Int.tmod_eq_emod_of_nonneg (by omega)
    have e : IntKind.i64.wrap (s.tmod 1000 + 1) = s % 1000 + 1 := by rw [et]; exact wrap_i64 (by omega) (by omega)
    rw [e]
    have hf : farI a (s % 1000 + 1) = farI a s + 1 := by
      have : 0 ≤ ((xs.filter fun x => decide (farI a s ≤ farI a x)).length : Int) := by omega
      unfold farI at i3 ⊢
      omega
    have lt : (xs.filter fun x => decide (farI a (s % 1000 + 1) ≤ farI a x)).length < (xs.filter fun x => decide (farI a s ≤ farI a x)).length := by
      rw [hf]
      refine filter_lt (fun x _ h => ?_) ⟨s, hm, by simp, ?_⟩
      · simp only [decide_eq_true_eq] at h ⊢; omega
      · simp only [decide_eq_false_iff_not]; omega
    refine ⟨⟨by omega, by omega, ?_⟩, lt⟩
    have : farI a (s % 1000 + 1) = farI a s + 1 := hf
    omega
theorem ids_post {r : l81Rd} {k n : Int} (h : RdOk r k) (hk : k ≤ 1099511000000) (h0 : 0 ≤ n) (hn : n ≤ 400) : Post (spec_l85Ids_m r n) fun x => (x.1.length : Int) = n ∧ RdOk ⟨r.b, x.2.p⟩ (k + 3 * n) := by
  unfold spec_l85Ids_m
  refine .bd (Q := fun x => (x.2.1.length : Int) = n ∧ RdOk ⟨r.b, x.2.2⟩ (k + 3 * n)) (.lp (fun s => (s.1.length : Int) ≤ n ∧ RdOk ⟨r.b, s.2⟩ (k + 3 * s.1.length)) (fun s => (n - s.1.length).toNat) ⟨by dsimp only; simpa using h0, by simpa using h⟩ fun s ⟨i1, i2⟩ => ?_) fun x hx => .ret hx
  refine .ite (fun c => ?_) fun c => .ret ?_
  · simp only [decide_eq_true_eq] at c
    refine .bd (pick_post i2 (by omega) (by omega)) fun x5 ⟨g5, h5⟩ => ?_
    refine .bd (Q := fun x => (1 ≤ x.2 ∧ x.2 ≤ 1000) ∧ RdOk ⟨r.b, x.1⟩ (k + 3 * s.1.length + 3)) (.bd (pick_post h5 (by omega) (by omega)) fun x9 ⟨_, h9⟩ => .ite (fun _ => .bd (pick_post h9 (by omega) (by omega)) fun x10 ⟨g10, h10⟩ => .gd ⟨g10.1, by simpa using g10.2⟩ (.ret ⟨?_, h10.mono (by omega)⟩)) fun _ => .ret ⟨?_, h9.mono (by omega)⟩) fun x6 ⟨g6, h6⟩ => ?_
    · have : x10.1 = 0 ∨ x10.1 = 1 ∨ x10.1 = 2 ∨ x10.1 = 3 := by omega
      dsimp only
      rcases this with e | e | e | e <;> rw [e] <;> decide
    · have : IntKind.i64.wrap (1 + x5.1) = 1 + x5.1 := wrap_i64 (by omega) (by omega)
      dsimp only
      omega
    · refine .bd (freeId_post (by omega) g6.1 g6.2) fun x15 _ => .gd (by simp; omega) (.ret ⟨⟨?_, ?_⟩, ?_⟩)
      · simp only [List.length_append, List.length_singleton]; omega
      · simp only [List.length_append, List.length_singleton]
        exact h6.mono (by omega)
      · simp only [List.length_append, List.length_singleton]; omega
  · simp only [decide_eq_true_eq] at c
    have e : (s.1.length : Int) = n := by omega
    exact ⟨e, by dsimp only; rw [← e]; exact i2⟩
theorem links_post {r : l81Rd} {k n : Int} (h : RdOk r k) (hk : k ≤ 1099511000000) (h0 : 1 ≤ n) (hn : n ≤ 400) : Post (spec_l85Links_m r n) fun x => (x.1.length : Int) ≤ n + 6 ∧ RdOk ⟨r.b, x.2.p⟩ (k + 2 * n + 20) := by
  unfold spec_l85Links_m
  refine .bd (Q := fun x => (x.2.1.length : Int) ≤ n ∧ RdOk ⟨r.b, x.2.2⟩ (k + 2 * n)) (.lp (fun s => 0 ≤ s.2.2 ∧ s.2.2 ≤ n ∧ (s.1.length : Int) ≤ s.2.2 ∧ RdOk ⟨r.b, s.2.1⟩ (k + 2 * s.2.2)) (fun s => (n - s.2.2).toNat) ⟨Int.le_refl _, by dsimp only; omega, by simp, by simpa using h⟩ fun s ⟨i1, i2, i3, i4⟩ => ?_) fun x4 ⟨g4, h4⟩ => ?_
  · have w : IntKind.i64.wrap (s.2.2 + 1) = s.2.2 + 1 := wrap_i64 (by omega) (by omega)
    rw [w]
    refine .ite (fun c => ?_) fun c => .ret ⟨by dsimp only; omega, i4.mono (by omega)⟩
    simp only [decide_eq_true_eq] at c
    refine .bd (pick_post i4 (by omega) (by omega)) fun x5 ⟨g5, h5⟩ => .ite (fun _ => .bd (pick_post h5 (by omega) (by omega)) fun x6 ⟨g6, h6⟩ => .gd (by simp; omega) (.ret ⟨⟨by dsimp only; omega, by dsimp only; omega, ?_, h6.mono (by dsimp only; omega)⟩, by dsimp only; omega⟩)) fun _ => .ret ⟨⟨by dsimp only; omega, by dsimp only; omega, by dsimp only; omega, h5.mono (by dsimp only; omega)⟩, by dsimp only; omega⟩
    simp only [List.length_append, List.length_singleton]; omega
  · refine .bd (pick_post h4 (by omega) (by omega)) fun x9 ⟨g9, h9⟩ => ?_
    have w : IntKind.i64.wrap (n - 1) = n - 1 := wrap_i64 (by omega) (by omega)
    rw [w]
    refine .bd (Q := fun x => (x.2.1.length : Int) ≤ n + 6 ∧ RdOk ⟨r.b, x.2.2⟩ (k + 2 * n + 20)) (.lp (fun s => 0 ≤ s.2.2 ∧ s.2.2 ≤ 5 ∧ (s.1.length : Int) + s.2.2 ≤ n + 6 ∧ RdOk ⟨r.b, s.2.1⟩ (k + 2 * n + 1 + 3 * (5 - s.2.2))) (fun s => s.2.2.toNat) ⟨g9.1, by dsimp only; omega, by dsimp only; omega, h9.mono (by dsimp only; omega)⟩ fun s ⟨i1, i2, i3, i4⟩ => ?_) fun x hx => .ret hx
    refine .ite (fun c => ?_) fun c => .ret ⟨by dsimp only; omega, i4.mono (by omega)⟩
    simp only [Bool.and_eq_true, decide_eq_true_eq] at c
    have w3 : IntKind.i64.wrap (s.2.2 - 1) = s.2.2 - 1 := wrap_i64 (by omega) (by omega)
    rw [w3]
    refine .bd (pick_post i4 (by omega) (by omega)) fun x14 ⟨g14, h14⟩ => ?_
    have w2 : IntKind.i64.wrap (n - 1 - x14.1) = n - 1 - x14.1 := wrap_i64 (by omega) (by omega)
    rw [w2]
    refine .bd (pick_post h14 (by omega) (by omega)) fun x15 ⟨_, h15⟩ => .bd (pick_post h15 (by omega) (by omega)) fun x16 ⟨g16, h16⟩ => .gd ⟨g16.1, by simpa using g16.2⟩ (.gd (by simp; omega) (.ret ⟨⟨by dsimp only; omega, by dsimp only; omega, ?_, h16.mono (by dsimp only; omega)⟩, by dsimp only; omega⟩))
    simp only [List.length_append, List.length_singleton]; omega
theorem draw_post {b : List Int} (hb : b.length ≤ 9223372036854775807) (h : ∀ x ∈ b, FitsB x) : Post (spec_DrawTreeOpenWorld_m b) fun x => x.1.length ≤ 100 ∧ x.2.length ≤ 100 := by
  unfold spec_DrawTreeOpenWorld_m
  refine .bd (open_post hb h) fun x1 h1 => .bd (pick_post h1 (by omega) (by omega)) fun x2 ⟨g2, h2⟩ => ?_
  have w : IntKind.i64.wrap (1 + x2.1) = 1 + x2.1 := wrap_i64 (by omega) (by omega)
  rw [w]
  refine .bd (ids_post h2 (by omega) (by omega) (by omega)) fun x3 ⟨g3, h3⟩ => .bd (links_post h3 (by omega) (by omega) (by omega)) fun x4 ⟨g4, h4⟩ => .bd (pick_post h4 (by omega) (by omega)) fun x5 ⟨g5, h5⟩ => ?_
  refine .ite (fun _ => ?_) fun _ => .ite (fun _ => ?_) fun _ => .ite (fun _ => ?_) fun _ => .ret ⟨by dsimp only; omega, by dsimp only; omega⟩
  · refine .bd (pick_post h5 (by omega) (by omega)) fun x6 ⟨g6, h6⟩ => .gd (by omega) (.bd (pick_post h6 (by omega) (by omega)) fun x8 ⟨g8, h8⟩ => .gd ⟨g8.1, by simpa using g8.2⟩ (.gd ⟨g6.1, by omega⟩ (.bd (.ret (Q := fun y => y.length = x3.1.length) (by simp)) fun x11 g11 => .ret ⟨by dsimp only; omega, by dsimp only; omega⟩)))
  · refine .bd (pick_post h5 (by omega) (by omega)) fun x12 ⟨_, h12⟩ => .bd (pick_post h12 (by omega) (by omega)) fun x13 ⟨_, h13⟩ => .bd (pick_post h13 (by omega) (by omega)) fun x14 ⟨_, h14⟩ => .gd (by simp; omega) (.ret ⟨by dsimp only; omega, ?_⟩)
    simp only [List.length_append, List.length_singleton]; omega
  · refine .gd (by simp; omega) (.ret ⟨?_, by dsimp only; omega⟩)
    simp only [List.length_append, List.length_singleton]; omega

theorem implOpenF_p {ids : List Int} {ls : List TreeLink} (h0 : ids.length ≤ 1048576) (hl : ls.length ≤ 1048576) : impl_TreeOpenWorld_fz_m ids ls = some (openWorld ids ls) := by
  unfold impl_TreeOpenWorld_fz_m openWorld
  rw [implLinksOk_p _ (by omega), bd_val]
  cases h : linksOk ids.length ls
  · simp [noWorld]
  · have hlen := linksOk_len h
    have hw := newWorld_len h
    rw [if_neg (by decide), clone_p hl, bd_val, gd_pos (by omega), gd_pos (by omega)]
    have := lp_at (σ := List TreeBridge × Int) (β := List TreeBridge × Nat) (step := fun s5 =>
      (if (decide (s5.2 < ((ids.length : Nat) : Int))) = true then
      gd ((0 : Int) ≤ s5.2 ∧ s5.2 < ((ids.length : Nat) : Int)) <|
      bd (impl_selfMind_m (ids.getD s5.2.toNat default)) fun x10 =>
      gd (((s5.1.length) + (([(⟨(ids.getD s5.2.toNat default), true, x10⟩ : TreeBridge)] : List TreeBridge).length)) * (48 + 1) ≤ 70368744177664) <|
      some (.inl ((s5.1 ++ ([(⟨(ids.getD s5.2.toNat default), true, x10⟩ : TreeBridge)] : List TreeBridge)), IntKind.i64.wrap (s5.2 + 1)))
      else
      some (.inr (s5.1, s5.1.length)))) ids.length (fun i => ((ids.take i).map newBridge, (i : Int))) (ids.map newBridge, ids.length) (fun i hi => by
        rw [if_pos (by simp; omega), gd_pos (by dsimp only; omega)]
        simp only [selfMind_p, bd_val, Int.toNat_natCast]
        rw [gd_pos (by simp; omega), wrap_succ hi (by omega), List.take_succ, List.map_append]
        simp [List.getD_eq_getElem?_getD, hi, newBridge]) (by
        rw [if_neg (by simp)]
        simp)
    rw [show ((ids.take 0).map newBridge, ((0 : Nat) : Int)) = (([] : List TreeBridge), (0 : Int)) by simp] at this
    rw [this, bd_val]
    dsimp only
    have := implWorldOk_p (w := newWorld ids ls) (by have := hw.b; omega) (by have := hw.l; omega) (by have := hw.d; omega) (by have := hw.r; omega)
    unfold newWorld at this ⊢
    rw [Int.toNat_natCast, this, bd_val]
    cases worldOk ⟨ids.map newBridge, ls, [], List.replicate ls.length default, List.replicate ls.length default, []⟩ <;> simp [noWorld]
theorem fz_eq (w : TreeWorld) : impl_TreePasses_fz_m w = impl_TreePasses_m w := rfl

theorem wtInts_p {xs : List Int} (h : xs.length ≤ 1048576) : laws_wtInts_m xs xs = some true := by
  unfold laws_wtInts_m
  rw [if_neg (by simp), lp_all xs.length (fun _ => true) (.inl ()) (.inr ()) (fun i hi _ => ?_) (fun _ => by rw [if_neg (by simp)])]
  · rw [if_pos (allR_of fun _ _ => rfl)]; rfl
  · rw [if_pos (by simp; omega), gd_pos (by omega), gd_pos (by omega), if_neg (by simp), wrap_succ hi (by omega), if_pos rfl]
theorem wtSlots_p {xs : List TreeSlot} (h : xs.length ≤ 1048576) : laws_wtSlots_m xs xs = some true := by
  unfold laws_wtSlots_m
  rw [if_neg (by simp), lp_all xs.length (fun _ => true) (.inl ()) (.inr ()) (fun i hi _ => ?_) (fun _ => by rw [if_neg (by simp)])]
  · rw [if_pos (allR_of fun _ _ => rfl)]; rfl
  · rw [if_pos (by simp; omega), gd_pos (by omega), gd_pos (by omega), if_neg (by simp), wrap_succ hi (by omega), if_pos rfl]
theorem wtWorld_p {w : TreeWorld} (h : w.Len 1048576) : laws_wtWorld_m w w = some true := by
  obtain ⟨h1, h2, h3, h4, h5, h6⟩ := h
  unfold laws_wtWorld_m
  rw [wtInts_p h3, wtSlots_p h4, wtSlots_p h5]
  simp only [bne_self_eq_false, Bool.or_self, gcall_val, bd_val, if_true, Bool.not_true, Bool.false_eq_true, if_false]
  rw [lp_all w.Bridges.length (fun _ => true) (.inl ()) (.inr ()) (fun i hi _ => ?_) (fun _ => by rw [if_neg (by simp)]), if_pos (allR_of fun _ _ => rfl), bd_val]
  · dsimp only
    rw [lp_all w.Links.length (fun _ => true) (.inl ()) (.inr ()) (fun i hi _ => ?_) (fun _ => by rw [if_neg (by simp)]), if_pos (allR_of fun _ _ => rfl), bd_val]
    · dsimp only
      rw [lp_all w.Radio.length (fun _ => true) (.inl ()) (.inr ()) (fun i hi _ => ?_) (fun _ => by rw [if_neg (by simp)]), if_pos (allR_of fun _ _ => rfl), bd_val]
      rw [if_pos (by simp; omega), gd_pos (by omega), gd_pos (by omega), if_neg (by simp), wrap_succ hi (by omega), if_pos rfl]
    · rw [if_pos (by simp; omega), gd_pos (by omega), gd_pos (by omega), if_neg (by simp), wrap_succ hi (by omega), if_pos rfl]
  · rw [if_pos (by simp; omega), gd_pos (by omega), gd_pos (by omega), if_neg (by simp), wrap_succ hi (by omega), if_pos rfl]

def idsOk (ids : List Int) (n : Nat) : Bool := allR n (fun i => inR (ids.getD i default) 1 1000 && allR i (fun k => !(ids.getD k default == ids.getD i default)))
theorem newBridge_get {ids : List Int} {ls : List TreeLink} {i : Nat} (hi : i < ids.length) : (newWorld ids ls).Bridges.getD i default = newBridge (ids.getD i default) := by
  simp [newWorld, List.getD_eq_getElem?_getD, hi]
theorem slotDef {ids : List Int} {ls : List TreeLink} (i : Nat) (e : Int) : slotAt (newWorld ids ls) i e = default := by
  unfold slotAt newWorld
  split <;> exact getD_all (p := fun s : TreeSlot => s = default) (fun x hx => (List.mem_replicate.1 hx).2) rfl i
theorem newOk {ids : List Int} {ls : List TreeLink} (h : linksOk ids.length ls = true) : worldOk (newWorld ids ls) = idsOk ids ids.length := by
  have hb : (newWorld ids ls).Bridges.length = ids.length := by simp [newWorld]
  have hl : (newWorld ids ls).Links = ls := rfl
  unfold worldOk
  rw [hb, hl, h]
  have e1 : allR ids.length (bridgeOk (newWorld ids ls)) = idsOk ids ids.length := by
    rw [Bool.eq_iff_iff]
    unfold idsOk
    simp only [allR_iff]
    refine ⟨fun g i hi => ?_, fun g i hi => ?_⟩
    · have := g i hi
      simp only [bridgeOk, Bool.and_eq_true, newBridge_get hi] at this
      rw [Bool.and_eq_true]
      refine ⟨this.1.1, allR_of fun k hk => ?_⟩
      have := allR_get this.1.2 hk
      rw [newBridge_get (by omega)] at this
      exact this
    · have := g i hi
      rw [Bool.and_eq_true] at this
      simp only [bridgeOk, Bool.and_eq_true, newBridge_get hi]
      refine ⟨⟨this.1, allR_of fun k hk => ?_⟩, ?_⟩
      · rw [newBridge_get (by omega)]
        exact allR_get this.2 hk
      · have hi' := inR_iff.1 this.1
        rw [if_pos (show (newBridge (ids.getD i default)).Up = true from rfl)]
        have hn : nothing (⟨ids.getD i default, 0, 0⟩ : TreeVector) = false := by
          unfold nothing
          simp only [Bool.and_eq_false_imp, beq_iff_eq]
          intro e; omega
        have hv : vecOk (⟨ids.getD i default, 0, 0⟩ : TreeVector) = true := by
          unfold vecOk
          rw [hn, this.1]; rfl
        show ((vecOk (⟨ids.getD i default, 0, 0⟩ : TreeVector) && !nothing (⟨ids.getD i default, 0, 0⟩ : TreeVector)) && inR (-1) (-1) ((ls.length : Int) - 1)) = true
        rw [hn, hv, inR_iff.2 ⟨Int.le_refl _, by omega⟩]
        rfl
  have e2 : allR ls.length (endsOk (newWorld ids ls)) = true := allR_of fun i _ => by
    have a : (newWorld ids ls).AtA.getD i default = default := slotDef (ids := ids) (ls := ls) i 0
    have b : (newWorld ids ls).AtB.getD i default = default := slotDef (ids := ids) (ls := ls) i 1
    unfold endsOk
    rw [a, b]
    rfl
  have e3 : allR (newWorld ids ls).Down.length (downAt (newWorld ids ls)) = true := rfl
  have e4 : radioOk (newWorld ids ls) = true := rfl
  rw [e1, e2, e3, e4]
  simp [newWorld]
theorem newPass {ids : List Int} {ls : List TreeLink} (h : linksOk ids.length ls = true) {i : Nat} (hi : i < ls.length) : passAt (newWorld ids ls) i = true := by
  have hl := linkAt h hi
  have hu : ∀ b : Int, 0 ≤ b → b < ids.length → ((newWorld ids ls).Bridges.getD b.toNat default).Up = true := fun b h0 h1 => by
    rw [newBridge_get (by omega)]; rfl
  unfold passAt isOpen letsOf
  rw [slotDef, slotDef, show (newWorld ids ls).Links = ls from rfl, hu _ (by omega) (by omega), hu _ (by omega) (by omega)]
  rw [show nothing (default : TreeSlot).Vector = true from rfl, show hasI (newWorld ids ls).Down i = false from rfl]
  simp
theorem newPasses {ids : List Int} {ls : List TreeLink} (h : linksOk ids.length ls = true) (h1 : worldOk (newWorld ids ls) = true) : (treePasses (newWorld ids ls)).length = ls.length := by
  unfold treePasses passL
  rw [if_pos h1, List.length_map, List.filter_eq_self.2, List.length_range]
  · rfl
  · intro i hi
    exact newPass h (List.mem_range.1 hi)

theorem right_p {ids : List Int} {ls : List TreeLink} (h : ids.length ≤ 100) : lp (σ := Int × Bool) (β := (Bool)) (fun s6 =>
    (if (decide (s6.1 < ((ids.length : Nat) : Int))) = true then
    bd (α := Bool) (gd ((0 : Int) ≤ s6.1 ∧ s6.1 < ((ids.length : Nat) : Int)) <|
    gd ((decide ((ids.getD s6.1.toNat default) < 1)) = false → ((0 : Int) ≤ s6.1 ∧ s6.1 < ((ids.length : Nat) : Int))) <|
    (if ((decide ((ids.getD s6.1.toNat default) < 1)) || (decide ((ids.getD s6.1.toNat default) > 1000))) = true then
    some false
    else
    some s6.2)) fun x10 =>
    bd (lp (σ := Int × Bool) (β := (Bool)) (fun s15 =>
    (if (decide (s15.1 < s6.1)) = true then
    gd ((0 : Int) ≤ s15.1 ∧ s15.1 < ((ids.length : Nat) : Int)) <|
    gd ((0 : Int) ≤ s6.1 ∧ s6.1 < ((ids.length : Nat) : Int)) <|
    (if ((ids.getD s15.1.toNat default) == (ids.getD s6.1.toNat default)) = true then
    some (.inl (IntKind.i64.wrap (s15.1 + 1), false))
    else
    some (.inl (IntKind.i64.wrap (s15.1 + 1), s15.2)))
    else
    some (.inr s15.2))) (0, x10)) fun x18 =>
    some (.inl (IntKind.i64.wrap (s6.1 + 1), x18))
    else
    some (.inr s6.2))) (0, linksOk ids.length ls) = some (linksOk ids.length ls && idsOk ids ids.length) := by
  have := lp_at (σ := Int × Bool) (β := Bool) (step := (fun s6 =>
    (if (decide (s6.1 < ((ids.length : Nat) : Int))) = true then
    bd (α := Bool) (gd ((0 : Int) ≤ s6.1 ∧ s6.1 < ((ids.length : Nat) : Int)) <|
    gd ((decide ((ids.getD s6.1.toNat default) < 1)) = false → ((0 : Int) ≤ s6.1 ∧ s6.1 < ((ids.length : Nat) : Int))) <|
    (if ((decide ((ids.getD s6.1.toNat default) < 1)) || (decide ((ids.getD s6.1.toNat default) > 1000))) = true then
    some false
    else
    some s6.2)) fun x10 =>
    bd (lp (σ := Int × Bool) (β := (Bool)) (fun s15 =>
    (if (decide (s15.1 < s6.1)) = true then
    gd ((0 : Int) ≤ s15.1 ∧ s15.1 < ((ids.length : Nat) : Int)) <|
    gd ((0 : Int) ≤ s6.1 ∧ s6.1 < ((ids.length : Nat) : Int)) <|
    (if ((ids.getD s15.1.toNat default) == (ids.getD s6.1.toNat default)) = true then
    some (.inl (IntKind.i64.wrap (s15.1 + 1), false))
    else
    some (.inl (IntKind.i64.wrap (s15.1 + 1), s15.2)))
    else
    some (.inr s15.2))) (0, x10)) fun x18 =>
    some (.inl (IntKind.i64.wrap (s6.1 + 1), x18))
    else
    some (.inr s6.2)))) ids.length (fun i => ((i : Int), linksOk ids.length ls && idsOk ids i)) (linksOk ids.length ls && idsOk ids ids.length) (fun i hi => ?_) (by rw [if_neg (by simp)])
  · rw [show (((0 : Nat) : Int), linksOk ids.length ls && idsOk ids 0) = ((0 : Int), linksOk ids.length ls) by simp [idsOk, allR_zero]] at this
    exact this
  · rw [if_pos (by simp; omega), gd_pos (by dsimp only; omega), gd_pos (fun _ => by dsimp only; omega)]
    have e : (if ((decide ((ids.getD ((i : Int), linksOk ids.length ls && idsOk ids i).1.toNat default) < 1)) || (decide ((ids.getD ((i : Int), linksOk ids.length ls && idsOk ids i).1.toNat default) > 1000))) = true then some false else some ((i : Int), linksOk ids.length ls && idsOk ids i).2) = some ((linksOk ids.length ls && idsOk ids i) && inR (ids.getD i default) 1 1000) := by
      dsimp only
      rw [Int.toNat_natCast]
      unfold inR
      by_cases c1 : ids.getD i default < 1
      · rw [if_pos (by simp only [Bool.or_eq_true, decide_eq_true_eq]; exact .inl c1), decide_eq_false (p := 1 ≤ ids.getD i default) (by omega)]; simp
      · by_cases c2 : ids.getD i default > 1000
        · rw [if_pos (by simp only [Bool.or_eq_true, decide_eq_true_eq]; exact .inr c2), decide_eq_false (p := ids.getD i default ≤ 1000) (by omega)]; simp
        · rw [if_neg (by simp only [Bool.or_eq_true, decide_eq_true_eq]; omega), decide_eq_true (p := 1 ≤ ids.getD i default) (by omega), decide_eq_true (p := ids.getD i default ≤ 1000) (by omega)]; simp
    rw [e, bd_val]
    clear e
    have e2 : idsOk ids (i + 1) = (idsOk ids i && (inR (ids.getD i default) 1 1000 && allR i (fun k => !(ids.getD k default == ids.getD i default)))) := allR_succ
    rw [e2, ← Bool.and_assoc (linksOk ids.length ls) (idsOk ids i)]
    generalize (linksOk ids.length ls && idsOk ids i) = b at *
    have inner := lp_at (σ := Int × Bool) (β := Bool) (step := (fun s15 =>
      (if (decide (s15.1 < (i : Int))) = true then
      gd ((0 : Int) ≤ s15.1 ∧ s15.1 < ((ids.length : Nat) : Int)) <|
      gd ((0 : Int) ≤ (i : Int) ∧ (i : Int) < ((ids.length : Nat) : Int)) <|
      (if ((ids.getD s15.1.toNat default) == (ids.getD (i : Int).toNat default)) = true then
      some (.inl (IntKind.i64.wrap (s15.1 + 1), false))
      else
      some (.inl (IntKind.i64.wrap (s15.1 + 1), s15.2)))
      else
      some (.inr s15.2)))) i (fun k => ((k : Int), (b && inR (ids.getD i default) 1 1000) && allR k (fun k => !(ids.getD k default == ids.getD i default)))) ((b && inR (ids.getD i default) 1 1000) && allR i (fun k => !(ids.getD k default == ids.getD i default))) (fun k hk => by
        rw [if_pos (by simp; omega), gd_pos (by dsimp only; omega), gd_pos (by omega), allR_succ]
        simp only [Int.toNat_natCast]
        rw [wrap_succ hk (by omega)]
        cases ids.getD k default == ids.getD i default
        · simp
        · simp) (by rw [if_neg (by simp)])
    rw [allR_zero, Bool.and_true] at inner
    refine (bd_of inner).trans ?_
    rw [wrap_succ hi (by omega)]
    simp only [Bool.and_assoc]
theorem fnTreeOpen_q {ids : List Int} {ls : List TreeLink} (h0 : ids.length ≤ 100) (hl : ls.length ≤ 100) : linksOk ids.length ls = true ∧ worldOk (newWorld ids ls) = true ↔ (linksOk ids.length ls && idsOk ids ids.length) = true := by
  rw [Bool.and_eq_true]
  exact ⟨fun h => ⟨h.1, newOk h.1 ▸ h.2⟩, fun h => ⟨h.1, (newOk h.1).trans h.2⟩⟩
theorem openWorld_ok {ids : List Int} {ls : List TreeLink} (h0 : ids.length ≤ 100) (hl : ls.length ≤ 100) : (openWorld ids ls).2 = (linksOk ids.length ls && idsOk ids ids.length) := by
  have := fnTreeOpen_q h0 hl
  unfold openWorld
  by_cases h : linksOk ids.length ls = true ∧ worldOk (newWorld ids ls) = true
  · rw [if_pos h, this.1 h]
  · rw [if_neg h]
    exact (Bool.eq_false_iff.2 fun e => h (this.2 e)).symm
theorem fnTreeOpen_p {a0 : List Int} (h : a0.length ≤ 9223372036854775807 ∧ ∀ x ∈ a0, FitsB x) : laws_FnTreeOpen_m a0 = some true := by
  unfold laws_FnTreeOpen_m
  by_cases hb : a0.length ≤ 1048576
  · rw [if_neg (by simp; omega)]
    obtain ⟨⟨ids, ls⟩, e, h1, h2⟩ := draw_post h.1 h.2
    dsimp only at h1 h2
    have hw := Len.mono (openWorld_len ids ls) (m := 1048576) (by omega)
    have hw2 := Len.mono (openWorld_len ids ls) (m := 9223372036854775807) (by omega)
    rw [e, bd_val]
    dsimp only
    rw [implOpenF_p (by omega) (by omega), bd_val, specOpen_p (by omega) (by omega), bd_val, wtWorld_p hw, gcall_val, bd_val, implLinksOk_p _ (by omega), bd_val]
    rw [if_neg (by simp)]
    refine (bd_of (right_p h1)).trans ?_
    rw [fz_eq, implTreePasses_p hw2, gcall_val, bd_val, ← openWorld_ok h1 h2]
    refine congrArg some ?_
    cases hk : (openWorld ids ls).2
    · simp
    · have hl := fnTreeOpen_q h1 h2 |>.2 (by rw [← openWorld_ok h1 h2]; exact hk)
      have hx : (openWorld ids ls).1 = newWorld ids ls := by unfold openWorld; rw [if_pos hl]
      rw [if_pos (by simp), hx, newPasses hl.1 hl.2]
      simp
  · rw [if_pos (by simp; omega)]

end Go.Proofs.Ytbolhcpkpncmfaa
