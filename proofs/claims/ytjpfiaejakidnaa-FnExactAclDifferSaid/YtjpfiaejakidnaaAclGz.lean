/-
  Plain Lean: the addresses at which something may change, impl's and the reference's alike.
-/
import Derived.Test.YtjpfiaejakidnaaKz3
import Derived.Test.YtjpfiaejakidnaaAclPz
import Derived.Test.YtjpfiaejakidnaaPoBz
set_option linter.all false
namespace Go.Proofs.Ytjpfiaejakidnaa
open Go Go.Ab
set_option maxHeartbeats 400000

def SInc (xs : List Int) : Prop := xs.Pairwise (· < ·)
theorem sinc_ext : ∀ {xs ys : List Int}, SInc xs → SInc ys → (∀ x, x ∈ xs ↔ x ∈ ys) → xs = ys
  | [], [], _, _, _ => rfl
  | [], y :: ys, _, _, h => absurd ((h y).2 (by simp)) (by simp)
  | x :: xs, [], _, _, h => absurd ((h x).1 (by simp)) (by simp)
  | x :: xs, y :: ys, hx, hy, h => by
    obtain ⟨a1, a2⟩ := List.pairwise_cons.1 hx
    obtain ⟨b1, b2⟩ := List.pairwise_cons.1 hy
    have e : x = y := by
      rcases List.mem_cons.1 ((h x).1 (by simp)) with e | e
      · exact e
      · rcases List.mem_cons.1 ((h y).2 (by simp)) with e2 | e2
        · exact e2.symm
        · have := a1 y e2; have := b1 x e; omega
    subst e
    rw [sinc_ext a2 b2 fun z => ⟨fun hz => ?_, fun hz => ?_⟩]
    · rcases List.mem_cons.1 ((h z).1 (List.mem_cons_of_mem _ hz)) with e | e
      · have := a1 z hz; omega
      · exact e
    · rcases List.mem_cons.1 ((h z).2 (List.mem_cons_of_mem _ hz)) with e | e
      · have := b1 z hz; omega
      · exact e

theorem compact_sinc {zs : List Int} (h : zs.Pairwise (· ≤ ·)) : SInc (Lib.compact zs) ∧ ∀ x, x ∈ Lib.compact zs ↔ x ∈ zs := by
  have hd : ∀ j, j < zs.length → zs.toArray[j]! = zs.getD j default := fun j hj => by simp [List.getD_eq_getElem?_getD, hj]
  have hle : ∀ i j, i ≤ j → j < zs.length → zs.toArray[i]! ≤ zs.toArray[j]! := fun i j hij hj => by
    rcases Nat.lt_or_ge i j with h1 | h1
    · have := List.pairwise_iff_getElem.1 h i j (by omega) hj h1
      simpa [show i < zs.length by omega, hj] using this
    · have : i = j := by omega
      subst this; exact Int.le_refl _
  have key : ∀ m, m ≤ zs.length → SInc (Lib.compactUpTo zs.toArray m) ∧ ∀ x, x ∈ Lib.compactUpTo zs.toArray m ↔ ∃ j, j < m ∧ zs.toArray[j]! = x := by
    intro m
    induction m with
    | zero => intro _; exact ⟨by simp [Lib.compactUpTo, SInc], fun x => by simp [Lib.compactUpTo]⟩
    | succ m ih =>
      intro hm
      obtain ⟨i1, i2⟩ := ih (by omega)
      rw [Lib.compactUpTo_succ]
      by_cases hk : Lib.keeps zs.toArray m = true
      · rw [if_pos hk]
        refine ⟨List.pairwise_append.2 ⟨i1, by simp, fun a ha b hb => ?_⟩, fun x => ?_⟩
        · simp only [List.mem_singleton] at hb
          subst hb
          obtain ⟨j, hj, rfl⟩ := (i2 a).1 ha
          have hne : zs.toArray[m]! ≠ zs.toArray[m - 1]! := by
            simp only [Lib.keeps, decide_eq_true_eq] at hk
            rcases hk with hk | hk
            · omega
            · exact hk
          have h1 := hle j (m - 1) (by omega) (by omega)
          have h2 := hle (m - 1) m (by omega) (by omega)
          omega
        · rw [List.mem_append, i2, List.mem_singleton]
          constructor
          · rintro (⟨j, hj, e⟩ | e)
            · exact ⟨j, by omega, e⟩
            · exact ⟨m, by omega, e.symm⟩
          · rintro ⟨j, hj, e⟩
            by_cases hjm : j = m
            · subst hjm; exact .inr e.symm
            · exact .inl ⟨j, by omega, e⟩
      · rw [if_neg hk, List.append_nil]
        refine ⟨i1, fun x => ?_⟩
        rw [i2]
        simp only [Lib.keeps, decide_eq_true_eq, not_or, Classical.not_not, ne_eq] at hk
        constructor
        · rintro ⟨j, hj, e⟩; exact ⟨j, by omega, e⟩
        · rintro ⟨j, hj, e⟩
          by_cases hjm : j = m
          · subst hjm; exact ⟨j - 1, by omega, by rw [← hk.2]; exact e⟩
          · exact ⟨j, by omega, e⟩
  obtain ⟨k1, k2⟩ := key zs.length (Nat.le_refl _)
  refine ⟨k1, fun x => ?_⟩
  unfold Lib.compact
  rw [k2, List.mem_iff_getElem]
  constructor
  · rintro ⟨j, hj, e⟩; exact ⟨j, hj, by rw [← e]; simp [hj]⟩
  · rintro ⟨j, hj, e⟩; exact ⟨j, hj, by rw [← e]; simp [hj]⟩

/-- Where something may change. -/
def Cut (ps : List NetPrefix) (x : Int) : Prop := x = 0 ∨ ∃ p ∈ ps, x = p.Addr ∨ (x = p.Addr + netSize p.Len ∧ x ≤ 65535)
def IsGrid (ps : List NetPrefix) (g : List Int) : Prop := SInc g ∧ (∀ x, x ∈ g ↔ Cut ps x) ∧ g.length ≤ 1 + 2 * ps.length
theorem grid_one {ps qs : List NetPrefix} {g h : List Int} (hg : IsGrid ps g) (hh : IsGrid qs h) (e : ∀ p, p ∈ ps ↔ p ∈ qs) : g = h :=
  sinc_ext hg.1 hh.1 fun x => by
    rw [hg.2.1, hh.2.1]
    unfold Cut
    simp only [e]
theorem mem_take_succ {α : Type} [Inhabited α] {xs : List α} {i : Nat} (hi : i < xs.length) {p : α} : p ∈ xs.take (i + 1) ↔ p ∈ xs.take i ∨ p = xs.getD i default := by
  rw [List.take_add_one, List.mem_append]
  simp [List.getD_eq_getElem?_getD, hi, eq_comm]
theorem cut_succ {ps : List NetPrefix} {i : Nat} (hi : i < ps.length) {x : Int} : Cut (ps.take (i + 1)) x ↔ Cut (ps.take i) x ∨ x = (ps.getD i default).Addr ∨ (x = (ps.getD i default).Addr + netSize (ps.getD i default).Len ∧ x ≤ 65535) := by
  unfold Cut
  constructor
  · rintro (h | ⟨p, hp, h⟩)
    · exact .inl (.inl h)
    · rcases (mem_take_succ hi).1 hp with hp | rfl
      · exact .inl (.inr ⟨p, hp, h⟩)
      · exact .inr h
  · rintro ((h | ⟨p, hp, h⟩) | h)
    · exact .inl h
    · exact .inr ⟨p, (mem_take_succ hi).2 (.inl hp), h⟩
    · exact .inr ⟨_, (mem_take_succ hi).2 (.inr rfl), h⟩

theorem getD_mem {α : Type} [Inhabited α] {xs : List α} {i : Nat} (hi : i < xs.length) : xs.getD i default ∈ xs := by
  rw [List.getD_eq_getElem?_getD, List.getElem?_eq_getElem hi]
  exact List.getElem_mem hi
theorem sinc_lt {xs : List Int} (h : SInc xs) {i j : Nat} (hij : i < j) (hj : j < xs.length) : xs.getD i default < xs.getD j default := by
  have := List.pairwise_iff_getElem.1 h i j (by omega) hj hij
  simpa [List.getD_eq_getElem?_getD, show i < xs.length by omega, hj] using this
theorem l4Put_post {xs : List Int} (h : SInc xs) (hl : xs.length ≤ 100000) (n : Int) : Post (spec_l4Put_m xs n) fun ys => SInc ys ∧ (∀ x, x ∈ ys ↔ x ∈ xs ∨ (x = n ∧ n ≤ 65535)) ∧ ys.length ≤ xs.length + 1 := by
  unfold spec_l4Put_m
  refine .bd (Q := fun k : Int => (0 ≤ k ∧ k ≤ xs.length) ∧ (∀ i : Nat, (i : Int) < k → xs.getD i default < n) ∧ (k < xs.length → ¬ xs.getD k.toNat default < n)) (.lp (fun s : Int => (0 ≤ s ∧ s ≤ xs.length) ∧ ∀ i : Nat, (i : Int) < s → xs.getD i default < n) (fun s : Int => (xs.length - s).toNat) ⟨by omega, fun i hi => by omega⟩ fun s ⟨h1, h2⟩ => ?_) fun k ⟨h1, h2, h3⟩ => ?_
  · refine .gd (fun c => by simp only [decide_eq_true_eq] at c; omega) (.ite (fun c => ?_) fun c => .ret ⟨h1, h2, fun hk hlt => c (by simp only [Bool.and_eq_true, decide_eq_true_eq]; exact ⟨hk, hlt⟩)⟩)
    simp only [Bool.and_eq_true, decide_eq_true_eq] at c
    rw [wrap_i64 (by omega) (by omega)]
    refine .ret ⟨⟨by omega, fun i hi => ?_⟩, by omega⟩
    by_cases e : (i : Int) < s
    · exact h2 i e
    · have : i = s.toNat := by omega
      rw [this]; exact c.2
  · refine .gd (fun c _ => by simp only [decide_eq_true_eq] at c; omega) (.ite (fun c => .ret ⟨h, fun x => ?_, by omega⟩) fun c => ?_)
    · simp only [Bool.or_eq_true, Bool.and_eq_true, decide_eq_true_eq, beq_iff_eq] at c
      refine ⟨.inl, fun hx => hx.elim (fun h => h) fun ⟨e, hn⟩ => ?_⟩
      rcases c with c | ⟨c1, c2⟩
      · omega
      · rw [e, ← c2]; exact getD_mem (by omega)
    · simp only [Bool.or_eq_true, Bool.and_eq_true, decide_eq_true_eq, beq_iff_eq, not_or, not_and] at c
      have hK : k.toNat ≤ xs.length := by omega
      refine .gd (by omega) (.gd (by omega) (.gd (by simp; omega) (.gd (by omega) (.gd (by simp [dsub_eq]; omega) (.ret ?_)))))
      have e : (xs.take (k.toNat + dsub ((xs.length : Nat) : Int) k)).drop k.toNat = xs.drop k.toNat := by
        rw [dsub_eq, List.take_of_length_le (by omega)]
      rw [e, List.append_assoc]
      refine ⟨List.pairwise_append.2 ⟨h.sublist (List.take_sublist _ _), List.pairwise_append.2 ⟨by simp, h.sublist (List.drop_sublist _ _), fun a ha b hb => ?_⟩, fun a ha b hb => ?_⟩, fun x => ?_, by simp; omega⟩
      · simp only [List.mem_singleton] at ha
        subst ha
        obtain ⟨j, hj, rfl⟩ := List.mem_iff_getElem.1 hb
        rw [List.length_drop] at hj
        have hlt : k < xs.length := by omega
        have h4 := h3 hlt
        have h5 := c.2 hlt
        rw [List.getElem_drop]
        rcases Nat.eq_zero_or_pos j with e | e
        · subst e
          have : xs[k.toNat + 0] = xs.getD k.toNat default := by simp [List.getD_eq_getElem?_getD, show k.toNat < xs.length by omega]
          rw [this]; omega
        · have h6 := sinc_lt h (i := k.toNat) (j := k.toNat + j) (by omega) (by omega)
          have : xs[k.toNat + j] = xs.getD (k.toNat + j) default := by simp [List.getD_eq_getElem?_getD, show k.toNat + j < xs.length by omega]
          rw [this]; omega
      · obtain ⟨j, hj, rfl⟩ := List.mem_iff_getElem.1 ha
        rw [List.length_take] at hj
        rw [List.getElem_take]
        have e1 : xs[j] = xs.getD j default := by simp [List.getD_eq_getElem?_getD, show j < xs.length by omega]
        rw [e1]
        have hjn := h2 j (by omega)
        rcases List.mem_append.1 hb with hb | hb
        · simp only [List.mem_singleton] at hb
          subst hb; exact hjn
        · obtain ⟨i, hi, rfl⟩ := List.mem_iff_getElem.1 hb
          rw [List.length_drop] at hi
          rw [List.getElem_drop]
          have : xs[k.toNat + i] = xs.getD (k.toNat + i) default := by simp [List.getD_eq_getElem?_getD, show k.toNat + i < xs.length by omega]
          rw [this]
          exact sinc_lt h (by omega) (by omega)
      · have hx : x ∈ xs ↔ x ∈ xs.take k.toNat ∨ x ∈ xs.drop k.toNat := by
          rw [← List.mem_append, List.take_append_drop]
        simp only [List.mem_append, List.mem_singleton, hx]
        constructor
        · rintro (h | h | h)
          · exact .inl (.inl h)
          · exact .inr ⟨h, by omega⟩
          · exact .inl (.inr h)
        · rintro ((h | h) | h)
          · exact .inl h
          · exact .inr (.inr h)
          · exact .inr (.inl h.1)

theorem l4Firsts_post {ps : List NetPrefix} (hp : ∀ i, i < ps.length → netOk (ps.getD i default) = true) (hl : ps.length ≤ 10000) : Post (spec_l4Firsts_m ps) (IsGrid ps) := by
  unfold spec_l4Firsts_m
  refine .bd (Q := IsGrid ps) (.lp (fun s => (0 ≤ s.2 ∧ s.2 ≤ ps.length) ∧ SInc s.1 ∧ (∀ x, x ∈ s.1 ↔ Cut (ps.take s.2.toNat) x) ∧ (s.1.length : Int) ≤ 1 + 2 * s.2) (fun s => (ps.length - s.2).toNat) ⟨by dsimp only; omega, by simp [SInc], fun x => by simp [Cut], by simp⟩ fun s ⟨i1, i2, i3, i4⟩ => ?_) fun x hx => .ret hx
  refine .ite (fun c => ?_) fun c => ?_
  · simp only [decide_eq_true_eq] at c
    have hn := hp s.2.toNat (by omega)
    obtain ⟨n1, n2, n3, n4⟩ := netOk_spec hn
    have hs := netSize_le n1
    have hz := netSize_pos (ps.getD s.2.toNat default).Len
    refine .gd (by omega) (.bd (l4Put_post i2 (by omega) _) fun x6 ⟨p1, p2, p3⟩ => .gd (by omega) (.gd (by omega) (.bd (Q := fun y => y = netSize (ps.getD s.2.toNat default).Len) ⟨_, l1Size_p n1 n2, rfl⟩ fun y hy => ?_)))
    subst hy
    rw [wrap_i64 (n := (ps.getD s.2.toNat default).Addr + netSize (ps.getD s.2.toNat default).Len) (by omega) (by omega)]
    refine .bd (l4Put_post p1 (by omega) _) fun x10 ⟨q1, q2, q3⟩ => ?_
    rw [wrap_i64 (n := s.2 + 1) (by omega) (by omega)]
    refine .ret ⟨⟨by dsimp only; omega, q1, fun x => ?_, by dsimp only; omega⟩, by dsimp only; omega⟩
    dsimp only
    rw [show (s.2 + 1).toNat = s.2.toNat + 1 by omega, cut_succ (by omega), q2, p2, i3]
    constructor
    · rintro ((h | h) | h)
      · exact .inl h
      · exact .inr (.inl h.1)
      · exact .inr (.inr ⟨h.1, by omega⟩)
    · rintro (h | h | h)
      · exact .inl (.inl h)
      · exact .inl (.inr ⟨h, by omega⟩)
      · exact .inr ⟨h.1, by omega⟩
  · simp only [decide_eq_true_eq] at c
    refine .ret ⟨i2, fun x => ?_, by omega⟩
    rw [i3, List.take_of_length_le (by omega)]

theorem last_p {p : NetPrefix} (h : netOk p = true) : impl_NetPrefix_last_m p = some (p.Addr + netSize p.Len - 1) := by
  obtain ⟨h1, h2, h3, h4⟩ := netOk_spec h
  have hs := netSize_le h1
  have hp := netSize_pos p.Len
  unfold impl_NetPrefix_last_m
  rw [size_p h1 h2, bd_val, wrap_i64 (n := p.Addr + netSize p.Len) (by omega) (by omega), wrap_i64 (by omega) (by omega)]

theorem sort_post {xs : List Int} (h : xs.length ≤ 1000000) : Post (slices_Sort_int_int_m xs) fun ys => ys.length = xs.length ∧ ys.Pairwise (· ≤ ·) ∧ ∀ x, x ∈ ys ↔ x ∈ xs := by
  unfold slices_Sort_int_int_m
  refine .gd (by omega) (.ret ⟨List.length_mergeSort _, ?_, fun x => List.mem_mergeSort⟩)
  refine (List.pairwise_mergeSort (fun a b c h1 h2 => ?_) (fun a b => ?_) xs).imp fun h => by simpa using h
  · simp only [decide_eq_true_eq] at *; omega
  · simp only [Bool.or_eq_true, decide_eq_true_eq]; omega

/-- impl's edges, of whatever prefix of a rule. -/
theorem edges_post {rs : List AclRule} (of : AclRule → NetPrefix) (fm : AclRule → Option NetPrefix) (hfm : ∀ r, fm r = some (of r)) (hok : ∀ i, i < rs.length → netOk (of (rs.getD i default)) = true) (hl : rs.length ≤ 10000) :
    Post (bd (lp (σ := List Int × Int) (β := (Nat × (List Int))) (fun s1 =>
(if (decide (s1.2 < ((rs.length : Nat) : Int))) = true then
 gd ((0 : Int) ≤ s1.2 ∧ s1.2 < ((rs.length : Nat) : Int)) <|
 bd (fm ({ (rs.getD s1.2.toNat default) with From := ((rs.getD s1.2.toNat default).From), To := ((rs.getD s1.2.toNat default).To) })) fun x6 =>
 gd (((s1.1.length) + (([x6.Addr] : List Int).length)) * (8 + 1) ≤ 70368744177664) <|
 bd (impl_NetPrefix_last_m x6) fun x7 =>
(if (decide (x7 < 65535)) = true then
 bd (impl_NetPrefix_last_m x6) fun x8 =>
 gd ((((s1.1 ++ ([x6.Addr] : List Int)).length) + (([IntKind.i64.wrap (x8 + 1)] : List Int).length)) * (8 + 1) ≤ 70368744177664) <|
 some (.inl (((s1.1 ++ ([x6.Addr] : List Int)) ++ ([IntKind.i64.wrap (x8 + 1)] : List Int)), IntKind.i64.wrap (s1.2 + 1)))
else
 some (.inl ((s1.1 ++ ([x6.Addr] : List Int)), IntKind.i64.wrap (s1.2 + 1))))
else
 some (.inr (s1.1.length, s1.1)))) (([0] : List Int), 0)) fun x4 =>
 bd (slices_Sort_int_int_m x4.2) fun x12 =>
 gd (x12.length = x4.1) <|
 bd (slices_Compact_int_int_m x12) fun x13 =>
 some x13) (IsGrid (rs.map of)) := by
  have hm : ∀ i, i < rs.length → (rs.map of).getD i default = of (rs.getD i default) := fun i hi => by simp [List.getD_eq_getElem?_getD, hi]
  refine .bd (Q := fun x => x.1 = x.2.length ∧ (∀ y, y ∈ x.2 ↔ Cut (rs.map of) y) ∧ x.2.length ≤ 1 + 2 * rs.length) (.lp (fun s => (0 ≤ s.2 ∧ s.2 ≤ rs.length) ∧ (∀ x, x ∈ s.1 ↔ Cut ((rs.map of).take s.2.toNat) x) ∧ (s.1.length : Int) ≤ 1 + 2 * s.2) (fun s => (rs.length - s.2).toNat) ⟨by dsimp only; omega, fun x => by simp [Cut], by simp⟩ fun s ⟨i1, i3, i4⟩ => ?_) fun x4 ⟨h1, h2, h3⟩ => ?_
  · refine .ite (fun c => ?_) fun c => ?_
    · simp only [decide_eq_true_eq] at c
      refine .gd (by omega) ?_
      rw [hfm, bd_val]
      dsimp only
      have hn := hok s.2.toNat (by omega)
      have hmi := hm s.2.toNat (by omega)
      generalize of (rs.getD s.2.toNat default) = p at *
      obtain ⟨n1, n2, n3, n4⟩ := netOk_spec hn
      have hs := netSize_le n1
      have hz := netSize_pos p.Len
      refine .gd (by simp; omega) ?_
      rw [last_p hn, bd_val, wrap_i64 (n := s.2 + 1) (by omega) (by omega)]
      have cs := fun x => cut_succ (ps := rs.map of) (i := s.2.toNat) (by simp; omega) (x := x)
      rw [hmi] at cs
      refine .ite (fun c2 => ?_) fun c2 => ?_
      · simp only [decide_eq_true_eq] at c2
        rw [bd_val, wrap_i64 (n := p.Addr + netSize p.Len - 1 + 1) (by omega) (by omega)]
        refine .gd (by simp; omega) (.ret ⟨⟨by dsimp only; omega, fun x => ?_, by simp; omega⟩, by dsimp only; omega⟩)
        dsimp only
        rw [show (s.2 + 1).toNat = s.2.toNat + 1 by omega, cs, List.mem_append, List.mem_append, i3, List.mem_singleton, List.mem_singleton]
        constructor
        · rintro ((h | h) | h)
          · exact .inl h
          · exact .inr (.inl h)
          · exact .inr (.inr (by omega))
        · rintro (h | h | h)
          · exact .inl (.inl h)
          · exact .inl (.inr h)
          · exact .inr (by omega)
      · simp only [decide_eq_true_eq] at c2
        refine .ret ⟨⟨by dsimp only; omega, fun x => ?_, by simp; omega⟩, by dsimp only; omega⟩
        dsimp only
        rw [show (s.2 + 1).toNat = s.2.toNat + 1 by omega, cs, List.mem_append, i3, List.mem_singleton]
        constructor
        · rintro (h | h)
          · exact .inl h
          · exact .inr (.inl h)
        · rintro (h | h | h)
          · exact .inl h
          · exact .inr h
          · omega
    · simp only [decide_eq_true_eq] at c
      refine .ret ⟨rfl, fun x => ?_, by dsimp only; omega⟩
      dsimp only
      rw [i3, List.take_of_length_le (by simp; omega)]
  · refine .bd (sort_post (by omega)) fun x12 ⟨s1, s2, s3⟩ => .gd (by rw [s1, h1]) ?_
    unfold slices_Compact_int_int_m
    obtain ⟨k1, k2⟩ := compact_sinc s2
    have hc := @compact_len x12
    exact .bd (Q := fun y => y = Lib.compact x12) (.gd (by omega) (.ret rfl)) fun y hy => .ret (by
      subst hy
      exact ⟨k1, fun x => by rw [k2, s3, h2], by simp; omega⟩)

end Go.Proofs.Ytjpfiaejakidnaa
