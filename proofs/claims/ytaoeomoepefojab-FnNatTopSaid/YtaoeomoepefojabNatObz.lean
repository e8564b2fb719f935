/-
  Plain Lean: a flow goes out: the program's and the reference's are the same function.
-/
import Derived.Test.YtaoeomoepefojabKz3
import Derived.Test.YtaoeomoepefojabNatW3z
import Derived.Test.YtaoeomoepefojabNatW2z
import Derived.Test.YtaoeomoepefojabPoz
set_option linter.all false
namespace Go.Proofs.Ytaoeomoepefojab
open Go Go.Ab
set_option maxHeartbeats 400000

theorem half_p {a : Int} (h0 : 0 ≤ a) (h1 : a ≤ 4611686018427387904) : IntKind.i64.wrap ((IntKind.u64.wrap (IntKind.i64.wrap a) : Int).fdiv (2 ^ min (1 : Int).toNat IntKind.u64.bits)) = a / 2 := by
  rw [wrap_i64 (n := a) (by omega) (by omega)]
  have e : IntKind.u64.wrap a = a := by
    show a % 18446744073709551616 = a
    omega
  rw [e, show (2 : Int) ^ min (1 : Int).toNat IntKind.u64.bits = 2 from rfl, Int.fdiv_eq_ediv_of_nonneg _ (by decide), wrap_i64 (by omega) (by omega)]

/-! The reference. -/
def optI (o : Option Nat) : Int := match o with | some i => (i : Int) | none => -1
theorem specDoor_p {b : NatBook} (h : b.Doors.length ≤ 1048576) (f : NatFlow) : spec_l23Door_m b f = some (optI (firstR (doorFor b f) b.Doors.length)) := by
  unfold spec_l23Door_m
  rw [lp_first b.Doors.length (doorFor b f) (fun i => Sum.inl (i : Int)) (.inr ()) (fun i hi => ?_) (by rw [if_neg (by simp)]), bd_val]
  · cases firstR (doorFor b f) b.Doors.length <;> rfl
  · rw [if_pos (by simp; omega), gd_pos (by omega), gd_pos (fun _ => by omega), gd_pos (fun _ => by omega), Int.toNat_natCast, wrap_succ hi (by omega)]
    unfold doorFor
    split <;> rfl
theorem specEntry_p {b : NatBook} (h : b.Entries.length ≤ 1048576) (f : NatFlow) : spec_l23Entry_m b f = some (optI (firstR (entFor b f) b.Entries.length)) := by
  unfold spec_l23Entry_m
  rw [lp_first b.Entries.length (entFor b f) (fun i => Sum.inl (i : Int)) (.inr ()) (fun i hi => ?_) (by rw [if_neg (by simp)]), bd_val]
  · cases firstR (entFor b f) b.Entries.length <;> rfl
  · rw [if_pos (by simp; omega), gd_pos (by omega), Int.toNat_natCast, specIs_p, bd_val, gd_pos (fun _ => by omega), specLive_p, gcall_b, bd_val, wrap_succ hi (by omega)]
    unfold entFor
    generalize flowEq (b.Entries.getD i default).flow f = x
    generalize live b (b.Entries.getD i default) = y
    cases x <;> cases y <;> rfl
theorem specTaken_p {b : NatBook} (h : b.Entries.length ≤ 1048576) (f : NatFlow) (p : Int) : spec_l23Taken_m b f p = some (taken b f p) := by
  have e : taken b f p = !allR b.Entries.length (fun i => !takes f p (b.Entries.getD i default)) := by
    rw [Bool.eq_iff_iff]
    constructor
    · intro h
      obtain ⟨e, he, ht⟩ := List.any_eq_true.1 h
      obtain ⟨i, hi, rfl⟩ := mem_getD he
      rw [allR_false hi (by rw [ht]; rfl)]; rfl
    · intro h
      cases ht : taken b f p
      · have := taken_false.1 ht
        rw [allR_of fun i hi => by rw [this _ (getD_mem hi)]; rfl] at h
        exact h
      · rfl
  unfold spec_l23Taken_m
  rw [lp_all b.Entries.length (fun i => !takes f p (b.Entries.getD i default)) (.inl ()) (.inr ()) (fun i hi _ => ?_) (fun _ => by rw [if_neg (by simp)]), bd_val, e]
  · cases allR b.Entries.length (fun i => !takes f p (b.Entries.getD i default)) <;> rfl
  · rw [if_pos (by simp; omega), gd_pos (by omega), Int.toNat_natCast, wrap_succ hi (by omega)]
    show (if takes f p (b.Entries.getD i default) = true then _ else _) = _
    cases takes f p (b.Entries.getD i default) <;> rfl
theorem lp_from {β : Type} {step : Int → Option (Int ⊕ β)} (lo : Int) (n : Nat) (p : Nat → Bool) (h : Nat → β) (d : β) (h1 : ∀ i : Nat, i < n → step (lo + i) = some (if p i = true then .inr (h i) else .inl (lo + (i : Int) + 1))) (h2 : step (lo + n) = some (.inr d)) :
    lp step lo = some (((firstR p n).map h).getD d) := by
  have key : ∀ k i : Nat, i + k = n → (∀ x, x < i → p x = false) → lp step (lo + (i : Int)) = some (((firstR p n).map h).getD d) := by
    intro k
    induction k with
    | zero =>
      intro i hi hx
      have : i = n := by omega
      subst this
      rw [lp_done h2, firstR_none_iff.2 hx]; rfl
    | succ k ih =>
      intro i hi hx
      have hs := h1 i (by omega)
      cases hp : p i
      · rw [hp] at hs
        rw [lp_more hs]
        have := ih (i + 1) (by omega) fun x hx' => by
          rcases Nat.lt_or_ge x i with c | c
          · exact hx x c
          · have : x = i := by omega
            subst this; exact hp
        rw [show lo + (i : Int) + 1 = lo + ((i + 1 : Nat) : Int) by omega]
        exact this
      · rw [hp] at hs
        rw [lp_done hs]
        have : firstR p n = some i := by
          cases e : firstR p n with
          | none => have := firstR_none e i (by omega); rw [hp] at this; cases this
          | some j =>
            obtain ⟨a1, a2, a3⟩ := firstR_some e
            rcases Nat.lt_trichotomy i j with c | c | c
            · have := a3 i c; rw [hp] at this; cases this
            · rw [c]
            · have := hx j c; rw [a2] at this; cases this
        rw [this]; rfl
  have := key n 0 (by omega) fun x hx => by omega
  simpa using this
theorem specFree_p {b : NatBook} (h : b.Entries.length ≤ 1048576) (h1 : 1 ≤ b.Low) (h2 : b.Low ≤ b.High) (h3 : b.High ≤ 65535) (f : NatFlow) : spec_l23Free_m b f = some (freePort b f) := by
  unfold spec_l23Free_m freePort
  rw [lp_from b.Low (b.High - b.Low + 1).toNat (fun i => !taken b f (b.Low + (i : Int))) (fun i => Sum.inl (b.Low + (i : Int))) (.inr ()) (fun i hi => ?_) (by rw [if_neg (by simp; omega)]), bd_val]
  · cases firstR (fun i => !taken b f (b.Low + (i : Int))) (b.High - b.Low + 1).toNat <;> rfl
  · rw [if_pos (by simp; omega), specTaken_p h, bd_val, wrap_i64 (by omega) (by omega)]
    cases taken b f (b.Low + (i : Int)) <;> rfl
theorem takeWhile_len {α : Type} {p : α → Bool} [Inhabited α] : ∀ (xs : List α), (∀ k, k < (xs.takeWhile p).length → p (xs.getD k default) = true) ∧ (∀ h : (xs.takeWhile p).length < xs.length, p (xs.getD (xs.takeWhile p).length default) = false) ∧ (xs.takeWhile p).length ≤ xs.length ∧ xs.take (xs.takeWhile p).length = xs.takeWhile p ∧ xs.drop (xs.takeWhile p).length = xs.dropWhile p
  | [] => ⟨fun k h => by simp at h, fun h => by simp at h, Nat.le_refl _, rfl, rfl⟩
  | x :: r => by
    obtain ⟨i1, i2, i3, i4, i5⟩ := takeWhile_len (p := p) r
    rw [List.takeWhile_cons, List.dropWhile_cons]
    cases hp : p x
    · exact ⟨fun k h => by simp at h, fun h => by simpa using hp, by simp, by simp, by simp⟩
    · simp only [if_true, List.length_cons]
      refine ⟨fun k h => ?_, fun h => ?_, by omega, by simp [i4], by simp [i5]⟩
      · cases k with
        | zero => simpa using hp
        | succ k => simpa using i1 k (by omega)
      · simpa using i2 (by omega)
theorem specPut_p {xs : List NatEntry} (h : xs.length ≤ 1048576) (e : NatEntry) : spec_l23Put_m xs e = some (putE xs e) := by
  obtain ⟨w1, w2, w3, w4, w5⟩ := takeWhile_len (p := fun x => entryLess x e) xs
  unfold spec_l23Put_m
  have key : lp (σ := Int) (β := (Int)) (fun s1 =>
      gd ((decide (s1 < ((xs.length : Nat) : Int))) = true → ((0 : Int) ≤ s1 ∧ s1 < ((xs.length : Nat) : Int))) <|
      bd (gcall ((decide (s1 < ((xs.length : Nat) : Int))) = true) (spec_l22Less_m (xs.getD s1.toNat default) e)) fun x6 =>
      (if ((decide (s1 < ((xs.length : Nat) : Int))) && x6) = true then
      some (.inl (IntKind.i64.wrap (s1 + 1)))
      else
      some (.inr s1))) 0 = some (((xs.takeWhile fun x => entryLess x e).length : Int)) := by
    have := lp_all (step := (fun s1 : Int =>
      gd ((decide (s1 < ((xs.length : Nat) : Int))) = true → ((0 : Int) ≤ s1 ∧ s1 < ((xs.length : Nat) : Int))) <|
      bd (gcall ((decide (s1 < ((xs.length : Nat) : Int))) = true) (spec_l22Less_m (xs.getD s1.toNat default) e)) fun x6 =>
      (if ((decide (s1 < ((xs.length : Nat) : Int))) && x6) = true then
      some (.inl (IntKind.i64.wrap (s1 + 1)))
      else
      some (.inr s1) : Option (Int ⊕ Int)))) (xs.takeWhile fun x => entryLess x e).length (fun _ => true) (((xs.takeWhile fun x => entryLess x e).length : Int)) (((xs.takeWhile fun x => entryLess x e).length : Int)) (fun i hi _ => by
        have hd : decide ((i : Int) < ((xs.length : Nat) : Int)) = true := by simp; omega
        rw [gd_pos (fun _ => by omega), Int.toNat_natCast, specLess_p, gcall_pos hd, bd_val, w1 i hi, hd, Bool.and_self, if_pos rfl, wrap_succ hi (by omega), if_pos rfl]) (fun _ => by
        rw [gd_pos (fun c => by simp only [decide_eq_true_eq] at c; omega), Int.toNat_natCast, specLess_p, gcall_b, bd_val]
        by_cases c : (xs.takeWhile fun x => entryLess x e).length < xs.length
        · rw [w2 c, if_neg (by simp)]
        · rw [if_neg (by simp; omega)])
    rw [this, if_pos (allR_of fun _ _ => rfl)]
  rw [key, bd_val]
  rw [gd_pos (by omega), gd_pos (by omega), gd_pos (by simp; omega), gd_pos (by omega), gd_pos (by simp [dsub_eq]; omega), Int.toNat_natCast, w4]
  have e1 : (xs.take ((xs.takeWhile fun x => entryLess x e).length + dsub ((xs.length : Nat) : Int) ((xs.takeWhile fun x => entryLess x e).length : Int))).drop (xs.takeWhile fun x => entryLess x e).length = xs.dropWhile fun x => entryLess x e := by
    rw [List.take_of_length_le (by simp [dsub_eq]; omega), w5]
  rw [e1]
  unfold putE
  simp
theorem specOut_p {b : NatBook} (f : NatFlow) : spec_NatOut_m b f = some (natOut b f) := by
  unfold spec_NatOut_m natOut
  rw [specBookOk_p, bd_val]
  cases hok : b.ok
  · rfl
  · obtain ⟨hd, he⟩ := ok_lens hok
    have hf := ok_frame hok
    have fr := frame_range hf
    have hn := (frameOk_spec hf).1
    have ec : spec_l22Copy_m b = some b := by
      unfold spec_l22Copy_m
      rw [gd_pos (by omega), gd_pos (by omega)]
    rw [if_neg (by decide), if_neg (by decide), ec, bd_val, specFlowOk_p, bd_val]
    cases h1 : flowOk f
    · rfl
    · rw [if_neg (c := (!true) = true) (by decide), if_neg (c := true = false) (by decide), specInside_p hn, bd_val, specInside_p hn, gcall_nb, bd_val]
      by_cases h2 : b.inside f.From = false ∨ b.inside f.To = true ∨ f.To = b.Own
      · rw [if_pos h2, if_pos]
        · rfl
        · cases q1 : b.inside f.From <;> cases q2 : b.inside f.To <;> simp_all
      · rw [if_neg h2, if_neg (by
          cases q1 : b.inside f.From <;> cases q2 : b.inside f.To <;> simp_all)]
        unfold outOf
        rw [specDoor_p (by omega), bd_val]
        cases hD : firstR (doorFor b f) b.Doors.length with
        | some i =>
          obtain ⟨q1, _, _⟩ := firstR_some hD
          unfold optI
          dsimp only
          rw [if_pos (by simp), gd_pos (by omega), Int.toNat_natCast]
          rfl
        | none =>
          unfold optI
          dsimp only
          rw [if_neg (by decide), specEntry_p (by omega), bd_val]
          cases hE : firstR (entFor b f) b.Entries.length with
          | some k =>
            obtain ⟨q1, _, _⟩ := firstR_some hE
            unfold optI
            dsimp only
            rw [if_pos (by simp), gd_pos (by omega), gd_pos (by omega), Int.toNat_natCast]
            rfl
          | none =>
            unfold optI
            dsimp only
            rw [if_neg (c := decide ((-1 : Int) ≥ 0) = true) (by decide)]
            by_cases h3 : b.Entries.length = 16
            · rw [if_pos (by simp [h3]), if_pos h3]; rfl
            · rw [if_neg (c := (((b.Entries.length : Nat) : Int) == 16) = true) (by simp; omega), if_neg h3, specFree_p (by omega) fr.2.2.2.1 fr.2.2.2.2.1 fr.2.2.2.2.2.1, bd_val]
              by_cases h4 : freePort b f = 0
              · rw [if_pos (by simp [h4]), if_pos h4]; rfl
              · rw [if_neg (by simp [h4]), if_neg h4, specPut_p (by omega), bd_val]
                rfl

/-! The program. -/
theorem implCopyB_q {b : NatBook} (hd : b.Doors.length ≤ 1048576) (he : b.Entries.length ≤ 1048576) : impl_copyBook_m b = some b := by
  have e1 : impl_clone_NatDoor_m b.Doors = some b.Doors := by
    unfold impl_clone_NatDoor_m
    rw [gd_pos (by omega), gd_pos (by simp; omega)]; rfl
  have e2 : impl_clone_NatEntry_m b.Entries = some b.Entries := by
    unfold impl_clone_NatEntry_m
    rw [gd_pos (by omega), gd_pos (by simp; omega)]; rfl
  unfold impl_copyBook_m
  rw [e1, bd_val, e2, bd_val]
theorem implFree_p {b : NatBook} (hok : b.ok = true) (f : NatFlow) : impl_NatBook_freePort_m b f = some (freePort b f) := by
  obtain ⟨hd, he⟩ := ok_lens hok
  have fr := frame_range (ok_frame hok)
  have e2 := (entries_iff.1 (ok_parts.1 hok).2.2).2.1
  unfold impl_NatBook_freePort_m
  rw [gd_pos ⟨by omega, by omega, by omega, fun e hm => by
    have := (entryOk_iff.1 (e2 e hm)).outer
    omega⟩]
  rfl
theorem cmp4_neg {e f : NatEntry} : cmp4 e f < 0 ↔ entryLess e f = true := by
  have h1 := entryLess_cmp e f
  cases h : entryLess e f <;> rw [h] at h1 <;> simp at h1 <;> simp <;> omega
theorem bsearchE_p {xs : List NatEntry} (hp : xs.Pairwise fun x y => entryLess x y = true) (hl : xs.length ≤ 1048576) (a : NatEntry) :
    Post (slices_BinarySearchFunc_NatEntry_NatEntry_NatEntry_impl_NatEntry_compare_m xs a) fun x => x.1 = ((xs.takeWhile fun x => entryLess x a).length : Int) := by
  obtain ⟨w1, w2, w3, w4, w5⟩ := takeWhile_len (p := fun x => entryLess x a) xs
  have hi : ∀ k, (xs.takeWhile fun x => entryLess x a).length ≤ k → k < xs.length → entryLess (xs.getD k default) a = false := fun k h1 h2 => by
    have h0 := w2 (by omega)
    cases hc : entryLess (xs.getD k default) a
    · rfl
    · rcases Nat.eq_or_lt_of_le h1 with c | c
      · rw [← c, h0] at hc; cases hc
      · have := List.pairwise_iff_getElem.1 hp _ k (by omega) h2 c
        have g1 : xs.getD k default = xs[k] := by rw [List.getD_eq_getElem?_getD, List.getElem?_eq_getElem h2]; rfl
        have g2 : xs.getD (xs.takeWhile fun x => entryLess x a).length default = xs[(xs.takeWhile fun x => entryLess x a).length]'(by omega) := by rw [List.getD_eq_getElem?_getD, List.getElem?_eq_getElem (by omega)]; rfl
        rw [g2] at h0
        rw [g1] at hc
        rw [entryLess_trans this hc] at h0
        cases h0
  unfold slices_BinarySearchFunc_NatEntry_NatEntry_NatEntry_impl_NatEntry_compare_m
  generalize (xs.takeWhile fun x => entryLess x a).length = L at *
  refine .bd (Q := fun x => x = (L : Int)) (.lp (fun s => 0 ≤ s.2 ∧ s.2 ≤ (L : Int) ∧ (L : Int) ≤ s.1 ∧ s.1 ≤ (xs.length : Int)) (fun s => (s.1 - s.2).toNat) ⟨Int.le_refl _, by dsimp only; omega, by dsimp only; omega, Int.le_refl _⟩ fun s ⟨i1, i2, i3, i4⟩ => ?_) fun x hx => ?_
  · refine .ite (fun c => ?_) fun c => .ret ?_
    · simp only [decide_eq_true_eq] at c
      rw [half_p (by omega) (by omega)]
      refine .gd (by decide) (.gd ⟨by omega, by omega⟩ ?_)
      rw [implCompare_p, bd_val, wrap_i64 (n := (s.2 + s.1) / 2 + 1) (by omega) (by omega)]
      refine .ite (fun c2 => ?_) fun c2 => ?_
      · simp only [decide_eq_true_eq] at c2
        have c3 := cmp4_neg.1 c2
        refine .ret ⟨⟨by dsimp only; omega, ?_, by dsimp only; omega, i4⟩, by dsimp only; omega⟩
        dsimp only
        refine Int.not_lt.1 fun hlt => ?_
        have := hi ((s.2 + s.1) / 2).toNat (by omega) (by omega)
        rw [this] at c3; cases c3
      · simp only [decide_eq_true_eq] at c2
        refine .ret ⟨⟨i1, i2, ?_, by dsimp only; omega⟩, by dsimp only; omega⟩
        dsimp only
        refine Int.not_lt.1 fun hlt => c2 (cmp4_neg.2 (w1 _ (by omega)))
    · simp only [decide_eq_true_eq] at c
      show s.2 = _
      omega
  · subst hx
    refine .gd (fun c => ?_) ?_
    · simp only [decide_eq_true_eq] at c; omega
    · rw [implCompare_p, gcall_val, bd_val]
      exact .ret rfl
theorem implPort_p {b : NatBook} (hok : b.ok = true) (f : NatFlow) : impl_NatBook_outPort_m b f = some ((outOf b f).2.1.FromPort, (outOf b f).2.2, (outOf b f).1) ∧ ((outOf b f).2.2 = 0 → (outOf b f).2.1 = under b f (outOf b f).2.1.FromPort) ∧ ((outOf b f).2.2 ≠ 0 → (outOf b f).2.1 = noFlow) := by
  obtain ⟨hd, he⟩ := ok_lens hok
  unfold impl_NatBook_outPort_m outOf
  rw [lp_first b.Doors.length (doorFor b f) (fun i => Sum.inl (b.Doors.getD i default).Outer) (.inr ()) (fun i hi => ?_) (by rw [if_neg (by simp)]), bd_val]
  · cases hD : firstR (doorFor b f) b.Doors.length with
    | some i => exact ⟨rfl, fun _ => rfl, fun h => absurd rfl h⟩
    | none =>
      simp only [Option.map_none, Option.getD_none]
      rw [lp_first b.Entries.length (entFor b f) (fun i => Sum.inl ((b.Entries.getD i default).Outer, b.Entries.set i (seen b (b.Entries.getD i default)))) (.inr ()) (fun i hi => ?_) (by rw [if_neg (by simp)]), bd_val]
      · cases hE : firstR (entFor b f) b.Entries.length with
        | some i => exact ⟨rfl, fun _ => rfl, fun h => absurd rfl h⟩
        | none =>
          simp only [Option.map_none, Option.getD_none]
          by_cases h3 : b.Entries.length = 16
          · rw [if_pos (by simp [h3]), if_pos h3]
            exact ⟨rfl, fun h => absurd (show (4 : Int) = 0 from h) (by decide), fun _ => rfl⟩
          · rw [if_neg (by simp; omega), if_neg h3, implFree_p hok, bd_val]
            by_cases h4 : freePort b f = 0
            · rw [if_pos (by simp [h4]), if_pos h4]
              exact ⟨rfl, fun h => absurd (show (5 : Int) = 0 from h) (by decide), fun _ => rfl⟩
            · rw [if_neg (by simp [h4]), if_neg h4]
              have e3 := (entries_iff.1 (ok_parts.1 hok).2.2).2.2
              obtain ⟨x, ex, hx⟩ := bsearchE_p (e3.imp fun h => h.1) (by omega) (newE b f (freePort b f))
              obtain ⟨w1, w2, w3, w4, w5⟩ := takeWhile_len (p := fun x => entryLess x (newE b f (freePort b f))) b.Entries
              refine ⟨?_, fun _ => rfl, fun h => absurd rfl h⟩
              refine (congrArg (fun m => bd m _) ex).trans ?_
              rw [bd_val, hx]
              unfold slices_Insert_NatEntry_NatEntry_m
              rw [gd_pos ⟨by omega, by simp, by simp; omega⟩, bd_val, Int.toNat_natCast]
              unfold insL
              rw [w4, w5]
              unfold putE
              rw [List.append_assoc]
              rfl
      · rw [if_pos (by simp; omega), gd_pos (by omega), Int.toNat_natCast, implLives_p, bd_val, implFlow_p, gcall_val, bd_val, gd_pos (by omega), wrap_succ hi (by omega)]
        unfold entFor flowEq
        cases live b (b.Entries.getD i default)
        · rw [Bool.and_false]; rfl
        · rw [if_pos rfl, Bool.and_true, Bool.true_and, Bool.and_true]
          simp only [Bool.and_assoc]
          split <;> rfl
  · rw [if_pos (by simp; omega), gd_pos (by omega), Int.toNat_natCast, wrap_succ hi (by omega)]
    unfold doorFor
    split <;> rfl

end Go.Proofs.Ytaoeomoepefojab
