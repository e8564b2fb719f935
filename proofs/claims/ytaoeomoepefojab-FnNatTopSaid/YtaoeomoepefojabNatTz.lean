/-
  Plain Lean: a tick: the program's and the reference's are the same function.
-/
import Derived.Test.YtaoeomoepefojabKz3
import Derived.Test.YtaoeomoepefojabPoz
import Derived.Test.YtaoeomoepefojabNatP5z
set_option linter.all false
namespace Go.Proofs.Ytaoeomoepefojab
open Go Go.Ab
set_option maxHeartbeats 400000

/-- An entry that stays when the tick is told. -/
def keepW (now : Int) (e : NatEntry) : Bool := decide (IntKind.i64.wrap (now - e.Last) < 12)
def tickOf (b : NatBook) : NatBook := { b with Now := IntKind.i64.wrap (b.Now + 1), Entries := b.Entries.filter (keepW (IntKind.i64.wrap (b.Now + 1))) }
def natTick (b : NatBook) : NatBook × Int := if b.ok = true then if b.Now = 1000000 then (b, 2) else (tickOf b, 0) else (⟨0, 0, 0, 0, 0, [], 0, []⟩, 1)
theorem ok_lens {b : NatBook} (h : b.ok = true) : b.Doors.length ≤ 6 ∧ b.Entries.length ≤ 16 := by
  simp only [NatBook.ok, NatBook.doorsOk, NatBook.entriesOk, Bool.and_eq_true, decide_eq_true_eq] at h
  exact ⟨h.1.2.1, h.2.1⟩
theorem specTick_p (b : NatBook) : spec_NatTick_m b = some (natTick b) := by
  unfold spec_NatTick_m natTick
  rw [specBookOk_p, bd_val]
  cases hok : b.ok
  · rfl
  · obtain ⟨hd, he⟩ := ok_lens hok
    have ec : spec_l22Copy_m b = some b := by
      unfold spec_l22Copy_m
      rw [gd_pos (by omega), gd_pos (by omega)]
    rw [if_neg (by decide), if_pos rfl, ec, bd_val]
    by_cases hn : b.Now = 1000000
    · rw [if_pos (by simp [hn]), if_pos hn]
    · rw [if_neg (by simpa using hn), if_neg hn]
      obtain ⟨e, inv⟩ := lp_fold (step := (fun s3 : List NatEntry × Int =>
        (if (decide (s3.2 < ((b.Entries.length : Nat) : Int))) = true then
        gd ((0 : Int) ≤ s3.2 ∧ s3.2 < ((b.Entries.length : Nat) : Int)) <|
        (if (decide ((IntKind.i64.wrap ((IntKind.i64.wrap (b.Now + 1)) - ((b.Entries.getD s3.2.toNat default).Last))) < 12)) = true then
        gd ((0 : Int) ≤ s3.2 ∧ s3.2 < ((b.Entries.length : Nat) : Int)) <|
        gd (((s3.1.length) + (([(b.Entries.getD s3.2.toNat default)] : List NatEntry).length)) * (56 + 1) ≤ 70368744177664) <|
        some (.inl ((s3.1 ++ ([(b.Entries.getD s3.2.toNat default)] : List NatEntry)), IntKind.i64.wrap (s3.2 + 1)))
        else
        some (.inl (s3.1, IntKind.i64.wrap (s3.2 + 1))))
        else
        some (.inr (s3.1.length, s3.1)) : Option ((List NatEntry × Int) ⊕ (Nat × List NatEntry))))) b.Entries.length (fun xs i => if keepW (IntKind.i64.wrap (b.Now + 1)) (b.Entries.getD i default) = true then xs ++ [b.Entries.getD i default] else xs) (fun xs => (xs.length, xs)) []
        (fun i xs => xs = (b.Entries.take i).filter (keepW (IntKind.i64.wrap (b.Now + 1)))) (by simp) (fun i xs hi hx => by
          rw [hx, List.take_succ, List.filter_append]
          simp only [List.getD_eq_getElem?_getD, List.getElem?_eq_getElem hi, Option.getD_some, Option.toList_some, List.filter_cons, List.filter_nil]
          split <;> simp_all) (fun i xs hi hx => by
          have hl : xs.length ≤ i := by
            rw [hx]
            exact Nat.le_trans (List.length_filter_le _ _) (by simp; omega)
          rw [if_pos (by simp; omega), gd_pos (by dsimp only; omega)]
          simp only [Int.toNat_natCast]
          unfold keepW
          split
          · rw [gd_pos (by omega), gd_pos (by simp; omega), wrap_succ hi (by omega)]
          · rw [wrap_succ hi (by omega)]) (fun xs _ => by rw [if_neg (by simp)])
      rw [e, bd_val]
      dsimp only
      rw [inv, List.take_length]
      rfl

/-! The program's: what goes is taken out in place. -/
theorem implTick1_p (e : NatEntry) (c : NatBook) : impl_NatTick_1_m e c = some (!keepW c.Now e) := by
  unfold impl_NatTick_1_m keepW
  rw [implAge_p, bd_val]
  unfold ageW
  rw [Option.some.injEq, Bool.eq_iff_iff]
  simp
theorem index_p {xs : List NatEntry} (c : NatBook) (h : xs.length ≤ 1048576) : slices_IndexFunc_NatEntry_NatEntry_impl_NatTick_1_m xs c = some (match firstR (fun i => !keepW c.Now (xs.getD i default)) xs.length with | some i => (i : Int) | none => -1) := by
  unfold slices_IndexFunc_NatEntry_NatEntry_impl_NatTick_1_m
  rw [lp_first xs.length (fun i => !keepW c.Now (xs.getD i default)) (fun i => Sum.inl (i : Int)) (.inr ()) (fun i hi => ?_) (by rw [if_neg (by simp)]), bd_val]
  · cases firstR (fun i => !keepW c.Now (xs.getD i default)) xs.length <;> rfl
  · rw [if_pos (by simp; omega), gd_pos (by omega), Int.toNat_natCast, implTick1_p, bd_val, wrap_succ hi (by omega)]
    split <;> rfl
/-- On the way: what stays of the first `j` stands in the first `i` places; the others stand as they stood. -/
structure Dl (xs0 : List NatEntry) (k : NatEntry → Bool) (xs : List NatEntry) (i j : Nat) : Prop where
  lt : i < j
  le : j ≤ xs0.length
  len : xs.length = xs0.length
  take : xs.take i = (xs0.take j).filter k
  drop : ∀ q, j ≤ q → xs.getD q default = xs0.getD q default
theorem Dl.keep {xs0 : List NatEntry} {k : NatEntry → Bool} {xs : List NatEntry} {i j : Nat} (h : Dl xs0 k xs i j) (hj : j < xs0.length) (hk : k (xs.getD j default) = true) : Dl xs0 k (xs.set i (xs.getD j default)) (i + 1) (j + 1) := by
  have hd := h.drop j (Nat.le_refl _)
  have hlt := h.lt
  have hl := h.len
  refine ⟨by omega, hj, by simp [h.len], ?_, fun q hq => ?_⟩
  · rw [List.take_succ, List.take_set_of_le (Nat.le_refl _), h.take, List.take_succ (i := j), List.filter_append, hd]
    rw [hd] at hk
    have e1 : (xs.set i (xs0.getD j default))[i]? = some (xs0.getD j default) := by rw [List.getElem?_set, if_pos rfl, if_pos (by omega)]
    have e2 : xs0[j]? = some (xs0.getD j default) := by simp [List.getD_eq_getElem?_getD, hj]
    rw [e1, e2]
    show _ ++ [xs0.getD j default] = _ ++ ([xs0.getD j default]).filter k
    rw [List.filter_cons, if_pos hk]
    rfl
  · have : (xs.set i (xs.getD j default)).getD q default = xs.getD q default := by
      simp [List.getD_eq_getElem?_getD, List.getElem?_set, show i ≠ q by omega]
    rw [this]
    exact h.drop q (by omega)
theorem Dl.skip {xs0 : List NatEntry} {k : NatEntry → Bool} {xs : List NatEntry} {i j : Nat} (h : Dl xs0 k xs i j) (hj : j < xs0.length) (hk : k (xs.getD j default) = false) : Dl xs0 k xs i (j + 1) := by
  have hd := h.drop j (Nat.le_refl _)
  have hlt := h.lt
  rw [hd] at hk
  refine ⟨by omega, hj, h.len, ?_, fun q hq => h.drop q (by omega)⟩
  have e2 : xs0[j]? = some (xs0.getD j default) := by simp [List.getD_eq_getElem?_getD, hj]
  rw [List.take_succ, List.filter_append, ← h.take, e2]
  show _ = _ ++ ([xs0.getD j default]).filter k
  rw [List.filter_cons, if_neg (by rw [hk]; decide)]
  simp
theorem filter_none {k : NatEntry → Bool} {xs : List NatEntry} {n : Nat} (h : ∀ q, q < n → q < xs.length → k (xs.getD q default) = true) : (xs.take n).filter k = xs.take n := by
  refine List.filter_eq_self.2 fun x hx => ?_
  obtain ⟨q, hq, e⟩ := List.getElem_of_mem hx
  rw [List.length_take] at hq
  have := h q (by omega) (by omega)
  rw [List.getD_eq_getElem?_getD, List.getElem?_eq_getElem (by omega)] at this
  rw [← e, List.getElem_take]
  exact this
theorem take_clr {xs : List NatEntry} {i l : Nat} : (clrL xs i l).take i = xs.take i := by
  apply List.ext_getElem?
  intro q
  by_cases hq : q < i
  · by_cases hx : q < xs.length
    · simp [clrL, List.getElem?_take, hq, hx, show ¬ i ≤ q by omega, List.getD_eq_getElem?_getD]
    · rw [List.getElem?_eq_none (by simp; omega), List.getElem?_eq_none (by simp; omega)]
  · rw [List.getElem?_eq_none (by simp; omega), List.getElem?_eq_none (by simp; omega)]
theorem implCopyB_p {b : NatBook} (hd : b.Doors.length ≤ 1048576) (he : b.Entries.length ≤ 1048576) : impl_copyBook_m b = some b := by
  have e1 : impl_clone_NatDoor_m b.Doors = some b.Doors := by
    unfold impl_clone_NatDoor_m
    rw [gd_pos (by omega), gd_pos (by simp; omega)]; rfl
  have e2 : impl_clone_NatEntry_m b.Entries = some b.Entries := by
    unfold impl_clone_NatEntry_m
    rw [gd_pos (by omega), gd_pos (by simp; omega)]; rfl
  unfold impl_copyBook_m
  rw [e1, bd_val, e2, bd_val]
theorem implTick_p {b : NatBook} (hd : b.Doors.length ≤ 9223372036854775807) (he : b.Entries.length ≤ 9223372036854775807) : impl_NatTick_m b = some (natTick b) := by
  unfold impl_NatTick_m natTick
  rw [implBookOk_p hd he, bd_val]
  cases hok : b.ok
  · rfl
  · obtain ⟨hd, he⟩ := ok_lens hok
    rw [if_neg (by decide), if_pos rfl, implCopyB_p (by omega) (by omega), bd_val]
    by_cases hn : b.Now = 1000000
    · rw [if_pos (by simp [hn]), if_pos hn]
    · rw [if_neg (by simpa using hn), if_neg hn, index_p _ (by omega), bd_val]
      dsimp only
      unfold tickOf
      generalize IntKind.i64.wrap (b.Now + 1) = now at *
      cases hf : firstR (fun i => !keepW now (b.Entries.getD i default)) b.Entries.length with
      | none =>
        have := firstR_none hf
        dsimp only
        rw [if_pos (by decide)]
        have e : b.Entries.filter (keepW now) = b.Entries := by
          have := filter_none (k := keepW now) (xs := b.Entries) (n := b.Entries.length) fun q hq _ => by simpa using this q hq
          rwa [List.take_length] at this
        rw [e]
      | some i =>
        obtain ⟨h1, h2, h3⟩ := firstR_some hf
        dsimp only
        rw [if_neg (by simp <;> omega)]
        have start : Dl b.Entries (keepW now) b.Entries i (i + 1) := by
          refine ⟨Nat.lt_succ_self _, h1, rfl, ?_, fun _ _ => rfl⟩
          have e2 : b.Entries[i]? = some (b.Entries.getD i default) := by simp [List.getD_eq_getElem?_getD, h1]
          have hk : keepW now (b.Entries.getD i default) = false := by simpa using h2
          rw [List.take_succ, List.filter_append, e2, filter_none fun q hq _ => by simpa using h3 q hq]
          show _ = _ ++ ([b.Entries.getD i default]).filter (keepW now)
          rw [List.filter_cons, if_neg (by rw [hk]; decide)]
          simp
        have key : Post (lp (σ := List NatEntry × Int × Int) (β := (Nat × Int × (List NatEntry))) (fun s4 =>
            (if (decide (s4.2.2 < ((s4.1.length : Nat) : Int))) = true then
            gd ((0 : Int) ≤ s4.2.2 ∧ s4.2.2 < ((s4.1.length : Nat) : Int)) <|
            bd (impl_NatTick_1_m (s4.1.getD s4.2.2.toNat default) ({ b with Now := now, Entries := s4.1 })) fun x9 =>
            (if (!x9) = true then
            gd ((0 : Int) ≤ s4.2.1 ∧ s4.2.1 < ((s4.1.length : Nat) : Int)) <|
            some (.inl (s4.1.set s4.2.1.toNat (s4.1.getD s4.2.2.toNat default), IntKind.i64.wrap (s4.2.1 + 1), IntKind.i64.wrap (s4.2.2 + 1)))
            else
            some (.inl (s4.1, s4.2.1, IntKind.i64.wrap (s4.2.2 + 1))))
            else
            some (.inr (s4.1.length, s4.2.1, s4.1)))) (b.Entries, (i : Int), IntKind.i64.wrap ((i : Int) + 1))) fun x => ∃ q : Nat, x.2.1 = (q : Int) ∧ q ≤ x.1 ∧ x.2.2.take q = b.Entries.filter (keepW now) := by
          rw [wrap_succ h1 (by omega)]
          refine .lp (fun s => ∃ p j : Nat, s.2.1 = (p : Int) ∧ s.2.2 = (j : Int) ∧ Dl b.Entries (keepW now) s.1 p j) (fun s => b.Entries.length - s.2.2.toNat) ⟨i, i + 1, rfl, rfl, start⟩ fun s ⟨p, j, ep, ej, D⟩ => ?_
          obtain ⟨xs, sp, sj⟩ := s
          dsimp only at ep ej D ⊢
          subst ep ej
          have hlt := D.lt
          have hle := D.le
          have hlen := D.len
          refine .ite (fun c => ?_) fun c => .ret ?_
          · have c := of_decide_eq_true c
            have hj : j < b.Entries.length := by omega
            refine .gd (by omega) ?_
            rw [Int.toNat_natCast, implTick1_p, bd_val, Bool.not_not, wrap_succ (n := b.Entries.length) hj (by omega)]
            dsimp only
            refine .ite (fun k => .gd (by omega) ?_) fun k => .ret ⟨⟨p, j + 1, rfl, rfl, D.skip hj (by simpa using k)⟩, by dsimp only; omega⟩
            rw [Int.toNat_natCast, wrap_succ (n := b.Entries.length) (by omega) (by omega)]
            exact .ret ⟨⟨p + 1, j + 1, rfl, rfl, D.keep hj k⟩, by dsimp only; omega⟩
          · have : j = b.Entries.length := by
              simp only [decide_eq_true_eq] at c
              omega
            refine ⟨p, rfl, by dsimp only; omega, ?_⟩
            have t := D.take
            rw [this, List.take_length] at t
            exact t
        obtain ⟨x, e, q, e1, e2, e3⟩ := key
        refine (congrArg (fun m => bd m _) e).trans ?_
        rw [bd_val, e1, gd_pos (by omega), gd_pos (by omega), Int.toNat_natCast, take_clr, e3]

end Go.Proofs.Ytaoeomoepefojab
