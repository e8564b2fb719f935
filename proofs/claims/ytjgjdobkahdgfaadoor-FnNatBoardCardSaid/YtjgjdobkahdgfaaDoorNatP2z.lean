/-
  Plain Lean: doors and entries of a book.
-/
import Derived.Test.YtjgjdobkahdgfaaDoorKz3
import Derived.Test.YtjgjdobkahdgfaaDoorNatPz
set_option linter.all false
namespace Go.Proofs.YtjgjdobkahdgfaaDoor
open Go Go.Ab
set_option maxHeartbeats 400000

def doorOk (b : NatBook) (d : NatDoor) : Bool := decide (1 ≤ d.Kind) && decide (d.Kind ≤ 7) && decide (1 ≤ d.Outer) && decide (d.Outer ≤ 65535) && !(decide (b.Low ≤ d.Outer) && decide (d.Outer ≤ b.High)) && b.inside d.Inner && decide (1 ≤ d.InnerPort) && decide (d.InnerPort ≤ 65535)

theorem specDoorOk_p {b : NatBook} (h : netOk b.net = true) (d : NatDoor) : spec_l22DoorOk_m b d = some (doorOk b d) := by
  unfold spec_l22DoorOk_m
  simp only [l21In_p, specInside_p h, bd_val, gcall_b, doorOk]
  congr 1
  grind

def doorLess (e d : NatDoor) : Bool := decide (e.Kind < d.Kind) || (e.Kind == d.Kind && decide (e.Outer < d.Outer))
def doorClash (e d : NatDoor) : Bool := e.Kind == d.Kind && (e.Inner == d.Inner && e.InnerPort == d.InnerPort)
def doorPair (e d : NatDoor) : Bool := doorLess e d && !doorClash e d
def doorAt (b : NatBook) (i : Nat) : Bool := doorOk b (b.Doors.getD i default) && allR i fun k => doorPair (b.Doors.getD k default) (b.Doors.getD i default)
def NatBook.doorsOk (b : NatBook) : Bool := decide (b.Doors.length ≤ 6) && allR b.Doors.length (doorAt b)

theorem specDoors_p {b : NatBook} (h : netOk b.net = true) : spec_l22Doors_m b = some b.doorsOk := by
  unfold spec_l22Doors_m
  by_cases hl : (b.Doors.length : Int) > 6
  · simp [hl, NatBook.doorsOk]
    omega
  · rw [if_neg (by simpa using hl)]
    have hn : b.Doors.length ≤ 6 := by omega
    rw [lp_all b.Doors.length (doorAt b) (.inl ()) (.inr ()) (fun i hi _ => ?_) (fun _ => ?_)]
    · cases ha : allR b.Doors.length (doorAt b) <;> simp [NatBook.doorsOk, hn, ha]
    · rw [if_pos (by simp; omega), gd_pos (by omega), specDoorOk_p h, bd_val]
      simp only [Int.toNat_natCast]
      cases hd : doorOk b (b.Doors.getD i default)
      · simp only [doorAt, hd, Bool.false_and, Bool.not_false, if_true, Bool.false_eq_true, if_false]
      · rw [if_neg (by decide), lp_all i (fun k => doorPair (b.Doors.getD k default) (b.Doors.getD i default)) (.inl ()) (.inr ()) (fun k hk _ => ?_) (fun _ => ?_)]
        · rw [wrap_succ hi (by omega)]
          cases ha : allR i (fun k => doorPair (b.Doors.getD k default) (b.Doors.getD i default)) <;> simp only [doorAt, hd, ha, Bool.true_and, if_true, Bool.false_eq_true, if_false, bd_val]
        · rw [if_pos (by simp; omega), gd_pos (by omega), wrap_succ hk (by omega)]
          simp only [Int.toNat_natCast]
          cases hp : doorPair (b.Doors.getD k default) (b.Doors.getD i default)
          · rw [if_pos, if_neg (by decide)]
            simp [doorPair, doorLess, doorClash] at hp
            simp
            grind
          · rw [if_neg, if_pos rfl]
            simp [doorPair, doorLess, doorClash] at hp
            simp
            grind
        · rw [if_neg (by simp)]
    · rw [if_neg (by simp)]

theorem compare_p (a b : Int) : cmp_Compare_int_m a b = some (cmpInt a b) := by
  unfold cmp_Compare_int_m cmp_isNaN_int_m cmpInt
  simp
  grind

theorem or_p {xs : List Int} (h : xs.length ≤ 1000) : cmp_Or_int_m xs = some (firstNz xs) := by
  unfold cmp_Or_int_m
  rw [lp_find xs.length (fun i => if xs.getD i default ≠ 0 then some (.inl (xs.getD i default)) else none) (.inr ()) (fun i hi => ?_) (by rw [if_neg (by simp)])]
  · have key : ∀ (k i : Nat), i + k = xs.length → findR (fun i => if xs.getD i default ≠ 0 then some (Sum.inl (β := Unit) (xs.getD i default)) else none) i k = if firstNz (xs.drop i) = 0 then none else some (.inl (firstNz (xs.drop i))) := by
      intro k
      induction k with
      | zero => intro i hi; rw [List.drop_of_length_le (by omega)]; simp [findR, firstNz]
      | succ k ih =>
        intro i hi
        have hlt : i < xs.length := by omega
        have e : xs.drop i = xs[i] :: xs.drop (i + 1) := List.drop_eq_getElem_cons hlt
        have e2 : xs.getD i default = xs[i] := by simp [List.getD_eq_getElem?_getD, hlt]
        unfold findR
        rw [e, firstNz, e2]
        by_cases h0 : xs[i] = 0
        · simp only [h0, ne_eq, not_true_eq_false, if_false, if_true]
          exact ih (i + 1) (by omega)
        · simp [h0]
    rw [key xs.length 0 (by omega), List.drop_zero, bd_val]
    by_cases h0 : firstNz xs = 0 <;> simp [h0]
  · rw [if_pos (by simp; omega), gd_pos (by omega), wrap_succ hi (by omega)]
    simp only [Int.toNat_natCast]
    by_cases h0 : xs.getD i default = 0
    · rw [h0]; simp
    · rw [if_pos (by simpa using h0), if_pos h0]

theorem doorLess_cmp (e d : NatDoor) : decide (firstNz [cmpInt e.Kind d.Kind, cmpInt e.Outer d.Outer] ≥ 0) = !doorLess e d := by
  simp [doorLess, firstNz, cmpInt]
  grind
theorem doorLess_trans {a b c : NatDoor} (h : doorLess a b = true) (k : doorLess b c = true) : doorLess a c = true := by
  simp [doorLess] at *
  grind

/-- What impl asks of one door, beside itself and those ahead of it. -/
def doorAt' (b : NatBook) (i : Nat) : Bool := doorOk b (b.Doors.getD i default) && (decide (i = 0) || doorLess (b.Doors.getD (i - 1) default) (b.Doors.getD i default)) && allR i fun k => !doorClash (b.Doors.getD k default) (b.Doors.getD i default)

theorem doors_same (b : NatBook) (n : Nat) : allR n (doorAt' b) = allR n (doorAt b) := by
  rw [Bool.eq_iff_iff]
  constructor
  · intro h
    refine allR_of fun i hi => ?_
    have h1 : ∀ i, i < n → doorAt' b i = true := fun i hi => allR_get h hi
    have hc := chain (r := doorLess) doorLess_trans (f := fun k => b.Doors.getD k default) (n := n) (fun i h0 hi => by
      have := h1 i hi
      simp [doorAt'] at this
      have e : ¬ i = 0 := by omega
      simpa [e] using this.1.2) i hi
    have h2 := h1 i hi
    unfold doorAt' at h2
    unfold doorAt
    rw [Bool.and_eq_true, Bool.and_eq_true] at h2
    rw [h2.1.1, Bool.true_and]
    refine allR_of fun k hk => ?_
    have h3 := allR_get h2.2 hk
    unfold doorPair
    rw [hc k hk, h3]; rfl
  · intro h
    refine allR_of fun i hi => ?_
    have h2 := allR_get h hi
    unfold doorAt at h2
    unfold doorAt'
    rw [Bool.and_eq_true] at h2
    have h4 : allR i (fun k => !doorClash (b.Doors.getD k default) (b.Doors.getD i default)) = true := allR_of fun k hk => by
      have := allR_get h2.2 hk
      unfold doorPair at this
      rw [Bool.and_eq_true] at this
      exact this.2
    rw [h2.1, h4]
    by_cases e : i = 0
    · simp [e]
    · have := allR_get h2.2 (show i - 1 < i by omega)
      unfold doorPair at this
      rw [Bool.and_eq_true] at this
      rw [this.1]; simp

theorem implDoors_p {b : NatBook} (h : netOk b.net = true) (hl : b.Doors.length ≤ 9223372036854775807) : impl_NatBook_doorsOk_m b = some b.doorsOk := by
  unfold impl_NatBook_doorsOk_m
  rw [lp_all b.Doors.length (doorAt' b) (.inl ()) (.inr ()) (fun i hi _ => ?_) (fun _ => by rw [if_neg (by simp)]), doors_same]
  · have e : decide ((b.Doors.length : Int) ≤ 6) = decide (b.Doors.length ≤ 6) := decide_eq_decide.2 (by omega)
    cases ha : allR b.Doors.length (doorAt b) <;> simp [NatBook.doorsOk, ha, e]
  · rw [if_pos (by simp; omega), gd_pos (by omega)]
    simp only [within_p, implInside_p h, bd_val, gcall_nb, Int.toNat_natCast]
    split
    · rename_i hC
      have h1 : doorOk b (b.Doors.getD i default) = false := by
        unfold doorOk
        grind
      simp only [doorAt', h1, Bool.false_and, Bool.false_eq_true, if_false]
    · rename_i hC
      have h1 : doorOk b (b.Doors.getD i default) = true := by
        unfold doorOk
        grind
      clear hC
      have hin : ∀ n : Nat, n = i → lp (σ := Int) (β := Unit ⊕ Unit) (fun s17 =>
          (if (decide (s17 < ((n : Nat) : Int))) = true then
          gd ((0 : Int) ≤ s17 ∧ s17 < ((n : Nat) : Int)) <|
          (if ((((b.Doors.getD s17.toNat default).Kind == (b.Doors.getD i default).Kind) && ((b.Doors.getD s17.toNat default).Inner == (b.Doors.getD i default).Inner)) && ((b.Doors.getD s17.toNat default).InnerPort == (b.Doors.getD i default).InnerPort)) = true then
          some (.inr (.inl ()))
          else
          some (.inl (IntKind.i64.wrap (s17 + 1))))
          else
          some (.inr (.inr ())))) 0 = some (if allR i (fun k => !doorClash (b.Doors.getD k default) (b.Doors.getD i default)) = true then .inr () else .inl ()) := by
        rintro n rfl
        refine lp_all n _ _ _ (fun k hk _ => ?_) (fun _ => by rw [if_neg (by simp)])
        rw [if_pos (by simp; omega), gd_pos (by omega), wrap_succ hk (by omega)]
        simp only [Int.toNat_natCast]
        cases hp : doorClash (b.Doors.getD k default) (b.Doors.getD n default)
        · rw [if_neg]
          · rfl
          · unfold doorClash at hp
            grind
        · rw [if_pos]
          · rfl
          · unfold doorClash at hp
            grind
      by_cases h0 : i = 0
      · have e0 : decide ((i : Int) > 0) = false := by simp; omega
        simp only [e0, Bool.false_eq_true, gcall, if_false, bd_val, Bool.false_and]
        have e1 : decide (i = 0) = true := by simp [h0]
        rw [gd_pos (fun h => by cases h), gd_pos (fun h => by cases h), gd_pos (by omega), hin _ rfl, wrap_succ hi hl]
        cases ha : allR i (fun k => !doorClash (b.Doors.getD k default) (b.Doors.getD i default)) <;> simp only [doorAt', h1, e1, ha, bd_val, Bool.true_or, Bool.and_self, Bool.and_true, Bool.and_false, Bool.false_eq_true, if_true, if_false]
      · have e0 : decide ((i : Int) > 0) = true := by simp; omega
        have hw := wrap_pred hi (by omega) hl
        simp only [e0, gcall, if_true, bd_val, Bool.true_and, hw, Int.toNat_natCast, compare_p, or_p (xs := [_, _]) (by simp), doorLess_cmp]
        rw [gd_pos (fun _ => by omega), gd_pos (fun _ => by omega)]
        have e1 : decide (i = 0) = false := by simp [h0]
        cases h2 : doorLess (b.Doors.getD (i - 1) default) (b.Doors.getD i default)
        · simp only [doorAt', h1, h2, e1, Bool.not_false, if_true, Bool.or_self, Bool.and_false, Bool.false_and, Bool.false_eq_true, if_false]
        · simp only [Bool.not_true, Bool.false_eq_true, if_false]
          rw [gd_pos (by omega), hin _ rfl, wrap_succ hi hl]
          cases ha : allR i (fun k => !doorClash (b.Doors.getD k default) (b.Doors.getD i default)) <;> simp only [doorAt', h1, h2, e1, ha, bd_val, Bool.or_true, Bool.and_self, Bool.and_true, Bool.and_false, Bool.false_eq_true, if_true, if_false]

end Go.Proofs.YtjgjdobkahdgfaaDoor
