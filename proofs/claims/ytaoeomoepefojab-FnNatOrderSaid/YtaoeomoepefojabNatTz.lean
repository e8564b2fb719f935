/-
  Plain Lean: a tick: the program's and the reference's are the same function.
-/
import Derived.Test.YtaoeomoepefojabKz3
import Derived.Test.YtaoeomoepefojabPoz
import Derived.Test.YtaoeomoepefojabNatP5z
set_option linter.all false
namespace Go.Proofs.Ytaoeomoepefojab
open Go Go.Ab
set_option maxHeartbeats 400000

/-- An entry that stays when the tick is told. -/
def keepW (now : Int) (e : NatEntry) : Bool := decide (IntKind.i64.wrap (now - e.Last) < 12)
def tickOf (b : NatBook) : NatBook := { b with Now := IntKind.i64.wrap (b.Now + 1), Entries := b.Entries.filter (keepW (IntKind.i64.wrap (b.Now + 1))) }
def natTick (b : NatBook) : NatBook × Int := if b.ok = true then if b.Now = 1000000 then (b, 2) else (tickOf b, 0) else (⟨0, 0, 0, 0, 0, [], 0, []⟩, 1)
theorem ok_lens {b : NatBook} (h : b.ok = true) : b.Doors.length ≤ 6 ∧ b.Entries.length ≤ 16 := by
  simp only [NatBook.ok, NatBook.doorsOk, NatBook.entriesOk, Bool.and_eq_true, decide_eq_true_eq] at h
  exact ⟨h.1.2.1, h.2.1⟩
theorem specTick_p (b : NatBook) : spec_NatTick_m b = some (natTick b) := by
  unfold spec_NatTick_m natTick
  rw [specBookOk_p, bd_val]
  cases hok : b.ok
  · rfl
  · obtain ⟨hd, he⟩ := ok_lens hok
    have ec : spec_l22Copy_m b = some b := by
      unfold spec_l22Copy_m
      rw [gd_pos (by omega), gd_pos (by omega)]
    rw [if_neg (by decide), if_pos rfl, ec, bd_val]
    by_cases hn : b.Now = 1000000
    · rw [if_pos (by simp [hn]), if_pos hn]
    · rw [if_neg (by simpa using hn), if_neg hn]
      obtain ⟨e, inv⟩ := lp_fold (step := (fun s3 : List NatEntry × Int =>
        (if (decide (s3.2 < ((b.Entries.length : Nat) : Int))) = true then
        gd ((0 : Int) ≤ s3.2 ∧ s3.2 < ((b.Entries.length : Nat) : Int)) <|
        (if (decide ((IntKind.i64.wrap ((IntKind.i64.wrap (b.Now + 1)) - ((b.Entries.getD s3.2.toNat default).Last))) < 12)) = true then
        gd ((0 : Int) ≤ s3.2 ∧ s3.2 < ((b.Entries.length : Nat) : Int)) <|
        gd (((s3.1.length) + (([(b.Entries.getD s3.2.toNat default)] : List NatEntry).length)) * (56 + 1) ≤ 70368744177664) <|
        some (.inl ((s3.1 ++ ([(b.Entries.getD s3.2.toNat default)] : List NatEntry)), IntKind.i64.wrap (s3.2 + 1)))
        else
        some (.inl (s3.1, IntKind.i64.wrap (s3.2 + 1))))
        else
        some (.inr (s3.1.length, s3.1)) : Option ((List NatEntry × Int) ⊕ (Nat × List NatEntry))))) b.Entries.length (fun xs i => if keepW (IntKind.i64.wrap (b.Now + 1)) (b.Entries.getD i default) = true then xs ++ [b.Entries.getD i default] else xs) (fun xs => (xs.length, xs)) []
        (fun i xs => xs = (b.Entries.take i).filter (keepW (IntKind.i64.wrap (b.Now + 1)))) (by simp) (fun i xs hi hx => by
          rw [hx, List.take_succ, List.filter_append]
          simp only [List.getD_eq_getElem?_getD, List.getElem?_eq_getElem hi, Option.getD_some, Option.toList_some, List.filter_cons, List.filter_nil]
          split <;> simp_all) (fun i xs hi hx => by
          have hl : xs.length ≤ i := by
            rw [hx]
            exact Nat.le_trans (List.length_filter_le _ _) (by simp; omega)
          rw [if_pos (by simp; omega), gd_pos (by dsimp only; omega)]
          simp only [Int.toNat_natCast]
          unfold keepW
          split
          · rw [gd_pos (by omega), gd_pos (by simp; omega), wrap_succ hi (by omega)]
          · rw [wrap_succ hi (by omega)]) (fun xs _ => by rw [if_neg (by simp)])
      rw [e, bd_val]
      dsimp only
      rw [inv, List.take_length]
      rfl

/-! The program's: what goes is taken out in place. -/
/-- On the way: what stays of the first `j` stands in the first `i` places; the others stand as they stood. -/
structure Dl (xs0 : List NatEntry) (k : NatEntry → Bool) (xs : List NatEntry) (i j : Nat) : Prop where
  lt : i < j
  le : j ≤ xs0.length
  len : xs.length = xs0.length
  take : xs.take i = (xs0.take j).filter k
  drop : ∀ q, j ≤ q → xs.getD q default = xs0.getD q default
end Go.Proofs.Ytaoeomoepefojab
