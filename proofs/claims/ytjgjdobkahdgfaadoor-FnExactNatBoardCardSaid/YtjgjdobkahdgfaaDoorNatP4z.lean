/-
  Plain Lean: the laws' own helpers on books; the rows FnExactNatBookOk, FnExactNatInside, FnExactNatIn in plain Lean.
-/
import Derived.Test.YtjgjdobkahdgfaaDoorKz2
import Derived.Test.YtjgjdobkahdgfaaDoorNatP3z
set_option linter.all false
namespace Go.Proofs.YtjgjdobkahdgfaaDoor
open Go Go.Ab
set_option maxHeartbeats 400000

@[simp] theorem toNatDoor_p (a : NatDoor) : laws_toNatDoor_m a = some a := rfl
theorem eqNatDoor_p (a b : NatDoor) : laws_eqNatDoor_m a b = some (decide (a = b)) := by
  unfold laws_eqNatDoor_m
  cases a; cases b
  simp only [bne_iff_ne, ne_eq, NatDoor.mk.injEq]
  repeat' split
  all_goals simp_all


theorem toNatDoorS_p {xs : List NatDoor} (h : xs.length ≤ 1048576) : laws_toNatDoorS_m xs = some xs := by
  unfold laws_toNatDoorS_m
  rw [gd_pos (by omega), lp_copy (fun i ys hi hy => ?_) (fun ys hy => by rw [if_neg (by simp)])]
  · rfl
  · dsimp only
    rw [if_pos (by simp; omega), gd_pos (by omega), toNatDoor_p, bd_val, gd_pos (by omega), wrap_succ hi (by omega), Int.toNat_natCast]
theorem eqNatDoorS_p {xs ys : List NatDoor} (h : xs.length ≤ 1048576) : laws_eqNatDoorS_m xs ys = some (decide (xs = ys)) := by
  unfold laws_eqNatDoorS_m
  by_cases hl : xs.length = ys.length
  · rw [if_neg (by simp; omega), lp_all xs.length (fun i => decide (xs.getD i default = ys.getD i default)) (.inl ()) (.inr ()) (fun i hi _ => ?_) (fun _ => by rw [if_neg (by simp)]), list_eq hl]
    · cases decide (xs = ys) <;> rfl
    · rw [if_pos (by simp; omega), gd_pos (by omega), gd_pos (by omega), eqNatDoor_p, bd_val, Int.toNat_natCast, wrap_succ hi (by omega)]
      cases decide (xs.getD i default = ys.getD i default) <;> rfl
  · rw [if_pos (by simp; omega)]
    have : xs ≠ ys := fun e => hl (by rw [e])
    simp [this]


@[simp] theorem toNatEntry_p (a : NatEntry) : laws_toNatEntry_m a = some a := rfl
theorem eqNatEntry_p (a b : NatEntry) : laws_eqNatEntry_m a b = some (decide (a = b)) := by
  unfold laws_eqNatEntry_m
  cases a; cases b
  simp only [bne_iff_ne, ne_eq, NatEntry.mk.injEq]
  repeat' split
  all_goals simp_all


theorem toNatEntryS_p {xs : List NatEntry} (h : xs.length ≤ 1048576) : laws_toNatEntryS_m xs = some xs := by
  unfold laws_toNatEntryS_m
  rw [gd_pos (by omega), lp_copy (fun i ys hi hy => ?_) (fun ys hy => by rw [if_neg (by simp)])]
  · rfl
  · dsimp only
    rw [if_pos (by simp; omega), gd_pos (by omega), toNatEntry_p, bd_val, gd_pos (by omega), wrap_succ hi (by omega), Int.toNat_natCast]
theorem eqNatEntryS_p {xs ys : List NatEntry} (h : xs.length ≤ 1048576) : laws_eqNatEntryS_m xs ys = some (decide (xs = ys)) := by
  unfold laws_eqNatEntryS_m
  by_cases hl : xs.length = ys.length
  · rw [if_neg (by simp; omega), lp_all xs.length (fun i => decide (xs.getD i default = ys.getD i default)) (.inl ()) (.inr ()) (fun i hi _ => ?_) (fun _ => by rw [if_neg (by simp)]), list_eq hl]
    · cases decide (xs = ys) <;> rfl
    · rw [if_pos (by simp; omega), gd_pos (by omega), gd_pos (by omega), eqNatEntry_p, bd_val, Int.toNat_natCast, wrap_succ hi (by omega)]
      cases decide (xs.getD i default = ys.getD i default) <;> rfl
  · rw [if_pos (by simp; omega)]
    have : xs ≠ ys := fun e => hl (by rw [e])
    simp [this]


theorem szNatBook_p {b : NatBook} (hd : b.Doors.length ≤ 9223372036854775807) (he : b.Entries.length ≤ 9223372036854775807) :
    ∃ x, laws_szNatBook_m b 1048576 = some x ∧ (¬ x < 0 → b.Doors.length ≤ 1048576 ∧ b.Entries.length ≤ 1048576) := by
  unfold laws_szNatBook_m laws_szNatDoorS_m laws_szNatEntryS_m
  rw [wrap_i64 (n := 1048576 - (b.Doors.length : Int)) (by omega) (by omega)]
  by_cases h1 : (1048576 - (b.Doors.length : Int)) < 0
  · refine ⟨-1, ?_, by omega⟩
    simp [h1]
  · rw [if_neg (by simpa using h1), bd_val, if_neg (by simpa using h1), wrap_i64 (by omega) (by omega)]
    by_cases h2 : (1048576 - (b.Doors.length : Int) - (b.Entries.length : Int)) < 0
    · refine ⟨-1, ?_, by omega⟩
      simp [h2]
    · refine ⟨_, by rw [if_neg (by simpa using h2), bd_val, if_neg (by simpa using h2)], fun _ => by omega⟩

theorem toNatBook_p {b : NatBook} (hd : b.Doors.length ≤ 1048576) (he : b.Entries.length ≤ 1048576) : laws_toNatBook_m b = some b := by
  unfold laws_toNatBook_m
  rw [toNatDoorS_p hd, bd_val, toNatEntryS_p he, bd_val]
theorem eqNatBook_p {a b : NatBook} (hd : a.Doors.length ≤ 1048576) (he : a.Entries.length ≤ 1048576) : laws_eqNatBook_m a b = some (decide (a = b)) := by
  unfold laws_eqNatBook_m
  rw [eqNatDoorS_p hd, eqNatEntryS_p he]
  cases a; cases b
  simp only [bne_iff_ne, ne_eq, NatBook.mk.injEq, bd_val]
  repeat' split
  all_goals simp_all



end Go.Proofs.YtjgjdobkahdgfaaDoor
