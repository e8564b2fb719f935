/-
  Plain Lean: marks on books, and looks at them.
-/
import Derived.Test.YtaoeomoepefojaaKz2
import Derived.Test.YtaoeomoepefojaaMkz
import Derived.Test.YtaoeomoepefojaaNatP4z
set_option linter.all false
namespace Go.Proofs.Ytaoeomoepefojaa
open Go Go.Ab
set_option maxHeartbeats 400000

def mkNatDoor (n : Int) : NatDoor := ⟨n, (n + 1), (n + 1 + 1), (n + 1 + 1 + 1)⟩
theorem markNatDoorS_p {xs : List NatDoor} {a : Int} (h0 : 0 ≤ a) (h1 : a + 4 * (xs.length : Int) ≤ 1152921504606846976) : laws_markNatDoorS_m xs a = some (a + 4 * (xs.length : Int), mkL mkNatDoor 4 a xs.length) := by
  unfold laws_markNatDoorS_m
  rw [mark_p mkNatDoor 4 (fun i ys n hi hy hn => ?_) (fun ys n hy => by rw [← hy, if_neg (by simp)]), bd_val, gd_pos rfl]
  have hg : ∀ v : NatDoor, (ys.set i v).getD i default = v := fun v => getD_set (by omega)
  have hi' : (0 : Int) ≤ (i : Int) ∧ (i : Int) < ((ys.length : Nat) : Int) := by omega
  have h3 : (3 : Int) ≠ 0 := by decide
  have hlt : decide ((i : Int) < ((ys.length : Nat) : Int)) = true := by simp; omega
  have hin : (i : Int) < (xs.length : Int) := by omega
  simp only [hlt, if_true, gd_pos hi', gd_pos h3, Int.toNat_natCast, bd_val, List.set_set, hg]
  simp (disch := omega) only [wrap_i64, mkNatDoor]
  refine congrArg some (congrArg Sum.inl (Prod.ext rfl (Prod.ext ?_ ?_))) <;> dsimp only <;> omega
theorem heldNatDoorS_p {m : Nat} {a : Int} (h0 : 0 ≤ a) (h1 : a + 4 * (m : Int) ≤ 1152921504606846976) : laws_heldNatDoorS_m (mkL mkNatDoor 4 a m) a = some (a + 4 * (m : Int)) := by
  unfold laws_heldNatDoorS_m
  have hl : (mkL mkNatDoor 4 a m).length = m := mkL_len
  rw [hl, held_p 4 m (fun i n hi hn => ?_) (fun n => by rw [if_neg (by simp)]), bd_val]
  have hg : (mkL mkNatDoor 4 a m).getD i default = mkNatDoor n := by rw [hn]; exact mkL_get hi
  have hi' : (0 : Int) ≤ (i : Int) ∧ (i : Int) < (m : Int) := by omega
  have h3 : (3 : Int) ≠ 0 := by decide
  have hlt : decide ((i : Int) < (m : Int)) = true := by simp; omega
  simp only [hlt, if_true, gd_pos hi', gd_pos h3, Int.toNat_natCast, hg, mkNatDoor]
  simp (disch := omega) only [wrap_i64, bne_self_eq_false, beq_self_eq_true, Bool.not_true, Bool.false_eq_true, if_false]
  refine congrArg some (congrArg Sum.inl (Prod.ext ?_ ?_)) <;> dsimp only <;> omega


def mkNatEntry (n : Int) : NatEntry := ⟨n, (n + 1), (n + 1 + 1), (n + 1 + 1 + 1), (n + 1 + 1 + 1 + 1), (n + 1 + 1 + 1 + 1 + 1), (n + 1 + 1 + 1 + 1 + 1 + 1)⟩
theorem markNatEntryS_p {xs : List NatEntry} {a : Int} (h0 : 0 ≤ a) (h1 : a + 7 * (xs.length : Int) ≤ 1152921504606846976) : laws_markNatEntryS_m xs a = some (a + 7 * (xs.length : Int), mkL mkNatEntry 7 a xs.length) := by
  unfold laws_markNatEntryS_m
  rw [mark_p mkNatEntry 7 (fun i ys n hi hy hn => ?_) (fun ys n hy => by rw [← hy, if_neg (by simp)]), bd_val, gd_pos rfl]
  have hg : ∀ v : NatEntry, (ys.set i v).getD i default = v := fun v => getD_set (by omega)
  have hi' : (0 : Int) ≤ (i : Int) ∧ (i : Int) < ((ys.length : Nat) : Int) := by omega
  have h3 : (3 : Int) ≠ 0 := by decide
  have hlt : decide ((i : Int) < ((ys.length : Nat) : Int)) = true := by simp; omega
  have hin : (i : Int) < (xs.length : Int) := by omega
  simp only [hlt, if_true, gd_pos hi', gd_pos h3, Int.toNat_natCast, bd_val, List.set_set, hg]
  simp (disch := omega) only [wrap_i64, mkNatEntry]
  refine congrArg some (congrArg Sum.inl (Prod.ext rfl (Prod.ext ?_ ?_))) <;> dsimp only <;> omega
theorem heldNatEntryS_p {m : Nat} {a : Int} (h0 : 0 ≤ a) (h1 : a + 7 * (m : Int) ≤ 1152921504606846976) : laws_heldNatEntryS_m (mkL mkNatEntry 7 a m) a = some (a + 7 * (m : Int)) := by
  unfold laws_heldNatEntryS_m
  have hl : (mkL mkNatEntry 7 a m).length = m := mkL_len
  rw [hl, held_p 7 m (fun i n hi hn => ?_) (fun n => by rw [if_neg (by simp)]), bd_val]
  have hg : (mkL mkNatEntry 7 a m).getD i default = mkNatEntry n := by rw [hn]; exact mkL_get hi
  have hi' : (0 : Int) ≤ (i : Int) ∧ (i : Int) < (m : Int) := by omega
  have h3 : (3 : Int) ≠ 0 := by decide
  have hlt : decide ((i : Int) < (m : Int)) = true := by simp; omega
  simp only [hlt, if_true, gd_pos hi', gd_pos h3, Int.toNat_natCast, hg, mkNatEntry]
  simp (disch := omega) only [wrap_i64, bne_self_eq_false, beq_self_eq_true, Bool.not_true, Bool.false_eq_true, if_false]
  refine congrArg some (congrArg Sum.inl (Prod.ext ?_ ?_)) <;> dsimp only <;> omega

def NatBook.marks (b : NatBook) : Int := 1 + 4 * (b.Doors.length : Int) + 7 * (b.Entries.length : Int)
def NatBook.marked (b : NatBook) : NatBook := { b with Doors := mkL mkNatDoor 4 1 b.Doors.length, Entries := mkL mkNatEntry 7 (1 + 4 * (b.Doors.length : Int)) b.Entries.length }
theorem markNatBook_p {b : NatBook} (hd : b.Doors.length ≤ 1048576) (he : b.Entries.length ≤ 1048576) : laws_markNatBook_m b 1 = some (b.marks, b.marked) := by
  unfold laws_markNatBook_m
  rw [markNatDoorS_p (by omega) (by omega), bd_val, gd_pos mkL_len, markNatEntryS_p (by omega) (by omega), bd_val, gd_pos mkL_len]
  rfl
theorem heldNatBook_p {b c : NatBook} (hd : b.Doors.length ≤ 1048576) (he : b.Entries.length ≤ 1048576) : laws_heldNatBook_m { c with Doors := b.marked.Doors, Entries := b.marked.Entries } 1 = some b.marks := by
  unfold laws_heldNatBook_m NatBook.marked
  dsimp only
  rw [heldNatDoorS_p (by omega) (by omega), bd_val, if_neg (by simp; omega), heldNatEntryS_p (by omega) (by omega), bd_val, if_neg (by simp; omega)]
  rfl
theorem marked_lens {b : NatBook} : b.marked.Doors.length = b.Doors.length ∧ b.marked.Entries.length = b.Entries.length := ⟨mkL_len, mkL_len⟩

end Go.Proofs.Ytaoeomoepefojaa
