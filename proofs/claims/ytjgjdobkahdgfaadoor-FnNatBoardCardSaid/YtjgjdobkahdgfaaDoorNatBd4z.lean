/-
  The board of a drawn book has a line for the tick, for each door, and for each entry; no condition.
-/
import Derived.Test.YtjgjdobkahdgfaaDoorKz3
import Derived.Test.YtjgjdobkahdgfaaDoorNatBd2z
import Derived.Test.YtjgjdobkahdgfaaDoorNatPo4z
set_option linter.all false
namespace Go.Proofs.YtjgjdobkahdgfaaDoor
open Go Go.Ab
set_option maxRecDepth 100000
set_option maxHeartbeats 1000000

theorem drawNatBoard_post {b : List Int} (hb : b.length ≤ 9223372036854775807) (h : ∀ x ∈ b, FitsB x) : Post (spec_DrawNatBoard_m b) fun x => Bk x 3 21 := by
  unfold spec_DrawNatBoard_m
  exact .bd (open_post hb h) fun x1 h1 => .bd (any_post h1 (by omega)) fun x2 ⟨b2, h2⟩ => .ret b2

/-! ### How many lines -/
theorem no10_fin : ∀ k : Fin 10, UInt8.ofNat (48 + k.val) ≠ 10 := by decide +kernel
theorem dg_no10 (n : Nat) : (10 : UInt8) ∉ Lib.decDigits n := by
  induction n using Nat.strongRecOn with
  | ind n ih =>
    unfold Lib.decDigits
    split
    · rename_i h
      have := no10_fin ⟨n, h⟩
      simp only [List.mem_singleton]
      exact fun e => this e.symm
    · have := no10_fin ⟨n % 10, by omega⟩
      simp only [List.mem_append, List.mem_singleton]
      rintro (h | h)
      · exact ih _ (by omega) h
      · exact this h.symm
theorem cnt_dg (n : Int) : (dg n).count 10 = 0 := List.count_eq_zero.2 (dg_no10 _)
theorem cnt_end (a p : Int) : (endT a p).count 10 = 0 := by
  unfold endT adr
  simp only [List.count_append, cnt_dg]
  decide
theorem cnt_now (b : NatBook) : (nowT b).count 10 = 1 := by
  unfold nowT
  simp only [List.count_append, cnt_dg]
  decide
theorem cnt_door (b : NatBook) (d : NatDoor) : (doorT b d).count 10 = 1 := by
  unfold doorT
  simp only [List.count_append, cnt_dg, cnt_end]
  decide
theorem cnt_entry (b : NatBook) (e : NatEntry) : (entryT b e).count 10 = 1 := by
  have : (stateT b e).count 10 = 0 := by
    unfold stateT
    split <;> decide
  unfold entryT
  simp only [List.count_append, cnt_dg, cnt_end, this]
  decide
theorem cnt_map (f : Nat → List UInt8) (h : ∀ i, (f i).count 10 = 1) (n : Nat) : ((List.range n).flatMap f).count 10 = n := by
  induction n with
  | zero => rfl
  | succ n ih =>
    rw [List.range_succ, List.flatMap_append, List.count_append, ih]
    simp [h]
theorem cnt_board (b : NatBook) : (boardT b).count 10 = 1 + b.Doors.length + b.Entries.length := by
  unfold boardT doorsT entriesT
  rw [List.count_append, List.count_append, cnt_now, cnt_map _ (fun i => cnt_door _ _), cnt_map _ (fun i => cnt_entry _ _)]
theorem strAt_ba (l : List UInt8) (i : Nat) (h : i < l.length) : strAt (ba l) i = ((l[i]).toNat : Int) := by
  unfold strAt ba
  have : (⟨l.toArray⟩ : ByteArray)[i]? = some l[i] := by
    rw [ByteArray.getElem?_lt' _ _ (by simpa [ByteArray.size] using h)]
    rfl
  rw [this]
theorem cnt_step {l : List UInt8} {i : Nat} (h : i < l.length) : (l.take (i + 1)).count 10 = (l.take i).count 10 + if strAt (ba l) i == 10 then 1 else 0 := by
  rw [List.take_add_one, List.getElem?_eq_getElem h, List.count_append, strAt_ba l i h]
  congr 1
  have : ((l[i]).toNat : Int) = 10 ↔ l[i] = 10 := by
    constructor
    · intro e
      have e1 : (l[i]).toNat = 10 := by omega
      exact UInt8.toNat_inj.1 (e1.trans rfl)
    · intro e
      rw [e]
      rfl
  by_cases c : l[i] = 10
  · rw [if_pos (by rw [beq_iff_eq]; exact this.2 c), c]
    rfl
  · rw [if_neg (by rw [beq_iff_eq]; exact fun e => c (this.1 e))]
    simp [c]
theorem count_lp {l : List UInt8} (hl : l.length ≤ 4000000000) : lp (σ := Int × Int) (β := (Int)) (fun s4 =>
(if (decide (s4.2 < (((ba l).size : Nat) : Int))) = true then
 gd ((0 : Int) ≤ s4.2 ∧ s4.2 < (((ba l).size : Nat) : Int)) <|
(if ((strAt (ba l) s4.2.toNat) == 10) = true then
 some (.inl (IntKind.i64.wrap (s4.1 + 1), IntKind.i64.wrap (s4.2 + 1)))
else
 some (.inl (s4.1, IntKind.i64.wrap (s4.2 + 1))))
else
 some (.inr s4.1))) (0, 0) = some (((l.count 10 : Nat) : Int)) := by
  rw [ba_size]
  have hc : ∀ i, (l.take i).count 10 ≤ i := fun i => Nat.le_trans List.count_le_length (by rw [List.length_take]; omega)
  have := lp_fold (β := Int) l.length (fun (_ : Int) i => (((l.take (i + 1)).count 10 : Nat) : Int)) (fun a => a) 0 (fun i a => a = (((l.take i).count 10 : Nat) : Int)) (by simp) (fun i a hi ha => rfl)
    (step := fun s4 => (if (decide (s4.2 < ((l.length : Nat) : Int))) = true then
 gd ((0 : Int) ≤ s4.2 ∧ s4.2 < ((l.length : Nat) : Int)) <|
(if ((strAt (ba l) s4.2.toNat) == 10) = true then
 some (.inl (IntKind.i64.wrap (s4.1 + 1), IntKind.i64.wrap (s4.2 + 1)))
else
 some (.inl (s4.1, IntKind.i64.wrap (s4.2 + 1))))
else
 some (.inr s4.1))) (fun i a hi ha => by
      subst ha
      have h1 := hc i
      have h2 := cnt_step hi
      dsimp only
      rw [if_pos (by simp; omega), gd_pos (by omega), Int.toNat_natCast, wrap_succ hi (by omega)]
      by_cases c : (strAt (ba l) i == 10) = true
      · rw [if_pos c] at h2 ⊢
        rw [wrap_i64 (by omega) (by omega), h2]
        rfl
      · rw [if_neg c, Nat.add_zero] at h2
        rw [if_neg c]
        exact congrArg (fun n : Nat => some (Sum.inl (((n : Nat) : Int), (((i + 1 : Nat) : Nat) : Int)))) h2.symm) (fun a _ => by rw [if_neg (by simp)])
  rw [this.1, this.2, List.take_length]
theorem boardT_le {b : NatBook} (h : b.ok = true) : (boardT b).length ≤ 4000000000 := by
  have key : ∀ (f : Nat → List UInt8) (n k : Nat), (∀ i, i < n → (f i).length ≤ k) → ((List.range n).flatMap f).length ≤ n * k := by
    intro f n k hk
    induction n with
    | zero => simp
    | succ n ih =>
      have h1 := ih fun i hi => hk i (by omega)
      have h2 := hk n (by omega)
      have h3 : ([n].flatMap f).length = (f n).length := by simp
      rw [List.range_succ, List.flatMap_append, List.length_append, Nat.add_mul, Nat.one_mul, h3]
      omega
  obtain ⟨n1, n2⟩ := ok_lens h
  obtain ⟨_, _, _, hw⟩ := ok_own h
  have k0 := nowT_le hw
  have k1 := key (fun i => doorT b (b.Doors.getD i default)) b.Doors.length 10000000 fun i hi => doorT_le (ok_door h i hi)
  have k2 := key (fun i => entryT b (b.Entries.getD i default)) b.Entries.length 20000000 fun i hi => entryT_le (ok_entry h i hi)
  unfold boardT doorsT entriesT
  rw [List.length_append, List.length_append]
  omega
theorem fnNatBoard_p {a0 : List Int} (h : a0.length ≤ 9223372036854775807 ∧ ∀ x ∈ a0, FitsB x) : laws_FnNatBoard_m a0 = some true := by
  unfold laws_FnNatBoard_m
  by_cases hl : ((a0.length : Nat) : Int) > 1048576
  · rw [if_pos (by simpa using hl)]
  rw [if_neg (by simpa using hl)]
  obtain ⟨b, e, hb⟩ := drawNatBoard_post h.1 h.2
  obtain ⟨t, e1, e2, et⟩ := board_both (b := b) (by have := hb.d; omega) (by have := hb.e; omega)
  rw [e, bd_val, e2, bd_val, e1, bd_val, if_neg (by simp [ba_beq])]
  by_cases hk : b.ok = true
  · rw [if_pos hk] at et
    subst et
    obtain ⟨n1, n2⟩ := ok_lens hk
    rw [count_lp (boardT_le hk), bd_val, cnt_board, specBookOk_p, gcall_b, bd_val, wrap_i64 (n := 1 + ((b.Doors.length : Nat) : Int)) (by omega) (by omega), wrap_i64 (by omega) (by omega)]
    have : (((1 + b.Doors.length + b.Entries.length : Nat) : Int) == 1 + ((b.Doors.length : Nat) : Int) + ((b.Entries.length : Nat) : Int)) = true := by
      rw [beq_iff_eq]
      omega
    rw [this, Bool.or_true]
  · rw [if_neg hk] at et
    subst et
    rw [count_lp (l := []) (by simp), bd_val, specBookOk_p, gcall_b, bd_val]
    simp [hk]
end Go.Proofs.YtjgjdobkahdgfaaDoor
