/-
  Plain Lean: a book stays ok when ticks are told.
-/
import Derived.Test.YtaoeomoepefojabKz3
import Derived.Test.YtaoeomoepefojabNatTz
set_option linter.all false
namespace Go.Proofs.Ytaoeomoepefojab
open Go Go.Ab
set_option maxHeartbeats 400000

theorem entryLess_iff {e f : NatEntry} : entryLess e f = true ↔ e.Kind < f.Kind ∨ (e.Kind = f.Kind ∧ (e.Peer < f.Peer ∨ (e.Peer = f.Peer ∧ (e.PeerPort < f.PeerPort ∨ (e.PeerPort = f.PeerPort ∧ e.Outer < f.Outer))))) := by
  simp [entryLess]
theorem entryLess_trans {a b c : NatEntry} (h : entryLess a b = true) (k : entryLess b c = true) : entryLess a c = true := by
  rw [entryLess_iff] at *
  omega
/-- How two entries of a book stand, the one ahead of the other. -/
def EntR (b : NatBook) (e f : NatEntry) : Prop := entryLess e f = true ∧ entryClash b e f = false
theorem entries_iff {b : NatBook} : b.entriesOk = true ↔ b.Entries.length ≤ 16 ∧ (∀ e ∈ b.Entries, entryOk b e = true) ∧ b.Entries.Pairwise (EntR b) := by
  unfold NatBook.entriesOk
  rw [Bool.and_eq_true, decide_eq_true_eq]
  refine and_congr Iff.rfl ⟨fun h => ?_, fun ⟨h1, h2⟩ => allR_of fun i hi => ?_⟩
  · have at_ : ∀ i, i < b.Entries.length → entryOk b (b.Entries.getD i default) = true ∧ (i = 0 ∨ entryLess (b.Entries.getD (i - 1) default) (b.Entries.getD i default) = true) ∧ ∀ k, k < i → entryClash b (b.Entries.getD k default) (b.Entries.getD i default) = false := fun i hi => by
      have := allR_get h hi
      simp only [entryAt, Bool.and_eq_true, Bool.or_eq_true, decide_eq_true_eq] at this
      exact ⟨this.1.1, this.1.2, fun k hk => by simpa using allR_get this.2 hk⟩
    refine ⟨fun e he => ?_, List.pairwise_iff_getElem.2 fun k i hk hi hki => ?_⟩
    · obtain ⟨i, hi, rfl⟩ := List.getElem_of_mem he
      have := (at_ i hi).1
      rwa [List.getD_eq_getElem?_getD, List.getElem?_eq_getElem hi] at this
    · have l := chain (r := fun x y => entryLess x y) (fun h k => entryLess_trans h k) (f := fun i => b.Entries.getD i default) (n := b.Entries.length) (fun i h0 hi => by
        rcases (at_ i hi).2.1 with h | h
        · omega
        · exact h) i hi k hki
      have c := (at_ i hi).2.2 k hki
      rw [List.getD_eq_getElem?_getD, List.getD_eq_getElem?_getD, List.getElem?_eq_getElem hk, List.getElem?_eq_getElem hi] at l c
      exact ⟨l, c⟩
  · have gi : b.Entries.getD i default = b.Entries[i] := by rw [List.getD_eq_getElem?_getD, List.getElem?_eq_getElem hi]; rfl
    have pr : ∀ k, (hk : k < i) → EntR b (b.Entries.getD k default) (b.Entries.getD i default) := fun k hk => by
      have := List.pairwise_iff_getElem.1 h2 k i (by omega) hi hk
      rw [gi, List.getD_eq_getElem?_getD, List.getElem?_eq_getElem (by omega : k < b.Entries.length)]
      exact this
    unfold entryAt
    rw [Bool.and_eq_true, Bool.and_eq_true, Bool.or_eq_true, decide_eq_true_eq]
    refine ⟨⟨by rw [gi]; exact h1 _ (List.getElem_mem hi), ?_⟩, allR_of fun k hk => by rw [(pr k hk).2]; rfl⟩
    by_cases h0 : i = 0
    · exact .inl h0
    · exact .inr (pr (i - 1) (by omega)).1
theorem ok_parts {b : NatBook} : b.ok = true ↔ b.frameOk = true ∧ b.doorsOk = true ∧ b.entriesOk = true := by
  unfold NatBook.ok
  rw [Bool.and_eq_true, Bool.and_eq_true, and_assoc]
/-! Ticks on end. -/
structure Tk (b c : NatBook) (i : Nat) : Prop where
  ok : c.ok = true
  own : c.Own = b.Own
  ins : ∀ a, c.inside a = b.inside a
  low : c.Low = b.Low
  high : c.High = b.High
  sub : ∀ e ∈ c.Entries, e ∈ b.Entries
  now : c.Now = b.Now + i ∨ (c.Now = 1000000 ∧ 1000000 < b.Now + i)
end Go.Proofs.Ytaoeomoepefojab
