/-
  Plain Lean: a book stays ok when ticks are told.
-/
import Derived.Test.YtaoeomoepefojabKz3
import Derived.Test.YtaoeomoepefojabNatTz
set_option linter.all false
namespace Go.Proofs.Ytaoeomoepefojab
open Go Go.Ab
set_option maxHeartbeats 400000

theorem entryLess_iff {e f : NatEntry} : entryLess e f = true ↔ e.Kind < f.Kind ∨ (e.Kind = f.Kind ∧ (e.Peer < f.Peer ∨ (e.Peer = f.Peer ∧ (e.PeerPort < f.PeerPort ∨ (e.PeerPort = f.PeerPort ∧ e.Outer < f.Outer))))) := by
  simp [entryLess]
theorem entryLess_trans {a b c : NatEntry} (h : entryLess a b = true) (k : entryLess b c = true) : entryLess a c = true := by
  rw [entryLess_iff] at *
  omega
/-- How two entries of a book stand, the one ahead of the other. -/
def EntR (b : NatBook) (e f : NatEntry) : Prop := entryLess e f = true ∧ entryClash b e f = false
theorem entries_iff {b : NatBook} : b.entriesOk = true ↔ b.Entries.length ≤ 16 ∧ (∀ e ∈ b.Entries, entryOk b e = true) ∧ b.Entries.Pairwise (EntR b) := by
  unfold NatBook.entriesOk
  rw [Bool.and_eq_true, decide_eq_true_eq]
  refine and_congr Iff.rfl ⟨fun h => ?_, fun ⟨h1, h2⟩ => allR_of fun i hi => ?_⟩
  · have at_ : ∀ i, i < b.Entries.length → entryOk b (b.Entries.getD i default) = true ∧ (i = 0 ∨ entryLess (b.Entries.getD (i - 1) default) (b.Entries.getD i default) = true) ∧ ∀ k, k < i → entryClash b (b.Entries.getD k default) (b.Entries.getD i default) = false := fun i hi => by
      have := allR_get h hi
      simp only [entryAt, Bool.and_eq_true, Bool.or_eq_true, decide_eq_true_eq] at this
      exact ⟨this.1.1, this.1.2, fun k hk => by simpa using allR_get this.2 hk⟩
    refine ⟨fun e he => ?_, List.pairwise_iff_getElem.2 fun k i hk hi hki => ?_⟩
    · obtain ⟨i, hi, rfl⟩ := List.getElem_of_mem he
      have := (at_ i hi).1
      rwa [List.getD_eq_getElem?_getD, List.getElem?_eq_getElem hi] at this
    · have l := chain (r := fun x y => entryLess x y) (fun h k => entryLess_trans h k) (f := fun i => b.Entries.getD i default) (n := b.Entries.length) (fun i h0 hi => by
        rcases (at_ i hi).2.1 with h | h
        · omega
        · exact h) i hi k hki
      have c := (at_ i hi).2.2 k hki
      rw [List.getD_eq_getElem?_getD, List.getD_eq_getElem?_getD, List.getElem?_eq_getElem hk, List.getElem?_eq_getElem hi] at l c
      exact ⟨l, c⟩
  · have gi : b.Entries.getD i default = b.Entries[i] := by rw [List.getD_eq_getElem?_getD, List.getElem?_eq_getElem hi]; rfl
    have pr : ∀ k, (hk : k < i) → EntR b (b.Entries.getD k default) (b.Entries.getD i default) := fun k hk => by
      have := List.pairwise_iff_getElem.1 h2 k i (by omega) hi hk
      rw [gi, List.getD_eq_getElem?_getD, List.getElem?_eq_getElem (by omega : k < b.Entries.length)]
      exact this
    unfold entryAt
    rw [Bool.and_eq_true, Bool.and_eq_true, Bool.or_eq_true, decide_eq_true_eq]
    refine ⟨⟨by rw [gi]; exact h1 _ (List.getElem_mem hi), ?_⟩, allR_of fun k hk => by rw [(pr k hk).2]; rfl⟩
    by_cases h0 : i = 0
    · exact .inl h0
    · exact .inr (pr (i - 1) (by omega)).1
theorem entryOk_last {b : NatBook} {e : NatEntry} (h : entryOk b e = true) : 0 ≤ e.Last ∧ e.Last ≤ b.Now ∧ b.Now - e.Last < 12 := by
  simp only [entryOk, Bool.and_eq_true, decide_eq_true_eq] at h
  exact ⟨h.1.1.2, h.1.2, h.2⟩
theorem live_iff {b : NatBook} {e : NatEntry} (h0 : 0 ≤ b.Now ∧ b.Now ≤ 1000000) (h1 : 0 ≤ e.Last ∧ e.Last ≤ 1000000) : live b e = true ↔ b.Now - e.Last < 8 := by
  unfold live ageW
  rw [wrap_i64 (by omega) (by omega), decide_eq_true_eq]
theorem now_in {b : NatBook} (h : b.ok = true) : 0 ≤ b.Now ∧ b.Now ≤ 1000000 := (frameOk_spec (ok_frame h)).2
theorem ok_parts {b : NatBook} : b.ok = true ↔ b.frameOk = true ∧ b.doorsOk = true ∧ b.entriesOk = true := by
  unfold NatBook.ok
  rw [Bool.and_eq_true, Bool.and_eq_true, and_assoc]
theorem keep_iff {b : NatBook} {e : NatEntry} (h : 0 ≤ b.Now ∧ b.Now ≤ 1000000) (hl : 0 ≤ e.Last ∧ e.Last ≤ b.Now) : keepW (IntKind.i64.wrap (b.Now + 1)) e = true ↔ b.Now + 1 - e.Last < 12 := by
  unfold keepW
  rw [wrap_i64 (n := b.Now + 1) (by omega) (by omega), wrap_i64 (by omega) (by omega), decide_eq_true_eq]
theorem tick_ok {b : NatBook} (h : b.ok = true) (hn : b.Now ≠ 1000000) : (tickOf b).ok = true ∧ (tickOf b).Now = b.Now + 1 := by
  obtain ⟨hf, hd, he⟩ := ok_parts.1 h
  obtain ⟨n1, n2⟩ := now_in h
  have en : (tickOf b).Now = b.Now + 1 := wrap_i64 (by omega) (by omega)
  obtain ⟨e1, e2, e3⟩ := entries_iff.1 he
  refine ⟨ok_parts.2 ⟨?_, hd, entries_iff.2 ⟨Nat.le_trans (List.length_filter_le _ _) e1, fun e hm => ?_, ?_⟩⟩, en⟩
  · unfold NatBook.frameOk at hf ⊢
    rw [en]
    simp only [Bool.and_eq_true, decide_eq_true_eq] at hf ⊢
    exact ⟨⟨hf.1.1, by omega⟩, by omega⟩
  · obtain ⟨m1, m2⟩ := List.mem_filter.1 hm
    have ho := e2 e m1
    have hl := entryOk_last ho
    have := (keep_iff ⟨n1, n2⟩ ⟨hl.1, hl.2.1⟩).1 m2
    unfold entryOk at ho ⊢
    rw [en]
    simp only [Bool.and_eq_true, decide_eq_true_eq] at ho ⊢
    exact ⟨⟨ho.1.1, by omega⟩, by omega⟩
  · refine (List.Pairwise.and_mem.1 (e3.filter (keepW (IntKind.i64.wrap (b.Now + 1))))).imp fun {e f} ⟨m1, m2, l, c⟩ => ⟨l, ?_⟩
    have k1 := entryOk_last (e2 e (List.mem_filter.1 m1).1)
    have k2 := entryOk_last (e2 f (List.mem_filter.1 m2).1)
    cases hc : entryClash (tickOf b) e f
    · rfl
    · unfold entryClash at hc c
      rw [Bool.and_eq_true, Bool.and_eq_true] at hc
      have l1 := (live_iff (b := tickOf b) (by rw [en]; omega) (by omega)).1 hc.1.2
      have l2 := (live_iff (b := tickOf b) (by rw [en]; omega) (by omega)).1 hc.2
      rw [en] at l1 l2
      rw [hc.1.1, (live_iff (b := b) ⟨n1, n2⟩ (by omega)).2 (by omega), (live_iff (b := b) ⟨n1, n2⟩ (by omega)).2 (by omega)] at c
      exact absurd c (by decide)

/-! Ticks on end. -/
structure Tk (b c : NatBook) (i : Nat) : Prop where
  ok : c.ok = true
  own : c.Own = b.Own
  ins : ∀ a, c.inside a = b.inside a
  low : c.Low = b.Low
  high : c.High = b.High
  sub : ∀ e ∈ c.Entries, e ∈ b.Entries
  now : c.Now = b.Now + i ∨ (c.Now = 1000000 ∧ 1000000 < b.Now + i)
end Go.Proofs.Ytaoeomoepefojab
