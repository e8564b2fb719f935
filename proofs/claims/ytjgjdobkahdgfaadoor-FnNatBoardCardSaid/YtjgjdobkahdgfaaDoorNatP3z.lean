/-
  Plain Lean: the entries of a book; NatBookOk and NatInside.
-/
import Derived.Test.YtjgjdobkahdgfaaDoorKz3
import Derived.Test.YtjgjdobkahdgfaaDoorNatP2z
set_option linter.all false
namespace Go.Proofs.YtjgjdobkahdgfaaDoor
open Go Go.Ab
set_option maxHeartbeats 400000

@[reducible] def NatEntry.flow (e : NatEntry) : NatFlow := ⟨e.Kind, e.Inner, e.InnerPort, e.Peer, e.PeerPort⟩
def entryOk (b : NatBook) (e : NatEntry) : Bool := decide (1 ≤ e.Kind) && decide (e.Kind ≤ 7) && decide (0 ≤ e.Peer) && decide (e.Peer ≤ 65535) && !b.inside e.Peer && !(e.Peer == b.Own) && decide (1 ≤ e.PeerPort) && decide (e.PeerPort ≤ 65535) &&
  decide (b.Low ≤ e.Outer) && decide (e.Outer ≤ b.High) && b.inside e.Inner && decide (1 ≤ e.InnerPort) && decide (e.InnerPort ≤ 65535) && decide (0 ≤ e.Last) && decide (e.Last ≤ b.Now) && decide (b.Now - e.Last < 12)

theorem specEntryOk_p {b : NatBook} (h : b.frameOk = true) (e : NatEntry) : spec_l22EntryOk_m b e = some (entryOk b e) := by
  obtain ⟨hn, hw1, hw2⟩ := frameOk_spec h
  have hw : 0 ≤ e.Last → e.Last ≤ b.Now → IntKind.i64.wrap (b.Now - e.Last) = b.Now - e.Last := fun a c => wrap_i64 (by omega) (by omega)
  unfold spec_l22EntryOk_m entryOk
  simp only [l21In_p, specInside_p hn, bd_val, gcall_nb]
  generalize IntKind.i64.wrap (b.Now - e.Last) = x at hw ⊢
  split
  · congr 1; grind
  · split
    · congr 1; grind
    · congr 1; grind

def entryLess (e f : NatEntry) : Bool := decide (e.Kind < f.Kind) || (e.Kind == f.Kind && (decide (e.Peer < f.Peer) || (e.Peer == f.Peer && (decide (e.PeerPort < f.PeerPort) || (e.PeerPort == f.PeerPort && decide (e.Outer < f.Outer))))))
theorem specLess_p (e f : NatEntry) : spec_l22Less_m e f = some (entryLess e f) := by
  unfold spec_l22Less_m entryLess
  split
  · congr 1; grind
  · split
    · congr 1; grind
    · split <;> (congr 1; grind)

def flowEq (a b : NatFlow) : Bool := a.Kind == b.Kind && a.From == b.From && a.FromPort == b.FromPort && a.To == b.To && a.ToPort == b.ToPort
@[simp] theorem specFlow_p (e : NatEntry) : spec_l22Flow_m e = some e.flow := rfl
@[simp] theorem implFlow_p (e : NatEntry) : impl_NatEntry_flow_m e = some e.flow := rfl
theorem specIs_p (e : NatEntry) (f : NatFlow) : spec_l22Is_m e f = some (flowEq e.flow f) := by
  unfold spec_l22Is_m flowEq
  rfl
def ageW (b : NatBook) (e : NatEntry) : Int := IntKind.i64.wrap (b.Now - e.Last)
def live (b : NatBook) (e : NatEntry) : Bool := decide (ageW b e < 8)
@[simp] theorem specLive_p (b : NatBook) (e : NatEntry) : spec_l22Live_m b e = some (live b e) := rfl
@[simp] theorem implLives_p (b : NatBook) (e : NatEntry) : impl_NatBook_lives_m b e = some (live b e) := rfl
@[simp] theorem implAge_p (b : NatBook) (e : NatEntry) : impl_NatBook_age_m b e = some (ageW b e) := rfl
def flowOk (f : NatFlow) : Bool := decide (1 ≤ f.Kind) && decide (f.Kind ≤ 7) && decide (0 ≤ f.From) && decide (f.From ≤ 65535) && decide (0 ≤ f.To) && decide (f.To ≤ 65535) && decide (1 ≤ f.FromPort) && decide (f.FromPort ≤ 65535) && decide (1 ≤ f.ToPort) && decide (f.ToPort ≤ 65535)
theorem implFlowOk_p (f : NatFlow) : impl_NatFlowOk_m f = some (flowOk f) := by
  unfold impl_NatFlowOk_m flowOk
  simp only [within_p, bd_val, gcall_b]
  congr 1; grind

theorem inside_range {b : NatBook} (h : netOk b.net = true) {a : Int} (ha : b.inside a = true) : 0 ≤ a ∧ a ≤ 65535 := by
  obtain ⟨h1, h2, h3, h4⟩ : 0 ≤ b.Len ∧ b.Len ≤ 16 ∧ 0 ≤ b.Addr ∧ b.Addr ≤ 65535 := netOk_spec h
  have h5 : b.Addr.tmod (netSize b.Len) = 0 := by
    simp [netOk] at h
    exact h.2
  have hp := netSize_pos b.Len
  simp [NatBook.inside, netHas] at ha
  refine ⟨by omega, ?_⟩
  rw [Int.tmod_eq_emod_of_nonneg h3] at h5
  obtain ⟨k, hk⟩ := Int.dvd_of_emod_eq_zero h5
  have e16 : netSize b.Len * 2 ^ b.Len.toNat = 65536 := by
    unfold netSize
    rw [← Int.pow_add, show (16 - b.Len).toNat + b.Len.toNat = 16 by omega]; rfl
  have hlt : k < 2 ^ b.Len.toNat := by
    apply Int.lt_of_mul_lt_mul_left (a := netSize b.Len) _ (by omega)
    rw [e16, ← hk]; omega
  have hle : netSize b.Len * (k + 1) ≤ netSize b.Len * 2 ^ b.Len.toNat := Int.mul_le_mul_of_nonneg_left (by omega) (by omega)
  rw [Int.mul_add, ← hk, e16] at hle
  omega

theorem implEntryOk_p {b : NatBook} (h : b.frameOk = true) (e : NatEntry) : impl_NatBook_entryOk_m b e = some (entryOk b e) := by
  obtain ⟨hn, hw1, hw2⟩ := frameOk_spec h
  have hw : 0 ≤ e.Last → e.Last ≤ b.Now → ageW b e = b.Now - e.Last := fun a c => wrap_i64 (by omega) (by omega)
  have hr := fun (ha : b.inside e.Inner = true) => inside_range hn ha
  unfold impl_NatBook_entryOk_m
  simp only [implFlow_p, implFlowOk_p, within_p, implInside_p hn, bd_val, gcall_b, implAge_p]
  rw [bd_gc (f := fun y => decide (y < 12))]
  unfold entryOk flowOk
  generalize ageW b e = x at hw ⊢
  congr 1
  grind

def cmp4 (e f : NatEntry) : Int := firstNz [cmpInt e.Kind f.Kind, cmpInt e.Peer f.Peer, cmpInt e.PeerPort f.PeerPort, cmpInt e.Outer f.Outer]
theorem entryLess_cmp (e f : NatEntry) : decide (cmp4 e f ≥ 0) = !entryLess e f := by
  simp [cmp4, entryLess, firstNz, cmpInt]
  grind
theorem implCompare_p (e f : NatEntry) : impl_NatEntry_compare_m e f = some (cmp4 e f) := by
  unfold impl_NatEntry_compare_m cmp4
  simp only [compare_p, bd_val, or_p (xs := [_, _, _, _]) (by simp)]

def entryClash (b : NatBook) (e f : NatEntry) : Bool := flowEq e.flow f.flow && live b f && live b e
def entryAt (b : NatBook) (i : Nat) : Bool := entryOk b (b.Entries.getD i default) && (decide (i = 0) || entryLess (b.Entries.getD (i - 1) default) (b.Entries.getD i default)) && allR i fun k => !entryClash b (b.Entries.getD k default) (b.Entries.getD i default)
def NatBook.entriesOk (b : NatBook) : Bool := decide (b.Entries.length ≤ 16) && allR b.Entries.length (entryAt b)

theorem specEntries_p {b : NatBook} (h : b.frameOk = true) : spec_l22Entries_m b = some b.entriesOk := by
  unfold spec_l22Entries_m
  by_cases hl : (b.Entries.length : Int) > 16
  · simp [hl, NatBook.entriesOk]
    omega
  · rw [if_neg (by simpa using hl)]
    have hn : b.Entries.length ≤ 16 := by omega
    rw [lp_all b.Entries.length (entryAt b) (.inl ()) (.inr ()) (fun i hi _ => ?_) (fun _ => by rw [if_neg (by simp)])]
    · cases ha : allR b.Entries.length (entryAt b) <;> simp [NatBook.entriesOk, hn, ha]
    · rw [if_pos (by simp; omega), gd_pos (by omega), specEntryOk_p h, bd_val]
      simp only [Int.toNat_natCast]
      have hg : ∀ (_ : decide ((i : Int) > 0) = true) (_ : (!entryOk b (b.Entries.getD i default)) = false), (0 : Int) ≤ IntKind.i64.wrap ((i : Int) - 1) ∧ IntKind.i64.wrap ((i : Int) - 1) < (b.Entries.length : Int) := fun h0 _ => by
        simp at h0
        rw [wrap_pred hi h0 (by omega)]; omega
      rw [gd_pos hg]
      clear hg
      have hin : lp (σ := Int) (β := Unit ⊕ Unit) (fun s9 =>
          (if (decide (s9 < (i : Int))) = true then
          gd ((0 : Int) ≤ s9 ∧ s9 < ((b.Entries.length : Nat) : Int)) <|
          bd (spec_l22Flow_m (b.Entries.getD i default)) fun x14 =>
          bd (spec_l22Is_m (b.Entries.getD s9.toNat default) x14) fun x15 =>
          bd (gcall (x15 = true) (spec_l22Live_m b (b.Entries.getD i default))) fun x16 =>
          gd ((x15 && x16) = true → ((0 : Int) ≤ s9 ∧ s9 < ((b.Entries.length : Nat) : Int))) <|
          bd (gcall ((x15 && x16) = true) (spec_l22Live_m b (b.Entries.getD s9.toNat default))) fun x18 =>
          (if ((x15 && x16) && x18) = true then
          some (.inr (.inl ()))
          else
          some (.inl (IntKind.i64.wrap (s9 + 1))))
          else
          some (.inr (.inr ())))) 0 = some (if allR i (fun k => !entryClash b (b.Entries.getD k default) (b.Entries.getD i default)) = true then .inr () else .inl ()) := by
        refine lp_all i _ _ _ (fun k hk _ => ?_) (fun _ => by rw [if_neg (by simp)])
        rw [if_pos (by simp; omega), gd_pos (by omega), wrap_succ hk (by omega)]
        simp only [Int.toNat_natCast, specFlow_p, specIs_p, specLive_p, bd_val, gcall_b]
        rw [gd_pos (fun _ => by omega)]
        cases hp : entryClash b (b.Entries.getD k default) (b.Entries.getD i default)
        · rw [if_neg]
          · rfl
          · unfold entryClash at hp
            grind
        · rw [if_pos]
          · rfl
          · unfold entryClash at hp
            grind
      rcases (Bool.eq_false_or_eq_true (entryOk b (b.Entries.getD i default))).symm with h1 | h1
      · simp only [gcall, Bool.not_false, Bool.true_eq_false, and_false, if_false, bd_val, Bool.true_or, if_true, entryAt, h1, Bool.false_and, Bool.false_eq_true]
      · by_cases h0 : i = 0
        · have e0 : decide ((i : Int) > 0) = false := by simp; omega
          have e1 : decide (i = 0) = true := by simp [h0]
          rw [h1, e0]
          rw [gcall_neg (by decide), bd_val, if_neg (by decide)]
          rw [hin, wrap_succ hi (by omega)]
          cases ha : allR i (fun k => !entryClash b (b.Entries.getD k default) (b.Entries.getD i default)) <;> simp only [entryAt, h1, e1, ha, bd_val, Bool.true_or, Bool.and_self, Bool.and_true, Bool.and_false, Bool.false_eq_true, if_true, if_false]
        · have e0 : decide ((i : Int) > 0) = true := by simp; omega
          have e1 : decide (i = 0) = false := by simp [h0]
          have hw := wrap_pred hi (by omega) (by omega)
          rw [h1, e0, hw, Int.toNat_natCast, specLess_p, gcall_pos (by decide), bd_val]
          simp only [Bool.not_true, Bool.true_and, Bool.false_or]
          cases h2 : entryLess (b.Entries.getD (i - 1) default) (b.Entries.getD i default)
          · simp only [entryAt, h1, h2, e1, Bool.not_false, if_true, Bool.or_self, Bool.and_false, Bool.false_and, Bool.false_eq_true, if_false]
          · simp only [Bool.not_true, Bool.false_eq_true, if_false]
            rw [hin, wrap_succ hi (by omega)]
            cases ha : allR i (fun k => !entryClash b (b.Entries.getD k default) (b.Entries.getD i default)) <;> simp only [entryAt, h1, h2, e1, ha, bd_val, Bool.or_true, Bool.and_self, Bool.and_true, Bool.and_false, Bool.false_eq_true, if_true, if_false]

theorem implEntries_p {b : NatBook} (h : b.frameOk = true) (hl : b.Entries.length ≤ 9223372036854775807) : impl_NatBook_entriesOk_m b = some b.entriesOk := by
  unfold impl_NatBook_entriesOk_m
  rw [lp_all b.Entries.length (entryAt b) (.inl ()) (.inr ()) (fun i hi _ => ?_) (fun _ => by rw [if_neg (by simp)])]
  · have e : decide ((b.Entries.length : Int) ≤ 16) = decide (b.Entries.length ≤ 16) := decide_eq_decide.2 (by omega)
    cases ha : allR b.Entries.length (entryAt b) <;> simp [NatBook.entriesOk, ha, e]
  · rw [if_pos (by simp; omega), gd_pos (by omega), implEntryOk_p h, bd_val]
    simp only [Int.toNat_natCast]
    have hg : ∀ (_ : decide ((i : Int) > 0) = true) (_ : (!entryOk b (b.Entries.getD i default)) = false), (0 : Int) ≤ IntKind.i64.wrap ((i : Int) - 1) ∧ IntKind.i64.wrap ((i : Int) - 1) < (b.Entries.length : Int) := fun h0 _ => by
      simp at h0
      rw [wrap_pred hi h0 hl]; omega
    rw [gd_pos hg]
    clear hg
    have hin : lp (σ := Int) (β := Unit ⊕ Unit) (fun s10 =>
        (if (decide (s10 < ((i : Nat) : Int))) = true then
        gd ((0 : Int) ≤ s10 ∧ s10 < ((i : Nat) : Int)) <|
        bd (impl_NatBook_lives_m b (b.Entries.getD i default)) fun x15 =>
        bd (gcall (x15 = true) (impl_NatBook_lives_m b (b.Entries.getD s10.toNat default))) fun x16 =>
        bd (gcall ((x15 && x16) = true) (impl_NatEntry_flow_m (b.Entries.getD i default))) fun x17 =>
        bd (gcall ((x15 && x16) = true) (impl_NatEntry_flow_m (b.Entries.getD s10.toNat default))) fun x18 =>
        (if ((x15 && x16) && ((x17.Kind == x18.Kind) && ((x17.From == x18.From) && ((x17.FromPort == x18.FromPort) && ((x17.To == x18.To) && ((x17.ToPort == x18.ToPort) && true)))))) = true then
        some (.inr (.inl ()))
        else
        some (.inl (IntKind.i64.wrap (s10 + 1))))
        else
        some (.inr (.inr ())))) 0 = some (if allR i (fun k => !entryClash b (b.Entries.getD k default) (b.Entries.getD i default)) = true then .inr () else .inl ()) := by
      refine lp_all i _ _ _ (fun k hk _ => ?_) (fun _ => by rw [if_neg (by simp)])
      rw [if_pos (by simp; omega), gd_pos (by omega), wrap_succ hk (by omega)]
      simp only [Int.toNat_natCast, implFlow_p, implLives_p, bd_val, gcall_b, gcall_val]
      cases hp : entryClash b (b.Entries.getD k default) (b.Entries.getD i default)
      · rw [if_neg]
        · rfl
        · unfold entryClash flowEq at hp
          grind
      · rw [if_pos]
        · rfl
        · unfold entryClash flowEq at hp
          grind
    rcases (Bool.eq_false_or_eq_true (entryOk b (b.Entries.getD i default))).symm with h1 | h1
    · simp only [gcall, Bool.not_false, Bool.true_eq_false, and_false, if_false, bd_val, Bool.true_or, if_true, entryAt, h1, Bool.false_and, Bool.false_eq_true]
    · by_cases h0 : i = 0
      · have e0 : decide ((i : Int) > 0) = false := by simp; omega
        have e1 : decide (i = 0) = true := by simp [h0]
        rw [h1, e0]
        rw [gcall_neg (by decide), bd_val, if_neg (by decide)]
        rw [gd_pos (by omega), hin, wrap_succ hi hl]
        cases ha : allR i (fun k => !entryClash b (b.Entries.getD k default) (b.Entries.getD i default)) <;> simp only [entryAt, h1, e1, ha, bd_val, Bool.true_or, Bool.and_self, Bool.and_true, Bool.and_false, Bool.false_eq_true, if_true, if_false]
      · have e0 : decide ((i : Int) > 0) = true := by simp; omega
        have e1 : decide (i = 0) = false := by simp [h0]
        have hw := wrap_pred hi (by omega) hl
        rw [h1, e0, hw, Int.toNat_natCast, implCompare_p, gcall_pos (by decide), bd_val, entryLess_cmp]
        simp only [Bool.not_true, Bool.true_and, Bool.false_or]
        cases h2 : entryLess (b.Entries.getD (i - 1) default) (b.Entries.getD i default)
        · simp only [entryAt, h1, h2, e1, Bool.not_false, if_true, Bool.or_self, Bool.and_false, Bool.false_and, Bool.false_eq_true, if_false]
        · simp only [Bool.not_true, Bool.false_eq_true, if_false]
          rw [gd_pos (by omega), hin, wrap_succ hi hl]
          cases ha : allR i (fun k => !entryClash b (b.Entries.getD k default) (b.Entries.getD i default)) <;> simp only [entryAt, h1, h2, e1, ha, bd_val, Bool.or_true, Bool.and_self, Bool.and_true, Bool.and_false, Bool.false_eq_true, if_true, if_false]

def NatBook.ok (b : NatBook) : Bool := b.frameOk && b.doorsOk && b.entriesOk
theorem ok_frame {b : NatBook} (h : b.ok = true) : b.frameOk = true := by
  simp [NatBook.ok] at h
  exact h.1.1

theorem specBookOk_p (b : NatBook) : spec_NatBookOk_m b = some b.ok := by
  unfold spec_NatBookOk_m
  rw [specFrame_p, bd_val]
  rcases (Bool.eq_false_or_eq_true b.frameOk).symm with h | h
  · rw [h, gcall_neg (by decide), bd_val, gcall_neg (by decide), bd_val]
    simp [NatBook.ok, h]
  · rw [specDoors_p (frameOk_spec h).1, specEntries_p h, gcall_b, bd_val, gcall_b, bd_val]
    unfold NatBook.ok
    congr 1; grind

theorem implBookOk_p {b : NatBook} (hd : b.Doors.length ≤ 9223372036854775807) (he : b.Entries.length ≤ 9223372036854775807) : impl_NatBookOk_m b = some b.ok := by
  unfold impl_NatBookOk_m
  rw [netOk_p, bd_val]
  by_cases hn : netOk b.net = true
  · have hn' : netOk ⟨b.Addr, b.Len⟩ = true := hn
    rw [hn', within_p, gcall_nb, bd_val, implInside_p hn, gcall_nb, bd_val, within_p, gcall_nb, bd_val, implDoors_p hn hd, bd_val]
    by_cases hf : b.frameOk = true
    · rw [if_neg, implEntries_p hf he, gcall_b, bd_val]
      · simp only [NatBook.ok, hf, Bool.true_and]
        congr 1; grind
      · unfold NatBook.frameOk at hf
        grind
    · rw [if_pos]
      · simp only [Bool.not_eq_true] at hf
        simp [NatBook.ok, hf]
      · unfold NatBook.frameOk at hf
        grind
  · have hn' : netOk ⟨b.Addr, b.Len⟩ = false := by simpa using hn
    rw [hn', gcall_neg (by decide), bd_val, gcall_neg (by simp), bd_val, gcall_neg (by simp), bd_val, if_pos (by simp)]
    have hf : b.frameOk = false := by
      unfold NatBook.frameOk
      rw [show netOk b.net = false from hn']
      simp
    simp [NatBook.ok, hf]

end Go.Proofs.YtjgjdobkahdgfaaDoor
