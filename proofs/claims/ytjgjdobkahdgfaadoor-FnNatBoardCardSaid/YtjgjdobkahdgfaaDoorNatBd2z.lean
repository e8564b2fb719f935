/-
  The board of a book: the program's text and the reference's are one; no condition.
-/
import Derived.Test.YtjgjdobkahdgfaaDoorKz3
import Derived.Test.YtjgjdobkahdgfaaDoorNatBdz
import Derived.Test.YtjgjdobkahdgfaaDoorNatP4z
set_option linter.all false
namespace Go.Proofs.YtjgjdobkahdgfaaDoor
open Go Go.Ab
set_option maxRecDepth 100000
set_option maxHeartbeats 2000000

theorem lp_foldC {α β : Type} {step : Int × α → Option ((Int × α) ⊕ β)} (n : Nat) (f : α → Nat → α) (d : α → β) (a0 : α) (inv : Nat → α → Prop) (h0 : inv 0 a0) (hi : ∀ i a, i < n → inv i a → inv (i + 1) (f a i))
    (h1 : ∀ (i : Nat) (a : α), i < n → inv i a → step ((i : Int), a) = some (.inl (((i + 1 : Nat) : Int), f a i))) (h2 : ∀ a, inv n a → step ((n : Int), a) = some (.inr (d a))) :
    lp step (0, a0) = some (d ((List.range n).foldl f a0)) ∧ inv n ((List.range n).foldl f a0) := by
  have key : ∀ k i : Nat, i + k = n → ∀ a, inv i a → lp step ((i : Int), a) = some (d ((List.range' i k).foldl f a)) ∧ inv n ((List.range' i k).foldl f a) := by
    intro k
    induction k with
    | zero =>
      intro i hik a ha
      have : i = n := by omega
      subst this
      exact ⟨lp_done (h2 a ha), ha⟩
    | succ k ih =>
      intro i hik a ha
      rw [lp_more (h1 i a (by omega) ha), List.range'_succ, List.foldl_cons]
      exact ih (i + 1) (by omega) _ (hi i a (by omega) ha)
  have := key n 0 (by omega) a0 h0
  rwa [← List.range_eq_range'] at this
theorem fold_ba (f : Nat → List UInt8) (l0 : List UInt8) (n : Nat) : (List.range n).foldl (fun a i => a ++ ba (f i)) (ba l0) = ba (l0 ++ (List.range n).flatMap f) := by
  induction n with
  | zero => simp
  | succ n ih =>
    rw [List.range_succ, List.foldl_append, ih]
    simp [ba_app]
theorem ba_beq (t : ByteArray) : (t == t) = true := by
  obtain ⟨a⟩ := t
  show (a == a) = true
  simp
def doorsT (b : NatBook) : List UInt8 := (List.range b.Doors.length).flatMap fun i => doorT b (b.Doors.getD i default)
def entriesT (b : NatBook) : List UInt8 := (List.range b.Entries.length).flatMap fun i => entryT b (b.Entries.getD i default)
def nowT (b : NatBook) : List UInt8 := [110, 111, 119, 32] ++ dg b.Now ++ [10]
def boardT (b : NatBook) : List UInt8 := nowT b ++ doorsT b ++ entriesT b
/-- A text so far is not long. -/
def Sh (k : Nat) (i : Nat) (a : ByteArray) : Prop := ∃ l : List UInt8, a = ba l ∧ l.length ≤ k + i * 20000000
theorem Sh.next {k i : Nat} {a : ByteArray} {l : List UInt8} (h : Sh k i a) (hl : l.length ≤ 20000000) : Sh k (i + 1) (a ++ ba l) := by
  obtain ⟨l0, rfl, h0⟩ := h
  refine ⟨l0 ++ l, ba_app _ _, ?_⟩
  rw [List.length_append]
  omega
theorem nowT_le {b : NatBook} (h : b.Now ≤ 1000000) : (nowT b).length ≤ 1000010 := by
  have := dg_le h
  unfold nowT
  simp only [List.length_append, List.length_cons, List.length_nil]
  omega
theorem sh_now {b : NatBook} (h : b.Now ≤ 1000000) : Sh 1000010 0 (ba (nowT b)) := ⟨_, rfl, by have := nowT_le h; omega⟩
theorem doorLine_p {b : NatBook} {d : NatDoor} (h : DoorV b d) : impl_line_m ([(⟨#[100, 111, 111, 114]⟩ : ByteArray), ba (dg d.Kind), ba (endT b.Own d.Outer), (⟨#[116, 111]⟩ : ByteArray), ba (endT d.Inner d.InnerPort)] : List ByteArray) = some (ba (doorT b d)) := by
  have k1 := dg_le (n := d.Kind) (by have := h.k; omega)
  have k2 := endT_le h.o.1 h.o.2 (p := d.Outer) (by have := h.u; omega)
  have k3 := endT_le h.i.1 h.i.2 (p := d.InnerPort) (by have := h.p; omega)
  have e : Lib.join [[100, 111, 111, 114], dg d.Kind, endT b.Own d.Outer, [116, 111], endT d.Inner d.InnerPort] [32] = [100, 111, 111, 114, 32] ++ dg d.Kind ++ [32] ++ endT b.Own d.Outer ++ [32, 116, 111, 32] ++ endT d.Inner d.InnerPort := by
    simp [Lib.join, List.intercalate, List.intersperse]
  have := line_p (ws := [[100, 111, 111, 114], dg d.Kind, endT b.Own d.Outer, [116, 111], endT d.Inner d.InnerPort]) (by simp) (by rw [e]; simp only [List.length_append, List.length_cons, List.length_nil]; omega)
  rw [e] at this
  exact this
theorem entryLine_p {b : NatBook} {e : NatEntry} (h : EntryV b e) : impl_line_m ([(⟨#[102, 108, 111, 119]⟩ : ByteArray), ba (dg e.Kind), ba (endT e.Inner e.InnerPort), (⟨#[97, 115]⟩ : ByteArray), ba (endT b.Own e.Outer), (⟨#[116, 111]⟩ : ByteArray), ba (endT e.Peer e.PeerPort), ba (stateT b e), ba (dg (leftN b e))] : List ByteArray) = some (ba (entryT b e)) := by
  have k1 := dg_le (n := e.Kind) (by have := h.k; omega)
  have k2 := endT_le h.o.1 h.o.2 (p := e.Outer) (by have := h.u; omega)
  have k3 := endT_le h.i.1 h.i.2 (p := e.InnerPort) (by have := h.p; omega)
  have k4 := endT_le h.q.1 h.q.2 (p := e.PeerPort) (by have := h.r; omega)
  have k5 := dg_le (n := leftN b e) (by have := leftN_le h; omega)
  have k6 := stateT_le (b := b) (e := e)
  have e1 : Lib.join [[102, 108, 111, 119], dg e.Kind, endT e.Inner e.InnerPort, [97, 115], endT b.Own e.Outer, [116, 111], endT e.Peer e.PeerPort, stateT b e, dg (leftN b e)] [32] = [102, 108, 111, 119, 32] ++ dg e.Kind ++ [32] ++ endT e.Inner e.InnerPort ++ [32, 97, 115, 32] ++ endT b.Own e.Outer ++ [32, 116, 111, 32] ++ endT e.Peer e.PeerPort ++ [32] ++ stateT b e ++ [32] ++ dg (leftN b e) := by
    simp [Lib.join, List.intercalate, List.intersperse]
  have := line_p (ws := [[102, 108, 111, 119], dg e.Kind, endT e.Inner e.InnerPort, [97, 115], endT b.Own e.Outer, [116, 111], endT e.Peer e.PeerPort, stateT b e, dg (leftN b e)]) (by simp) (by rw [e1]; simp only [List.length_append, List.length_cons, List.length_nil]; omega)
  rw [e1] at this
  exact this
theorem specEntryT_p {b : NatBook} {e : NatEntry} (h : EntryV b e) : spec_l24Entry_m b e = some (ba (entryT b e)) := by
  have k1 := dg_le (n := e.Kind) (by have := h.k; omega)
  have k2 := endT_le h.o.1 h.o.2 (p := e.Outer) (by have := h.u; omega)
  have k3 := endT_le h.i.1 h.i.2 (p := e.InnerPort) (by have := h.p; omega)
  have k4 := endT_le h.q.1 h.q.2 (p := e.PeerPort) (by have := h.r; omega)
  have k5 := dg_le (n := leftN b e) (by have := leftN_le h; omega)
  have ha := h.a
  have g1 := l24Dec_p (n := e.Kind) (by have := h.k; omega) (by have := h.k; omega)
  have g2 := l24At_p h.i.1 h.i.2 (p := e.InnerPort) (by have := h.p; omega) (by have := h.p; omega)
  have g3 := l24At_p h.o.1 h.o.2 (p := e.Outer) (by have := h.u; omega) (by have := h.u; omega)
  have g4 := l24At_p h.q.1 h.q.2 (p := e.PeerPort) (by have := h.r; omega) (by have := h.r; omega)
  unfold spec_l24Entry_m
  rw [show IntKind.i64.wrap (b.Now - e.Last) = ageW b e from rfl, wrap_i64 (n := 8 - ageW b e) (by omega) (by omega), wrap_i64 (n := 12 - ageW b e) (by omega) (by omega)]
  simp only [g1, g2, g3, g4, bd_val, specLive_p, live, ba_mk, List.toList_toArray, ba_app, ba_size, List.length_append, List.length_cons, List.length_nil]
  repeat rw [gd_pos (by omega)]
  by_cases hl : ageW b e < 8
  · have e1 : leftN b e = 8 - ageW b e := by unfold leftN; rw [if_pos hl]
    have g5 := l24Dec_p (n := 8 - ageW b e) (by omega) (by omega)
    rw [e1] at k5
    rw [if_pos (by simpa using hl)]
    simp only [g5, bd_val, ba_app, ba_size, List.length_append, List.length_cons, List.length_nil]
    repeat rw [gd_pos (by omega)]
    simp [entryT, e1, stateT, hl]
  · have e1 : leftN b e = 12 - ageW b e := by unfold leftN; rw [if_neg hl]
    have g5 := l24Dec_p (n := 12 - ageW b e) (by omega) (by omega)
    rw [e1] at k5
    rw [if_neg (by simpa using hl)]
    simp only [g5, bd_val, ba_app, ba_size, List.length_append, List.length_cons, List.length_nil]
    repeat rw [gd_pos (by omega)]
    simp [entryT, e1, stateT, hl]
theorem specBoard_p {b : NatBook} (h : b.ok = true) : spec_NatBoard_m b = some (ba (boardT b)) := by
  obtain ⟨ho, hp, hw0, hw1⟩ := ok_own h
  obtain ⟨n1, n2⟩ := ok_lens h
  have kn := dg_le hw1
  unfold spec_NatBoard_m
  rw [specBookOk_p, bd_val, if_neg (by simp [h]), l24Dec_p hw0 hw1, bd_val]
  simp only [ba_mk, List.toList_toArray, ba_app, ba_size, List.length_append, List.length_cons, List.length_nil]
  rw [gd_pos (by omega), gd_pos (by omega)]
  have L1 := lp_fold (β := ByteArray) b.Doors.length (fun a i => a ++ ba (doorT b (b.Doors.getD i default))) (fun a => a) (ba (nowT b)) (Sh 1000010) (sh_now hw1) (fun i a hi hs => hs.next (by have := doorT_le (ok_door h i hi); omega))
    (step := fun s5 => (if (decide (s5.2 < ((b.Doors.length : Nat) : Int))) = true then
 gd ((0 : Int) ≤ s5.2 ∧ s5.2 < ((b.Doors.length : Nat) : Int)) <|
 gd (s5.1.size + 5 ≤ 9223372036854775807) <|
 bd (spec_l24Dec_m ((b.Doors.getD s5.2.toNat default).Kind)) fun x11 =>
 gd ((s5.1 ++ ba [100, 111, 111, 114, 32]).size + x11.size ≤ 9223372036854775807) <|
 gd (((s5.1 ++ ba [100, 111, 111, 114, 32]) ++ x11).size + 1 ≤ 9223372036854775807) <|
 bd (spec_l24At_m b.Own ((b.Doors.getD s5.2.toNat default).Outer)) fun x14 =>
 gd ((((s5.1 ++ ba [100, 111, 111, 114, 32]) ++ x11) ++ ba [32]).size + x14.size ≤ 9223372036854775807) <|
 gd (((((s5.1 ++ ba [100, 111, 111, 114, 32]) ++ x11) ++ ba [32]) ++ x14).size + 4 ≤ 9223372036854775807) <|
 bd (spec_l24At_m ((b.Doors.getD s5.2.toNat default).Inner) ((b.Doors.getD s5.2.toNat default).InnerPort)) fun x17 =>
 gd ((((((s5.1 ++ ba [100, 111, 111, 114, 32]) ++ x11) ++ ba [32]) ++ x14) ++ ba [32, 116, 111, 32]).size + x17.size ≤ 9223372036854775807) <|
 gd (((((((s5.1 ++ ba [100, 111, 111, 114, 32]) ++ x11) ++ ba [32]) ++ x14) ++ ba [32, 116, 111, 32]) ++ x17).size + 1 ≤ 9223372036854775807) <|
 some (.inl ((((((((s5.1 ++ ba [100, 111, 111, 114, 32]) ++ x11) ++ ba [32]) ++ x14) ++ ba [32, 116, 111, 32]) ++ x17) ++ ba [10]), IntKind.i64.wrap (s5.2 + 1)))
else
 some (.inr s5.1))) (fun i a hi hs => by
      obtain ⟨l, rfl, hl⟩ := hs
      have hd := ok_door h i hi
      dsimp only
      rw [if_pos (by simp; omega), gd_pos (by omega), Int.toNat_natCast]
      generalize b.Doors.getD i default = d at hd ⊢
      have k1 := dg_le (n := d.Kind) (by have := hd.k; omega)
      have k2 := endT_le hd.o.1 hd.o.2 (p := d.Outer) (by have := hd.u; omega)
      have k3 := endT_le hd.i.1 hd.i.2 (p := d.InnerPort) (by have := hd.p; omega)
      have g1 := l24Dec_p (n := d.Kind) (by have := hd.k; omega) (by have := hd.k; omega)
      have g2 := l24At_p hd.i.1 hd.i.2 (p := d.InnerPort) (by have := hd.p; omega) (by have := hd.p; omega)
      have g3 := l24At_p hd.o.1 hd.o.2 (p := d.Outer) (by have := hd.u; omega) (by have := hd.u; omega)
      simp only [g1, g2, g3, bd_val, ba_app, ba_size, List.length_append, List.length_cons, List.length_nil]
      repeat rw [gd_pos (by omega)]
      rw [wrap_succ hi (by omega)]
      simp [doorT]) (fun a _ => by rw [if_neg (by simp)])
  rw [fold_ba] at L1
  have L2 := lp_fold (β := ByteArray) b.Entries.length (fun a i => a ++ ba (entryT b (b.Entries.getD i default))) (fun a => a) (ba (nowT b ++ doorsT b)) (Sh 200000000) (by
      obtain ⟨l, e, hl⟩ := L1.2
      refine ⟨_, rfl, ?_⟩
      have := congrArg ByteArray.size e
      rw [ba_size, ba_size] at this
      unfold doorsT
      omega) (fun i a hi hs => hs.next (by have := entryT_le (ok_entry h i hi); omega))
    (step := fun s21 => (if (decide (s21.2 < ((b.Entries.length : Nat) : Int))) = true then
 gd ((0 : Int) ≤ s21.2 ∧ s21.2 < ((b.Entries.length : Nat) : Int)) <|
 bd (spec_l24Entry_m b (b.Entries.getD s21.2.toNat default)) fun x26 =>
 gd (s21.1.size + x26.size ≤ 9223372036854775807) <|
 some (.inl ((s21.1 ++ x26), IntKind.i64.wrap (s21.2 + 1)))
else
 some (.inr s21.1))) (fun i a hi hs => by
      obtain ⟨l, rfl, hl⟩ := hs
      have hd := ok_entry h i hi
      have := entryT_le hd
      dsimp only
      rw [if_pos (by simp; omega), gd_pos (by omega), Int.toNat_natCast, specEntryT_p hd, bd_val, gd_pos (by rw [ba_size, ba_size]; omega), wrap_succ hi (by omega)]) (fun a _ => by rw [if_neg (by simp)])
  rw [fold_ba] at L2
  refine (bd_of L1.1).trans ?_
  exact bd_of L2.1
theorem implBoard_p {b : NatBook} (h : b.ok = true) : impl_NatBoard_m b = some (ba (boardT b)) := by
  obtain ⟨ho, hp, hw0, hw1⟩ := ok_own h
  obtain ⟨n1, n2⟩ := ok_lens h
  have kn := dg_le hw1
  have g0 : impl_line_m ([(⟨#[110, 111, 119]⟩ : ByteArray), ba (dg b.Now)] : List ByteArray) = some (ba (nowT b)) := by
    have e : Lib.join [[110, 111, 119], dg b.Now] [32] = [110, 111, 119, 32] ++ dg b.Now := by simp [Lib.join, List.intercalate, List.intersperse]
    have := line_p (ws := [[110, 111, 119], dg b.Now]) (by simp) (by rw [e]; simp only [List.length_append, List.length_cons, List.length_nil]; omega)
    rw [e] at this
    exact this
  unfold impl_NatBoard_m
  rw [implBookOk_p (by omega) (by omega), bd_val, if_neg (by simp [h]), itoa_p hw0 hw1, bd_val, g0, bd_val]
  have L1 := lp_foldC (β := ByteArray) b.Doors.length (fun a i => a ++ ba (doorT b (b.Doors.getD i default))) (fun a => a) (ba (nowT b)) (Sh 1000010) (sh_now hw1) (fun i a hi hs => hs.next (by have := doorT_le (ok_door h i hi); omega))
    (step := fun s4 => (if (decide (s4.1 < ((b.Doors.length : Nat) : Int))) = true then
 gd ((0 : Int) ≤ s4.1 ∧ s4.1 < ((b.Doors.length : Nat) : Int)) <|
 bd (strconv_Itoa_m ((b.Doors.getD s4.1.toNat default).Kind)) fun x9 =>
 bd (impl_endText_m b.Own ((b.Doors.getD s4.1.toNat default).Outer)) fun x10 =>
 bd (impl_endText_m ((b.Doors.getD s4.1.toNat default).Inner) ((b.Doors.getD s4.1.toNat default).InnerPort)) fun x11 =>
 bd (impl_line_m ([(⟨#[100, 111, 111, 114]⟩ : ByteArray), x9, x10, (⟨#[116, 111]⟩ : ByteArray), x11] : List ByteArray)) fun x12 =>
 gd (s4.2.size + x12.size ≤ 9223372036854775807) <|
 some (.inl (IntKind.i64.wrap (s4.1 + 1), (s4.2 ++ x12)))
else
 some (.inr s4.2))) (fun i a hi hs => by
      obtain ⟨l, rfl, hl⟩ := hs
      have hd := ok_door h i hi
      have hl2 := doorT_le hd
      dsimp only
      rw [if_pos (by simp; omega), gd_pos (by omega), Int.toNat_natCast]
      generalize b.Doors.getD i default = d at hd hl2 ⊢
      rw [itoa_p (by have := hd.k; omega) (by have := hd.k; omega), bd_val, endText_p hd.o.1 hd.o.2 (by have := hd.u; omega) (by have := hd.u; omega), bd_val, endText_p hd.i.1 hd.i.2 (by have := hd.p; omega) (by have := hd.p; omega), bd_val, doorLine_p hd, bd_val, gd_pos (by rw [ba_size, ba_size]; omega), wrap_succ hi (by omega)]) (fun a _ => by rw [if_neg (by simp)])
  rw [fold_ba] at L1
  have L2 := lp_fold (β := ByteArray) b.Entries.length (fun a i => a ++ ba (entryT b (b.Entries.getD i default))) (fun a => a) (ba (nowT b ++ doorsT b)) (Sh 200000000) (by
      obtain ⟨l, e, hl⟩ := L1.2
      refine ⟨_, rfl, ?_⟩
      have := congrArg ByteArray.size e
      rw [ba_size, ba_size] at this
      unfold doorsT
      omega) (fun i a hi hs => hs.next (by have := entryT_le (ok_entry h i hi); omega))
    (step := fun s15 => (if (decide (s15.2 < ((b.Entries.length : Nat) : Int))) = true then
 gd ((0 : Int) ≤ s15.2 ∧ s15.2 < ((b.Entries.length : Nat) : Int)) <|
 bd (impl_NatBook_age_m b (b.Entries.getD s15.2.toNat default)) fun x20 =>
 bd (α := ByteArray × Int) (bd (impl_NatBook_lives_m b (b.Entries.getD s15.2.toNat default)) fun x24 =>
(if (!x24) = true then
 some ((⟨#[114, 101, 115, 116, 115]⟩ : ByteArray), IntKind.i64.wrap ((IntKind.i64.wrap (8 - x20)) + 4))
else
 some ((⟨#[108, 101, 102, 116]⟩ : ByteArray), IntKind.i64.wrap (8 - x20)))) fun x21 =>
 bd (strconv_Itoa_m ((b.Entries.getD s15.2.toNat default).Kind)) fun x25 =>
 bd (impl_endText_m ((b.Entries.getD s15.2.toNat default).Inner) ((b.Entries.getD s15.2.toNat default).InnerPort)) fun x26 =>
 bd (impl_endText_m b.Own ((b.Entries.getD s15.2.toNat default).Outer)) fun x27 =>
 bd (impl_endText_m ((b.Entries.getD s15.2.toNat default).Peer) ((b.Entries.getD s15.2.toNat default).PeerPort)) fun x28 =>
 bd (strconv_Itoa_m x21.2) fun x29 =>
 bd (impl_line_m ([(⟨#[102, 108, 111, 119]⟩ : ByteArray), x25, x26, (⟨#[97, 115]⟩ : ByteArray), x27, (⟨#[116, 111]⟩ : ByteArray), x28, x21.1, x29] : List ByteArray)) fun x30 =>
 gd (s15.1.size + x30.size ≤ 9223372036854775807) <|
 some (.inl ((s15.1 ++ x30), IntKind.i64.wrap (s15.2 + 1)))
else
 some (.inr s15.1))) (fun i a hi hs => by
      obtain ⟨l, rfl, hl⟩ := hs
      have hd := ok_entry h i hi
      have hl2 := entryT_le hd
      have hn := leftN_le hd
      dsimp only
      rw [if_pos (by simp; omega), gd_pos (by omega), Int.toNat_natCast]
      generalize b.Entries.getD i default = e at hd hl2 hn ⊢
      have ha := hd.a
      have hst : (bd (impl_NatBook_lives_m b e) fun x24 =>
(if (!x24) = true then
 some ((⟨#[114, 101, 115, 116, 115]⟩ : ByteArray), IntKind.i64.wrap ((IntKind.i64.wrap (8 - ageW b e)) + 4))
else
 some ((⟨#[108, 101, 102, 116]⟩ : ByteArray), IntKind.i64.wrap (8 - ageW b e)))) = some (ba (stateT b e), leftN b e) := by
        rw [implLives_p, bd_val]
        unfold live stateT leftN
        by_cases hl : ageW b e < 8
        · rw [if_neg (by simpa using hl), if_pos hl, if_pos hl, wrap_i64 (by omega) (by omega)]
          rfl
        · rw [if_pos (by simpa using hl), if_neg hl, if_neg hl, wrap_i64 (n := 8 - ageW b e) (by omega) (by omega), wrap_i64 (by omega) (by omega), show 8 - ageW b e + 4 = 12 - ageW b e by omega]
          rfl
      rw [implAge_p, bd_val, hst, bd_val]
      dsimp only
      rw [itoa_p (by have := hd.k; omega) (by have := hd.k; omega), bd_val, endText_p hd.i.1 hd.i.2 (by have := hd.p; omega) (by have := hd.p; omega), bd_val, endText_p hd.o.1 hd.o.2 (by have := hd.u; omega) (by have := hd.u; omega), bd_val, endText_p hd.q.1 hd.q.2 (by have := hd.r; omega) (by have := hd.r; omega), bd_val, itoa_p hn.1 (by omega), bd_val, entryLine_p hd, bd_val, gd_pos (by rw [ba_size, ba_size]; omega), wrap_succ hi (by omega)]) (fun a _ => by rw [if_neg (by simp)])
  rw [fold_ba] at L2
  refine (bd_of L1.1).trans ?_
  exact bd_of L2.1
theorem board_both {b : NatBook} (hd : b.Doors.length ≤ 9223372036854775807) (he : b.Entries.length ≤ 9223372036854775807) : ∃ t, spec_NatBoard_m b = some t ∧ impl_NatBoard_m b = some t ∧ t = if b.ok = true then ba (boardT b) else ba [] := by
  by_cases h : b.ok = true
  · exact ⟨_, specBoard_p h, implBoard_p h, by rw [if_pos h]⟩
  · refine ⟨ba [], ?_, ?_, by rw [if_neg h]⟩
    · unfold spec_NatBoard_m
      rw [specBookOk_p, bd_val, if_pos (by simp [h])]
      rfl
    · unfold impl_NatBoard_m
      rw [implBookOk_p hd he, bd_val, if_pos (by simp [h])]
      rfl
end Go.Proofs.YtjgjdobkahdgfaaDoor
