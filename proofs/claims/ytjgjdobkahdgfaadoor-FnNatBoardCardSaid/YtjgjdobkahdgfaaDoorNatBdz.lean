/-
  What the board of a book says: digits, addresses, lines; the program's text and the reference's are one; no condition.
-/
import Derived.Test.YtjgjdobkahdgfaaDoorKz3
import Derived.Test.YtjgjdobkahdgfaaDoorNatPo4z
import Derived.Test.YtjgjdobkahdgfaaDoorNatP3z
set_option linter.all false
namespace Go.Proofs.YtjgjdobkahdgfaaDoor
open Go Go.Ab
set_option maxRecDepth 100000
set_option maxHeartbeats 1000000

/-- Bytes, as a string. -/
def ba (l : List UInt8) : ByteArray := ⟨l.toArray⟩
theorem ba_app (a b : List UInt8) : ba a ++ ba b = ba (a ++ b) := by
  apply ByteArray.ext
  simp [ba]
theorem ba_size (a : List UInt8) : (ba a).size = a.length := by simp [ba, ByteArray.size]
theorem ba_mk (a : Array UInt8) : (⟨a⟩ : ByteArray) = ba a.toList := by simp [ba]
theorem ba_list (a : List UInt8) : (ba a).data.toList = a := by simp [ba]
def dg (n : Int) : List UInt8 := Lib.decDigits n.toNat
theorem dg_len (n : Nat) : (Lib.decDigits n).length ≤ n + 1 := by
  induction n using Nat.strongRecOn with
  | ind n ih =>
    unfold Lib.decDigits
    split
    · simp
    · have := ih (n / 10) (by omega)
      simp only [List.length_append, List.length_cons, List.length_nil]
      omega
theorem dg_le {n : Int} (h : n ≤ 1000000) : (dg n).length ≤ 1000001 := by
  have := dg_len n.toNat
  unfold dg
  omega
theorem itoa_p {n : Int} (h0 : 0 ≤ n) (h1 : n ≤ 1000000) : strconv_Itoa_m n = some (ba (dg n)) := by
  unfold strconv_Itoa_m
  rw [gd_pos (by omega)]
  unfold itoaB Lib.itoa
  rw [if_neg (by omega)]
  rfl

theorem digit_fin : ∀ k : Fin 10, strOf ([IntKind.u8.wrap (IntKind.i64.wrap (48 + (k.val : Int)))] : List Int) = ba [UInt8.ofNat (48 + k.val)] := by decide +kernel
theorem digit {k : Nat} (h : k < 10) : strOf ([IntKind.u8.wrap (IntKind.i64.wrap (48 + (k : Int)))] : List Int) = ba [UInt8.ofNat (48 + k)] := digit_fin ⟨k, h⟩

noncomputable def stepD (g : Int → Option ByteArray) (a0 : Int) : Option ByteArray :=
(if (decide (a0 < 10)) = true then
 some (strOf ([IntKind.u8.wrap (IntKind.i64.wrap (48 + a0))] : List Int))
else
 gd ((10 : Int) ≠ 0) <|
 bd (g (IntKind.i64.wrap ((a0 : Int).tdiv 10))) fun x2 =>
 gd ((10 : Int) ≠ 0) <|
 gd (x2.size + (strOf ([IntKind.u8.wrap (IntKind.i64.wrap (48 + ((a0 : Int).tmod 10)))] : List Int)).size ≤ 9223372036854775807) <|
 some (x2 ++ (strOf ([IntKind.u8.wrap (IntKind.i64.wrap (48 + ((a0 : Int).tmod 10)))] : List Int))))
theorem stepD_ok {g : Int → Option ByteArray} {B : Nat} (hB : B ≤ 100000000000) (h : ∀ m : Nat, m < B → g (m : Int) = some (ba (Lib.decDigits m))) (m : Nat) (hm : m < 10 * B) : stepD g (m : Int) = some (ba (Lib.decDigits m)) := by
  unfold stepD
  by_cases h10 : m < 10
  · rw [if_pos (by simp; omega), digit h10]
    unfold Lib.decDigits
    rw [dif_pos h10]
  · have e1 : (m : Int).tdiv 10 = ((m / 10 : Nat) : Int) := rfl
    have e2 : (m : Int).tmod 10 = ((m % 10 : Nat) : Int) := rfl
    have hl := dg_len (m / 10)
    rw [if_neg (by simp; omega), gd_pos (by decide), e1, e2, wrap_i64 (by omega) (by omega), h _ (by omega), bd_val, gd_pos (by decide), digit (by omega), gd_pos (by rw [ba_size, ba_size]; simp only [List.length_cons, List.length_nil]; omega), ba_app]
    conv => rhs; unfold Lib.decDigits
    rw [dif_neg h10]
theorem dec8 (m : Nat) (h : m < 10) : spec_l24Dec_d8_m (m : Int) = some (ba (Lib.decDigits m)) := by
  unfold spec_l24Dec_d8_m
  rw [if_pos (by simp; omega), digit h]
  unfold Lib.decDigits
  rw [dif_pos h]
theorem dec7 (m : Nat) (h : m < 100) : spec_l24Dec_d7_m (m : Int) = some (ba (Lib.decDigits m)) := stepD_ok (g := spec_l24Dec_d8_m) (B := 10) (by omega) dec8 m h
theorem dec6 (m : Nat) (h : m < 1000) : spec_l24Dec_d6_m (m : Int) = some (ba (Lib.decDigits m)) := stepD_ok (g := spec_l24Dec_d7_m) (B := 100) (by omega) dec7 m h
theorem dec5 (m : Nat) (h : m < 10000) : spec_l24Dec_d5_m (m : Int) = some (ba (Lib.decDigits m)) := stepD_ok (g := spec_l24Dec_d6_m) (B := 1000) (by omega) dec6 m h
theorem dec4 (m : Nat) (h : m < 100000) : spec_l24Dec_d4_m (m : Int) = some (ba (Lib.decDigits m)) := stepD_ok (g := spec_l24Dec_d5_m) (B := 10000) (by omega) dec5 m h
theorem dec3 (m : Nat) (h : m < 1000000) : spec_l24Dec_d3_m (m : Int) = some (ba (Lib.decDigits m)) := stepD_ok (g := spec_l24Dec_d4_m) (B := 100000) (by omega) dec4 m h
theorem dec2 (m : Nat) (h : m < 10000000) : spec_l24Dec_d2_m (m : Int) = some (ba (Lib.decDigits m)) := stepD_ok (g := spec_l24Dec_d3_m) (B := 1000000) (by omega) dec3 m h
theorem dec1 (m : Nat) (h : m < 100000000) : spec_l24Dec_d1_m (m : Int) = some (ba (Lib.decDigits m)) := stepD_ok (g := spec_l24Dec_d2_m) (B := 10000000) (by omega) dec2 m h
theorem dec0 (m : Nat) (h : m < 1000000000) : spec_l24Dec_m (m : Int) = some (ba (Lib.decDigits m)) := stepD_ok (g := spec_l24Dec_d1_m) (B := 100000000) (by omega) dec1 m h
theorem l24Dec_p {n : Int} (h0 : 0 ≤ n) (h1 : n ≤ 1000000) : spec_l24Dec_m n = some (ba (dg n)) := by
  obtain ⟨m, rfl⟩ : ∃ m : Nat, n = m := ⟨n.toNat, by omega⟩
  exact dec0 m (by omega)

/-! ### Addresses, and ports -/
def adr (a : Int) : List UInt8 := dg (a.tdiv 256) ++ [46] ++ dg (a.tmod 256)
def endT (a p : Int) : List UInt8 := adr a ++ [58] ++ dg p
theorem parts256 {a : Int} (h0 : 0 ≤ a) (h1 : a ≤ 65535) : 0 ≤ a.tdiv 256 ∧ a.tdiv 256 ≤ 255 ∧ 0 ≤ a.tmod 256 ∧ a.tmod 256 ≤ 255 := by
  rw [Int.tdiv_eq_ediv_of_nonneg h0, Int.tmod_eq_emod_of_nonneg h0]
  omega
theorem adr_le {a : Int} (h0 : 0 ≤ a) (h1 : a ≤ 65535) : (adr a).length ≤ 2000003 := by
  obtain ⟨g1, g2, g3, g4⟩ := parts256 h0 h1
  have k1 := dg_le (n := a.tdiv 256) (by omega)
  have k2 := dg_le (n := a.tmod 256) (by omega)
  unfold adr
  simp only [List.length_append, List.length_cons, List.length_nil]
  omega
theorem endT_le {a p : Int} (h0 : 0 ≤ a) (h1 : a ≤ 65535) (h3 : p ≤ 1000000) : (endT a p).length ≤ 3000005 := by
  have k1 := adr_le h0 h1
  have k2 := dg_le h3
  unfold endT
  simp only [List.length_append, List.length_cons, List.length_nil]
  omega
theorem netAddrText_p {a : Int} (h0 : 0 ≤ a) (h1 : a ≤ 65535) : impl_NetAddrText_m a = some (ba (adr a)) := by
  obtain ⟨g1, g2, g3, g4⟩ := parts256 h0 h1
  have k1 := dg_le (n := a.tdiv 256) (by omega)
  have k2 := dg_le (n := a.tmod 256) (by omega)
  unfold impl_NetAddrText_m
  rw [within_p, bd_val, if_neg (by simp; omega), gd_pos (by decide), wrap_i64 (by omega) (by omega), itoa_p g1 (by omega), bd_val]
  simp only [ba_mk, List.toList_toArray, ba_app, ba_size, List.length_append, List.length_cons, List.length_nil]
  rw [gd_pos (by omega), gd_pos (by decide), itoa_p g3 (by omega), bd_val]
  simp only [ba_app, ba_size, List.length_append, List.length_cons, List.length_nil]
  rw [gd_pos (by omega)]
  rfl
theorem endText_p {a p : Int} (h0 : 0 ≤ a) (h1 : a ≤ 65535) (h2 : 0 ≤ p) (h3 : p ≤ 1000000) : impl_endText_m a p = some (ba (endT a p)) := by
  have k1 := adr_le h0 h1
  have k2 := dg_le h3
  unfold impl_endText_m
  rw [netAddrText_p h0 h1, bd_val]
  simp only [ba_mk, List.toList_toArray, ba_app, ba_size, List.length_append, List.length_cons, List.length_nil]
  rw [gd_pos (by omega), itoa_p h2 h3, bd_val]
  simp only [ba_app, ba_size, List.length_append, List.length_cons, List.length_nil]
  rw [gd_pos (by omega)]
  rfl
theorem l24At_p {a p : Int} (h0 : 0 ≤ a) (h1 : a ≤ 65535) (h2 : 0 ≤ p) (h3 : p ≤ 1000000) : spec_l24At_m a p = some (ba (endT a p)) := by
  obtain ⟨g1, g2, g3, g4⟩ := parts256 h0 h1
  have k1 := dg_le (n := a.tdiv 256) (by omega)
  have k2 := dg_le (n := a.tmod 256) (by omega)
  have k3 := dg_le h3
  unfold spec_l24At_m
  rw [gd_pos (by decide), wrap_i64 (by omega) (by omega), l24Dec_p g1 (by omega), bd_val]
  simp only [ba_mk, List.toList_toArray, ba_app, ba_size, List.length_append, List.length_cons, List.length_nil]
  rw [gd_pos (by omega), gd_pos (by decide), l24Dec_p g3 (by omega), bd_val]
  simp only [ba_app, ba_size, List.length_append, List.length_cons, List.length_nil]
  rw [gd_pos (by omega), gd_pos (by omega), l24Dec_p h2 h3, bd_val]
  simp only [ba_app, ba_size, List.length_append, List.length_cons, List.length_nil]
  rw [gd_pos (by omega)]
  rfl

/-! ### Lines -/
theorem line_p {ws : List (List UInt8)} (hn : ws.length ≤ 100) (hl : (Lib.join ws [32]).length ≤ 100000000) : impl_line_m (ws.map ba) = some (ba (Lib.join ws [32] ++ [10])) := by
  have e : joinB (ws.map ba) (⟨#[32]⟩ : ByteArray) = ba (Lib.join ws [32]) := by
    unfold joinB
    rw [List.map_map, show ((fun x => x.data.toList) ∘ ba) = (fun x : List UInt8 => x) from funext fun x => ba_list x, List.map_id']
    rfl
  unfold impl_line_m strings_Join_m
  rw [e, gd_pos (by rw [ba_size, List.length_map]; omega), bd_val]
  simp only [ba_mk, List.toList_toArray, ba_app, ba_size, List.length_append, List.length_cons, List.length_nil]
  rw [gd_pos (by omega)]
def doorT (b : NatBook) (d : NatDoor) : List UInt8 := [100, 111, 111, 114, 32] ++ dg d.Kind ++ [32] ++ endT b.Own d.Outer ++ [32, 116, 111, 32] ++ endT d.Inner d.InnerPort ++ [10]
def stateT (b : NatBook) (e : NatEntry) : List UInt8 := if ageW b e < 8 then [108, 101, 102, 116] else [114, 101, 115, 116, 115]
def leftN (b : NatBook) (e : NatEntry) : Int := if ageW b e < 8 then 8 - ageW b e else 12 - ageW b e
def entryT (b : NatBook) (e : NatEntry) : List UInt8 := [102, 108, 111, 119, 32] ++ dg e.Kind ++ [32] ++ endT e.Inner e.InnerPort ++ [32, 97, 115, 32] ++ endT b.Own e.Outer ++ [32, 116, 111, 32] ++ endT e.Peer e.PeerPort ++ [32] ++ stateT b e ++ [32] ++ dg (leftN b e) ++ [10]

structure DoorV (b : NatBook) (d : NatDoor) : Prop where
  k : 1 ≤ d.Kind ∧ d.Kind ≤ 7
  o : 0 ≤ b.Own ∧ b.Own ≤ 65535
  u : 1 ≤ d.Outer ∧ d.Outer ≤ 65535
  i : 0 ≤ d.Inner ∧ d.Inner ≤ 65535
  p : 1 ≤ d.InnerPort ∧ d.InnerPort ≤ 65535
structure EntryV (b : NatBook) (e : NatEntry) : Prop where
  k : 1 ≤ e.Kind ∧ e.Kind ≤ 7
  o : 0 ≤ b.Own ∧ b.Own ≤ 65535
  u : 1 ≤ e.Outer ∧ e.Outer ≤ 65535
  i : 0 ≤ e.Inner ∧ e.Inner ≤ 65535
  p : 1 ≤ e.InnerPort ∧ e.InnerPort ≤ 65535
  q : 0 ≤ e.Peer ∧ e.Peer ≤ 65535
  r : 1 ≤ e.PeerPort ∧ e.PeerPort ≤ 65535
  a : ageW b e = b.Now - e.Last ∧ 0 ≤ ageW b e ∧ ageW b e < 12
theorem ok_own {b : NatBook} (h : b.ok = true) : (0 ≤ b.Own ∧ b.Own ≤ 65535) ∧ (1 ≤ b.Low ∧ b.High ≤ 65535) ∧ 0 ≤ b.Now ∧ b.Now ≤ 1000000 := by
  have := ok_frame h
  simp [NatBook.frameOk] at this
  omega
theorem ok_door {b : NatBook} (h : b.ok = true) (i : Nat) (hi : i < b.Doors.length) : DoorV b (b.Doors.getD i default) := by
  have hn := (frameOk_spec (ok_frame h)).1
  obtain ⟨ho, _⟩ := ok_own h
  have h1 : b.doorsOk = true := by simp [NatBook.ok] at h; exact h.1.2
  simp only [NatBook.doorsOk, Bool.and_eq_true] at h1
  have h2 := allR_get h1.2 hi
  simp only [doorAt, Bool.and_eq_true, doorOk, decide_eq_true_eq] at h2
  have h3 := inside_range hn h2.1.1.1.2
  exact ⟨⟨by omega, by omega⟩, ho, ⟨by omega, by omega⟩, h3, ⟨by omega, by omega⟩⟩
theorem ok_entry {b : NatBook} (h : b.ok = true) (i : Nat) (hi : i < b.Entries.length) : EntryV b (b.Entries.getD i default) := by
  have hn := (frameOk_spec (ok_frame h)).1
  obtain ⟨ho, hp, hw⟩ := ok_own h
  have h1 : b.entriesOk = true := by simp [NatBook.ok] at h; exact h.2
  simp only [NatBook.entriesOk, Bool.and_eq_true] at h1
  have h2 := allR_get h1.2 hi
  simp only [entryAt, Bool.and_eq_true, entryOk, decide_eq_true_eq] at h2
  obtain ⟨⟨h3, _⟩, _⟩ := h2
  have h4 := inside_range hn h3.1.1.1.1.1.2
  have ha : ageW b (b.Entries.getD i default) = b.Now - (b.Entries.getD i default).Last := by unfold ageW; exact wrap_i64 (by omega) (by omega)
  exact ⟨⟨by omega, by omega⟩, ho, ⟨by omega, by omega⟩, h4, ⟨by omega, by omega⟩, ⟨by omega, by omega⟩, ⟨by omega, by omega⟩, ha, by omega, by omega⟩
theorem ok_lens {b : NatBook} (h : b.ok = true) : b.Doors.length ≤ 6 ∧ b.Entries.length ≤ 16 := by
  simp [NatBook.ok, NatBook.doorsOk, NatBook.entriesOk] at h
  omega
theorem doorT_le {b : NatBook} {d : NatDoor} (h : DoorV b d) : (doorT b d).length ≤ 10000000 := by
  have k1 := dg_le (n := d.Kind) (by have := h.k; omega)
  have k2 := endT_le h.o.1 h.o.2 (p := d.Outer) (by have := h.u; omega)
  have k3 := endT_le h.i.1 h.i.2 (p := d.InnerPort) (by have := h.p; omega)
  unfold doorT
  simp only [List.length_append, List.length_cons, List.length_nil]
  omega
theorem stateT_le {b : NatBook} {e : NatEntry} : (stateT b e).length ≤ 5 := by
  unfold stateT
  split <;> simp
theorem leftN_le {b : NatBook} {e : NatEntry} (h : EntryV b e) : 0 ≤ leftN b e ∧ leftN b e ≤ 12 := by
  have := h.a
  unfold leftN
  split <;> omega
theorem entryT_le {b : NatBook} {e : NatEntry} (h : EntryV b e) : (entryT b e).length ≤ 20000000 := by
  have k1 := dg_le (n := e.Kind) (by have := h.k; omega)
  have k2 := endT_le h.o.1 h.o.2 (p := e.Outer) (by have := h.u; omega)
  have k3 := endT_le h.i.1 h.i.2 (p := e.InnerPort) (by have := h.p; omega)
  have k4 := endT_le h.q.1 h.q.2 (p := e.PeerPort) (by have := h.r; omega)
  have k5 := dg_le (n := leftN b e) (by have := leftN_le h; omega)
  have k6 := stateT_le (b := b) (e := e)
  unfold entryT
  simp only [List.length_append, List.length_cons, List.length_nil]
  omega
end Go.Proofs.YtjgjdobkahdgfaaDoor
