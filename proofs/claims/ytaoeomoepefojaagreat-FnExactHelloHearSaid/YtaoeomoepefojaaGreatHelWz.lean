/-
  Plain Lean: an end hears a word, the program's and the reference's alike; the row FnExactHelloHear.
-/
import Derived.Test.YtaoeomoepefojaaGreatKz3
import Derived.Test.YtaoeomoepefojaaGreatHelVz
import Derived.Test.YtaoeomoepefojaaGreatArgz
set_option linter.all false
namespace Go.Proofs.YtaoeomoepefojaaGreat
open Go Go.Ab
set_option maxHeartbeats 2000000
set_option maxRecDepth 100000

noncomputable def sRest2 (z : HelloEnd) (w : HelloWord) : Option HelloEnd :=
(if ((decide (w.Change.Kind > 0)) && (w.Num == (IntKind.i64.wrap (z.Got + 1)))) = true then
 bd (spec_l43Told_m z.Heard w.Change) fun x9 =>
(if x9.2 = true then
 bd (spec_l43Kept_m (⟨z.Name, z.Peer, z.Keys, z.Boot, z.Want, z.Turn, z.PeerBoot, z.PeerTurn, z.Up, z.Left, z.Num, (⟨z.Under.Kind, (⟨z.Under.Entry.Addr, z.Under.Entry.Len, z.Under.Entry.Cost, z.Under.Entry.Label⟩ : HelloEntry)⟩ : HelloChange), z.Told, z.All, w.Num, (z.Full || (w.Change.Kind == 3)), x9.1, z.Keep⟩ : HelloEnd)) fun x10 =>
 some x10
else
 bd (spec_l43Kept_m (⟨z.Name, z.Peer, z.Keys, z.Boot, z.Want, z.Turn, z.PeerBoot, z.PeerTurn, z.Up, z.Left, z.Num, (⟨z.Under.Kind, (⟨z.Under.Entry.Addr, z.Under.Entry.Len, z.Under.Entry.Cost, z.Under.Entry.Label⟩ : HelloEntry)⟩ : HelloChange), z.Told, z.All, z.Got, z.Full, z.Heard, z.Keep⟩ : HelloEnd)) fun x11 =>
 some x11)
else
 bd (spec_l43Kept_m (⟨z.Name, z.Peer, z.Keys, z.Boot, z.Want, z.Turn, z.PeerBoot, z.PeerTurn, z.Up, z.Left, z.Num, (⟨z.Under.Kind, (⟨z.Under.Entry.Addr, z.Under.Entry.Len, z.Under.Entry.Cost, z.Under.Entry.Label⟩ : HelloEntry)⟩ : HelloChange), z.Told, z.All, z.Got, z.Full, z.Heard, z.Keep⟩ : HelloEnd)) fun x12 =>
 some x12)
noncomputable def sRest (y : HelloEnd) (w : HelloWord) : Option HelloEnd :=
(if (!(w.Yours == y.Boot)) = true then
 some (⟨y.Name, y.Peer, y.Keys, y.Boot, y.Want, y.Turn, y.PeerBoot, w.Turn, (w.Yours == y.Boot), 4, y.Num, (⟨y.Under.Kind, (⟨y.Under.Entry.Addr, y.Under.Entry.Len, y.Under.Entry.Cost, y.Under.Entry.Label⟩ : HelloEntry)⟩ : HelloChange), y.Told, y.All, y.Got, y.Full, y.Heard, y.Keep⟩ : HelloEnd)
else
 bd (α := Int × Int × Int × Int × Int × Int × Int × Int × List HelloEntry × Bool × Int × Bool × List HelloKey × List HelloRoute × Int × Int × List HelloEntry × Int × Int × Int × Bool × Int) ((if ((decide (y.Under.Kind > 0)) && (w.Heard == y.Num)) = true then
 bd (spec_l43Answered_m (⟨y.Name, y.Peer, y.Keys, y.Boot, y.Want, y.Turn, y.PeerBoot, w.Turn, (w.Yours == y.Boot), 4, y.Num, (⟨y.Under.Kind, (⟨y.Under.Entry.Addr, y.Under.Entry.Len, y.Under.Entry.Cost, y.Under.Entry.Label⟩ : HelloEntry)⟩ : HelloChange), y.Told, y.All, y.Got, y.Full, y.Heard, y.Keep⟩ : HelloEnd)) fun x8 =>
 some (x8.Name, x8.Peer, x8.Num, x8.Under.Kind, x8.Under.Entry.Addr, x8.Under.Entry.Len, x8.Under.Entry.Cost, x8.Under.Entry.Label, x8.Told, x8.All, x8.Got, x8.Full, x8.Keys, x8.Heard, x8.Keep, x8.Boot, x8.Want, x8.Turn, x8.PeerBoot, x8.PeerTurn, x8.Up, x8.Left)
else
 some (y.Name, y.Peer, y.Num, y.Under.Kind, y.Under.Entry.Addr, y.Under.Entry.Len, y.Under.Entry.Cost, y.Under.Entry.Label, y.Told, y.All, y.Got, y.Full, y.Keys, y.Heard, y.Keep, y.Boot, y.Want, y.Turn, y.PeerBoot, w.Turn, (w.Yours == y.Boot), 4))) fun x5 =>
(if ((decide (w.Change.Kind > 0)) && (w.Num == (IntKind.i64.wrap (x5.2.2.2.2.2.2.2.2.2.2.1 + 1)))) = true then
 bd (spec_l43Told_m x5.2.2.2.2.2.2.2.2.2.2.2.2.2.1 w.Change) fun x9 =>
(if x9.2 = true then
 bd (spec_l43Kept_m (⟨x5.1, x5.2.1, x5.2.2.2.2.2.2.2.2.2.2.2.2.1, x5.2.2.2.2.2.2.2.2.2.2.2.2.2.2.2.1, x5.2.2.2.2.2.2.2.2.2.2.2.2.2.2.2.2.1, x5.2.2.2.2.2.2.2.2.2.2.2.2.2.2.2.2.2.1, x5.2.2.2.2.2.2.2.2.2.2.2.2.2.2.2.2.2.2.1, x5.2.2.2.2.2.2.2.2.2.2.2.2.2.2.2.2.2.2.2.1, x5.2.2.2.2.2.2.2.2.2.2.2.2.2.2.2.2.2.2.2.2.1, x5.2.2.2.2.2.2.2.2.2.2.2.2.2.2.2.2.2.2.2.2.2, x5.2.2.1, (⟨x5.2.2.2.1, (⟨x5.2.2.2.2.1, x5.2.2.2.2.2.1, x5.2.2.2.2.2.2.1, x5.2.2.2.2.2.2.2.1⟩ : HelloEntry)⟩ : HelloChange), x5.2.2.2.2.2.2.2.2.1, x5.2.2.2.2.2.2.2.2.2.1, w.Num, (x5.2.2.2.2.2.2.2.2.2.2.2.1 || (w.Change.Kind == 3)), x9.1, x5.2.2.2.2.2.2.2.2.2.2.2.2.2.2.1⟩ : HelloEnd)) fun x10 =>
 some x10
else
 bd (spec_l43Kept_m (⟨x5.1, x5.2.1, x5.2.2.2.2.2.2.2.2.2.2.2.2.1, x5.2.2.2.2.2.2.2.2.2.2.2.2.2.2.2.1, x5.2.2.2.2.2.2.2.2.2.2.2.2.2.2.2.2.1, x5.2.2.2.2.2.2.2.2.2.2.2.2.2.2.2.2.2.1, x5.2.2.2.2.2.2.2.2.2.2.2.2.2.2.2.2.2.2.1, x5.2.2.2.2.2.2.2.2.2.2.2.2.2.2.2.2.2.2.2.1, x5.2.2.2.2.2.2.2.2.2.2.2.2.2.2.2.2.2.2.2.2.1, x5.2.2.2.2.2.2.2.2.2.2.2.2.2.2.2.2.2.2.2.2.2, x5.2.2.1, (⟨x5.2.2.2.1, (⟨x5.2.2.2.2.1, x5.2.2.2.2.2.1, x5.2.2.2.2.2.2.1, x5.2.2.2.2.2.2.2.1⟩ : HelloEntry)⟩ : HelloChange), x5.2.2.2.2.2.2.2.2.1, x5.2.2.2.2.2.2.2.2.2.1, x5.2.2.2.2.2.2.2.2.2.2.1, x5.2.2.2.2.2.2.2.2.2.2.2.1, x5.2.2.2.2.2.2.2.2.2.2.2.2.2.1, x5.2.2.2.2.2.2.2.2.2.2.2.2.2.2.1⟩ : HelloEnd)) fun x11 =>
 some x11)
else
 bd (spec_l43Kept_m (⟨x5.1, x5.2.1, x5.2.2.2.2.2.2.2.2.2.2.2.2.1, x5.2.2.2.2.2.2.2.2.2.2.2.2.2.2.2.1, x5.2.2.2.2.2.2.2.2.2.2.2.2.2.2.2.2.1, x5.2.2.2.2.2.2.2.2.2.2.2.2.2.2.2.2.2.1, x5.2.2.2.2.2.2.2.2.2.2.2.2.2.2.2.2.2.2.1, x5.2.2.2.2.2.2.2.2.2.2.2.2.2.2.2.2.2.2.2.1, x5.2.2.2.2.2.2.2.2.2.2.2.2.2.2.2.2.2.2.2.2.1, x5.2.2.2.2.2.2.2.2.2.2.2.2.2.2.2.2.2.2.2.2.2, x5.2.2.1, (⟨x5.2.2.2.1, (⟨x5.2.2.2.2.1, x5.2.2.2.2.2.1, x5.2.2.2.2.2.2.1, x5.2.2.2.2.2.2.2.1⟩ : HelloEntry)⟩ : HelloChange), x5.2.2.2.2.2.2.2.2.1, x5.2.2.2.2.2.2.2.2.2.1, x5.2.2.2.2.2.2.2.2.2.2.1, x5.2.2.2.2.2.2.2.2.2.2.2.1, x5.2.2.2.2.2.2.2.2.2.2.2.2.2.1, x5.2.2.2.2.2.2.2.2.2.2.2.2.2.2.1⟩ : HelloEnd)) fun x12 =>
 some x12))
noncomputable def iRest (y : HelloEnd) (w : HelloWord) : Option HelloEnd :=
(if (!(w.Yours == y.Boot)) = true then
 some ({ y with Keys := y.Keys, Want := y.Want, PeerBoot := y.PeerBoot, PeerTurn := w.Turn, Up := (w.Yours == y.Boot), Left := 4, Num := y.Num, Under := (⟨y.Under.Kind, (⟨y.Under.Entry.Addr, y.Under.Entry.Len, y.Under.Entry.Cost, y.Under.Entry.Label⟩ : HelloEntry)⟩ : HelloChange), Told := y.Told, All := y.All, Got := y.Got, Full := y.Full, Heard := y.Heard, Keep := y.Keep })
else
 bd (α := List HelloKey × List HelloEntry × List HelloEntry × List HelloRoute × Int × Int × Int × Int × Int × Bool) ((if ((y.Under.Kind != 0) && (w.Heard == y.Num)) = true then
 bd (impl_HelloEnd_answered_r02_04_020_k016_m ({ y with Keys := y.Keys, Want := y.Want, PeerBoot := y.PeerBoot, PeerTurn := w.Turn, Up := (w.Yours == y.Boot), Left := 4, Num := y.Num, Under := (⟨y.Under.Kind, (⟨y.Under.Entry.Addr, y.Under.Entry.Len, y.Under.Entry.Cost, y.Under.Entry.Label⟩ : HelloEntry)⟩ : HelloChange), Told := y.Told, All := y.All, Got := y.Got, Full := y.Full, Heard := y.Heard, Keep := y.Keep })) fun x9 =>
 some (x9.Keys, x9.Want, x9.Told, x9.Heard, x9.Under.Kind, x9.Under.Entry.Addr, x9.Under.Entry.Len, x9.Under.Entry.Cost, x9.Under.Entry.Label, x9.All)
else
 some (y.Keys, y.Want, y.Told, y.Heard, y.Under.Kind, y.Under.Entry.Addr, y.Under.Entry.Len, y.Under.Entry.Cost, y.Under.Entry.Label, y.All))) fun x6 =>
 bd (α := List HelloKey × List HelloEntry × List HelloEntry × List HelloRoute × Int × Bool) ((if ((w.Change.Kind != 0) && (w.Num == (IntKind.i64.wrap (y.Got + 1)))) = true then
 bd (impl_HelloEnd_take_r02_04_016_k02_04_016_020_m ({ y with Keys := x6.1, Want := x6.2.1, PeerBoot := y.PeerBoot, PeerTurn := w.Turn, Up := (w.Yours == y.Boot), Left := 4, Num := y.Num, Under := (⟨x6.2.2.2.2.1, (⟨x6.2.2.2.2.2.1, x6.2.2.2.2.2.2.1, x6.2.2.2.2.2.2.2.1, x6.2.2.2.2.2.2.2.2.1⟩ : HelloEntry)⟩ : HelloChange), Told := x6.2.2.1, All := x6.2.2.2.2.2.2.2.2.2, Got := y.Got, Full := y.Full, Heard := x6.2.2.2.1, Keep := y.Keep }) w.Change) fun x14 =>
(if (((w.Change.Kind != 0) && (w.Num == (IntKind.i64.wrap (y.Got + 1)))) && x14.1) = true then
 some (x14.2.Keys, x14.2.Want, x14.2.Told, x14.2.Heard, w.Num, x14.2.Full)
else
 some (x14.2.Keys, x14.2.Want, x14.2.Told, x14.2.Heard, y.Got, x14.2.Full))
else
(if (((w.Change.Kind != 0) && (w.Num == (IntKind.i64.wrap (y.Got + 1)))) && false) = true then
 some (x6.1, x6.2.1, x6.2.2.1, x6.2.2.2.1, w.Num, y.Full)
else
 some (x6.1, x6.2.1, x6.2.2.1, x6.2.2.2.1, y.Got, y.Full)))) fun x10 =>
 bd (impl_anyStale_m x10.2.2.2.1) fun x15 =>
(if (!x15) = true then
 some ({ y with Keys := x10.1, Want := x10.2.1, PeerBoot := y.PeerBoot, PeerTurn := w.Turn, Up := (w.Yours == y.Boot), Left := 4, Num := y.Num, Under := (⟨x6.2.2.2.2.1, (⟨x6.2.2.2.2.2.1, x6.2.2.2.2.2.2.1, x6.2.2.2.2.2.2.2.1, x6.2.2.2.2.2.2.2.2.1⟩ : HelloEntry)⟩ : HelloChange), Told := x10.2.2.1, All := x6.2.2.2.2.2.2.2.2.2, Got := x10.2.2.2.2.1, Full := x10.2.2.2.2.2, Heard := x10.2.2.2.1, Keep := 0 })
else
 some ({ y with Keys := x10.1, Want := x10.2.1, PeerBoot := y.PeerBoot, PeerTurn := w.Turn, Up := (w.Yours == y.Boot), Left := 4, Num := y.Num, Under := (⟨x6.2.2.2.2.1, (⟨x6.2.2.2.2.2.1, x6.2.2.2.2.2.2.1, x6.2.2.2.2.2.2.2.1, x6.2.2.2.2.2.2.2.2.1⟩ : HelloEntry)⟩ : HelloChange), Told := x10.2.2.1, All := x6.2.2.2.2.2.2.2.2.2, Got := x10.2.2.2.2.1, Full := x10.2.2.2.2.2, Heard := x10.2.2.2.1, Keep := y.Keep })))
noncomputable def iRest2 (z : HelloEnd) (w : HelloWord) : Option HelloEnd :=
 bd (α := List HelloKey × List HelloEntry × List HelloEntry × List HelloRoute × Int × Bool) ((if ((w.Change.Kind != 0) && (w.Num == (IntKind.i64.wrap (z.Got + 1)))) = true then
 bd (impl_HelloEnd_take_r02_04_016_k02_04_016_020_m ({ z with Keys := z.Keys, Want := z.Want, PeerBoot := z.PeerBoot, PeerTurn := z.PeerTurn, Up := z.Up, Left := z.Left, Num := z.Num, Under := (⟨z.Under.Kind, (⟨z.Under.Entry.Addr, z.Under.Entry.Len, z.Under.Entry.Cost, z.Under.Entry.Label⟩ : HelloEntry)⟩ : HelloChange), Told := z.Told, All := z.All, Got := z.Got, Full := z.Full, Heard := z.Heard, Keep := z.Keep }) w.Change) fun x14 =>
(if (((w.Change.Kind != 0) && (w.Num == (IntKind.i64.wrap (z.Got + 1)))) && x14.1) = true then
 some (x14.2.Keys, x14.2.Want, x14.2.Told, x14.2.Heard, w.Num, x14.2.Full)
else
 some (x14.2.Keys, x14.2.Want, x14.2.Told, x14.2.Heard, z.Got, x14.2.Full))
else
(if (((w.Change.Kind != 0) && (w.Num == (IntKind.i64.wrap (z.Got + 1)))) && false) = true then
 some (z.Keys, z.Want, z.Told, z.Heard, w.Num, z.Full)
else
 some (z.Keys, z.Want, z.Told, z.Heard, z.Got, z.Full)))) fun x10 =>
 bd (impl_anyStale_m x10.2.2.2.1) fun x15 =>
(if (!x15) = true then
 some ({ z with Keys := x10.1, Want := x10.2.1, PeerBoot := z.PeerBoot, PeerTurn := z.PeerTurn, Up := z.Up, Left := z.Left, Num := z.Num, Under := (⟨z.Under.Kind, (⟨z.Under.Entry.Addr, z.Under.Entry.Len, z.Under.Entry.Cost, z.Under.Entry.Label⟩ : HelloEntry)⟩ : HelloChange), Told := x10.2.2.1, All := z.All, Got := x10.2.2.2.2.1, Full := x10.2.2.2.2.2, Heard := x10.2.2.2.1, Keep := 0 })
else
 some ({ z with Keys := x10.1, Want := x10.2.1, PeerBoot := z.PeerBoot, PeerTurn := z.PeerTurn, Up := z.Up, Left := z.Left, Num := z.Num, Under := (⟨z.Under.Kind, (⟨z.Under.Entry.Addr, z.Under.Entry.Len, z.Under.Entry.Cost, z.Under.Entry.Label⟩ : HelloEntry)⟩ : HelloChange), Told := x10.2.2.1, All := z.All, Got := x10.2.2.2.2.1, Full := x10.2.2.2.2.2, Heard := x10.2.2.2.1, Keep := z.Keep }))
/-! What hearing does. -/
def begun (e : HelloEnd) (w : HelloWord) : HelloEnd := if w.Boot > e.PeerBoot then { anew e with PeerBoot := w.Boot } else e
def upTo (y : HelloEnd) (w : HelloWord) : HelloEnd := { y with PeerTurn := w.Turn, Up := (w.Yours == y.Boot), Left := 4 }
def answerV (e : HelloEnd) : HelloEnd := { e with Under := ⟨0, ⟨0, 0, 0, 0⟩⟩, Told := applyT e.Told e.Under, All := if e.Under.Kind = 3 then true else e.All }
def heardA (e : HelloEnd) (w : HelloWord) : HelloEnd := if e.Under.Kind ≠ 0 ∧ w.Heard = e.Num then answerV e else e
def heardC (e : HelloEnd) (w : HelloWord) : HelloEnd := if w.Change.Kind ≠ 0 ∧ w.Num = e.Got + 1 then (if (toldV e.Heard w.Change).2 = true then { e with Heard := (toldV e.Heard w.Change).1, Got := w.Num, Full := e.Full || (w.Change.Kind == 3) } else e) else e
def listenY (y : HelloEnd) (w : HelloWord) : HelloEnd := if w.Yours = y.Boot then kept (heardC (heardA (upTo y w) w) w) else upTo y w
def isNewV (e : HelloEnd) (w : HelloWord) : Bool := !(e.Boot == 1000) && rightV e.Keys w && (w.From == e.Peer) && (w.To == e.Name) && (decide (w.Boot > e.PeerBoot) || ((w.Boot == e.PeerBoot) && decide (w.Turn > e.PeerTurn)))
def helloHear (e : HelloEnd) (w : HelloWord) : HelloEnd := if endOk e = true then (if isNewV e w = true then listenY (begun e w) w else e) else noEnd
structure Hr (x : HelloEnd) : Prop where
  under : changeOk x.Under = true
  told : Ord idE x.Told
  tl : x.Told.length ≤ 9
  heard : Ord rE x.Heard
  hl : x.Heard.length ≤ 16
  got : 0 ≤ x.Got ∧ x.Got ≤ 1000000
theorem ok_hr {e : HelloEnd} (h : endOk e = true) : Hr e := by
  have g : inR e.Got 0 1000000 = true ∧ changeOk e.Under = true ∧ tableOk e.Told = true ∧ heardOk e = true := by
    simp only [endOk, Bool.and_eq_true] at h
    exact ⟨h.1.1.1.1.1.1.1.1.1.1.1.1.2, h.1.1.1.1.1.2, h.1.1.2, h.2⟩
  obtain ⟨t1, t2⟩ := tableOk_ord g.2.2.1
  obtain ⟨h1, h2⟩ := heardOk_ord g.2.2.2
  exact ⟨g.2.1, t1, by omega, h1, h2, inR_iff.1 g.1⟩
theorem begun_hr {e : HelloEnd} (h : Hr e) (w : HelloWord) : Hr (begun e w) := by
  unfold begun
  split
  · exact ⟨rfl, ⟨List.Pairwise.nil, fun x hx => by cases hx⟩, Nat.zero_le _, stales_ord h.heard, by simpa [anew, stales] using h.hl, ⟨Int.le_refl _, by show (0 : Int) ≤ 1000000; decide⟩⟩
  · exact h
theorem upTo_hr {e : HelloEnd} (h : Hr e) (w : HelloWord) : Hr (upTo e w) := ⟨h.under, h.told, h.tl, h.heard, h.hl, h.got⟩

/-! The reference. -/
theorem sAnswer_p {e : HelloEnd} (h : Hr e) : spec_l43Answered_m e = some (answerV e) := by
  have := h.tl
  unfold spec_l43Answered_m answerV
  rw [sApply_p (by omega) h.told, bd_val]
  by_cases c : e.Under.Kind = 3
  · rw [if_pos (by simpa using c), if_pos c]
  · rw [if_neg (by simpa using c), if_neg c]
theorem told_len {t : List HelloRoute} (h : t.length ≤ 16) (c : HelloChange) : (toldV t c).1.length ≤ 16 := by
  have w3 := posK_le (f := rE) t c.Entry
  have ho := fun k => (outR_sub t k).length_le
  have into : ∀ s : List HelloRoute, (intoR s c.Entry).length = s.length + 1 := fun s => by
    have := posK_le (f := rE) s c.Entry
    simp [intoR]; omega
  unfold toldV hasV
  split
  · split
    · simpa using h
    · split
      · cases hf : firstStale t with
        | none => exact h
        | some s =>
          have := outR_len (firstR_some hf).1
          dsimp only
          rw [into]
          have := (firstR_some hf).1
          omega
      · dsimp only
        rw [into]
        omega
  · split
    · dsimp only
      split
      · have := ho (posK rE t c.Entry); omega
      · exact h
    · exact Nat.le_trans (List.length_filter_le _ _) h
theorem sRest2_p {z : HelloEnd} {w : HelloWord} (h1 : Ord rE z.Heard) (h2 : z.Heard.length ≤ 16) (h3 : 0 ≤ z.Got ∧ z.Got ≤ 1000000) (hc : changeOk w.Change = true) : sRest2 z w = some (kept (heardC z w)) := by
  have tl := told_len h2 w.Change
  unfold sRest2 heardC
  rw [change_kind hc, wrap_i64 (by omega) (by omega), sTold_p (by omega) h1, bd_val]
  by_cases c : w.Change.Kind ≠ 0 ∧ w.Num = z.Got + 1
  · rw [if_pos (by simpa using c), if_pos c]
    cases ht : (toldV z.Heard w.Change).2
    · rw [if_neg (by decide), if_neg (by decide), sKept_p (by exact Nat.le_trans h2 (by decide)), bd_val]
    · rw [if_pos rfl, if_pos rfl, sKept_p (by exact Nat.le_trans tl (by decide)), bd_val]
  · rw [if_neg (by simpa using c), if_neg c, sKept_p (by exact Nat.le_trans h2 (by decide)), bd_val]
theorem sRest_p {y : HelloEnd} {w : HelloWord} (h : Hr y) (hc : changeOk w.Change = true) : sRest y w = some (listenY y w) := by
  have hu := upTo_hr h w
  unfold sRest listenY
  rw [change_kind h.under]
  by_cases c : w.Yours = y.Boot
  · rw [if_neg (by simpa using c), if_pos c]
    rw [show heardA (upTo y w) w = if y.Under.Kind ≠ 0 ∧ w.Heard = y.Num then answerV (upTo y w) else upTo y w from rfl]
    by_cases c2 : y.Under.Kind ≠ 0 ∧ w.Heard = y.Num
    · rw [if_pos (by simpa using c2), if_pos c2]
      refine (congrArg (fun m => bd (bd m _) _) (sAnswer_p hu)).trans ?_
      rw [bd_val, bd_val]
      exact sRest2_p (z := answerV (upTo y w)) h.heard h.hl h.got hc
    · rw [if_neg (by simpa using c2), if_neg c2, bd_val]
      exact sRest2_p (z := upTo y w) h.heard h.hl h.got hc
  · rw [if_pos (by simpa using c), if_neg c]
    rfl
theorem sListen_p {e : HelloEnd} {w : HelloWord} (h : Hr e) (hc : changeOk w.Change = true) : spec_l43Listen_m e w = some (listenY (begun e w) w) := by
  have hb := begun_hr h w
  have hl := h.hl
  unfold spec_l43Listen_m
  unfold begun at hb ⊢
  by_cases c : w.Boot > e.PeerBoot
  · rw [if_pos c] at hb
    rw [if_pos (by simpa using c), if_pos c, sAnew_p (by omega), bd_val, bd_val]
    exact sRest_p hb hc
  · rw [if_neg c] at hb
    rw [if_neg (by simpa using c), if_neg c, bd_val]
    exact sRest_p hb hc
theorem listen_lens {y : HelloEnd} (h : Hr y) (w : HelloWord) : (listenY y w).Keys = y.Keys ∧ (listenY y w).Want = y.Want ∧ (listenY y w).Told.length ≤ 10 ∧ (listenY y w).Heard.length ≤ 16 := by
  have hk : ∀ z : HelloEnd, (kept z).Keys = z.Keys ∧ (kept z).Want = z.Want ∧ (kept z).Told = z.Told ∧ (kept z).Heard = z.Heard := fun z => by
    unfold kept
    split <;> exact ⟨rfl, rfl, rfl, rfl⟩
  have hc : ∀ z : HelloEnd, z.Heard.length ≤ 16 → (heardC z w).Keys = z.Keys ∧ (heardC z w).Want = z.Want ∧ (heardC z w).Told = z.Told ∧ (heardC z w).Heard.length ≤ 16 := fun z hz => by
    unfold heardC
    split
    · split
      · exact ⟨rfl, rfl, rfl, told_len hz _⟩
      · exact ⟨rfl, rfl, rfl, hz⟩
    · exact ⟨rfl, rfl, rfl, hz⟩
  have ha : (heardA (upTo y w) w).Keys = y.Keys ∧ (heardA (upTo y w) w).Want = y.Want ∧ (heardA (upTo y w) w).Told.length ≤ 10 ∧ (heardA (upTo y w) w).Heard = y.Heard := by
    have tl := h.tl
    have al := applyT_len (t := y.Told) y.Under
    unfold heardA
    split
    · exact ⟨rfl, rfl, by show (applyT y.Told y.Under).length ≤ 10; omega, rfl⟩
    · exact ⟨rfl, rfl, by show y.Told.length ≤ 10; omega, rfl⟩
  unfold listenY
  split
  · obtain ⟨a1, a2, a3, a4⟩ := ha
    obtain ⟨b1, b2, b3, b4⟩ := hc (heardA (upTo y w) w) (by rw [a4]; exact h.hl)
    obtain ⟨d1, d2, d3, d4⟩ := hk (heardC (heardA (upTo y w) w) w)
    exact ⟨by rw [d1, b1, a1], by rw [d2, b2, a2], by rw [d3, b3]; exact a3, by rw [d4]; exact b4⟩
  · exact ⟨rfl, rfl, Nat.le_trans h.tl (by decide), h.hl⟩
theorem begun_lens {e : HelloEnd} {w : HelloWord} : (begun e w).Keys = e.Keys ∧ (begun e w).Want = e.Want := by
  unfold begun
  split <;> exact ⟨rfl, rfl⟩
theorem right_change {ks : List HelloKey} {w : HelloWord} (h : rightV ks w = true) : changeOk w.Change = true := by
  simp only [rightV, wordOk, Bool.and_eq_true] at h
  exact h.1.2.1.2
theorem isNew_right {e : HelloEnd} {w : HelloWord} (h : isNewV e w = true) : changeOk w.Change = true := by
  simp only [isNewV, Bool.and_eq_true] at h
  exact right_change h.1.1.1.2
theorem sHear_p {e : HelloEnd} (h : Lens e 1048576) (w : HelloWord) : spec_HelloHear_m e w = some (helloHear e w) := by
  unfold spec_HelloHear_m helloHear
  rw [sEnd_p h.k h.t, bd_val]
  cases hok : endOk e
  · rfl
  · obtain ⟨l1, l2, l3, l4⟩ := endOk_lens hok
    have I := ok_hr hok
    have hb := begun_hr I w
    obtain ⟨t1, t2, t3, t4⟩ := listen_lens hb w
    obtain ⟨b1, b2⟩ := begun_lens (e := e) (w := w)
    rw [if_neg (by decide), if_pos rfl, sCopy_p h.k h.w h.t h.h, bd_val, sRight_p h.k, gcall_nb, bd_val]
    have hv : isNewV e w = (!(e.Boot == 1000) && rightV e.Keys w && (w.From == e.Peer) && (w.To == e.Name) && (decide (w.Boot > e.PeerBoot) || ((w.Boot == e.PeerBoot) && decide (w.Turn > e.PeerTurn)))) := rfl
    have hlt : (decide (w.Boot < e.PeerBoot) || ((w.Boot == e.PeerBoot) && decide (w.Turn ≤ e.PeerTurn))) = !(decide (w.Boot > e.PeerBoot) || ((w.Boot == e.PeerBoot) && decide (w.Turn > e.PeerTurn))) := by
      rw [Bool.eq_iff_iff]
      simp only [Bool.or_eq_true, Bool.and_eq_true, Bool.not_eq_true', Bool.or_eq_false_iff, Bool.and_eq_false_iff, decide_eq_true_eq, decide_eq_false_iff_not, beq_iff_eq, beq_eq_false_iff_ne]
      omega
    rw [hlt]
    split
    · rename_i c
      have : isNewV e w = false := by rw [hv]; clear hlt hv; grind
      rw [this]; rfl
    · rename_i c
      split
      · rename_i c2
        have : isNewV e w = false := by rw [hv]; clear hlt hv; grind
        rw [this]; rfl
      · rename_i c2
        have : isNewV e w = true := by rw [hv]; clear hlt hv; grind
        rw [this, if_pos rfl, sListen_p I (isNew_right this), bd_val, sCopy_p (by rw [t1, b1]; exact h.k) (by rw [t2, b2]; exact h.w) (by omega) (by omega), bd_val]

/-! The program. -/
theorem iAnswer_p {e : HelloEnd} (h : Hr e) : impl_HelloEnd_answered_r02_04_020_k016_m e = some (answerV e) := by
  have := h.tl
  unfold impl_HelloEnd_answered_r02_04_020_k016_m answerV
  rw [iChanged_p (by omega) h.told h.under]
  by_cases c : e.Under.Kind = 3
  · rw [if_pos (by simpa using c), if_pos c, bd_val, bd_val]
  · rw [if_neg (by simpa using c), if_neg c, bd_val, bd_val]
theorem told_no {t : List HelloRoute} {c : HelloChange} (h : (toldV t c).2 = false) : (toldV t c).1 = t ∧ c.Kind = 1 := by
  unfold toldV at *
  by_cases c1 : c.Kind = 1
  · rw [if_pos c1] at *
    refine ⟨?_, c1⟩
    unfold hasV at *
    by_cases c2 : hasK rE t c.Entry = true
    · rw [if_pos c2] at h; cases h
    · rw [if_neg c2] at *
      by_cases c3 : t.length = 16
      · rw [if_pos c3] at *
        cases hf : firstStale t with
        | none => rfl
        | some s => rw [hf] at h; cases h
      · rw [if_neg c3] at h; cases h
  · rw [if_neg c1] at h
    by_cases c2 : c.Kind = 2
    · rw [if_pos c2] at h; cases h
    · rw [if_neg c2] at h; cases h
theorem iRest2_p {z : HelloEnd} {w : HelloWord} (h1 : Ord rE z.Heard) (h2 : z.Heard.length ≤ 16) (h3 : 0 ≤ z.Got ∧ z.Got ≤ 1000000) (hc : changeOk w.Change = true) : iRest2 z w = some (kept (heardC z w)) := by
  have tl := told_len h2 w.Change
  unfold iRest2 heardC
  rw [wrap_i64 (by omega) (by omega)]
  by_cases c : w.Change.Kind ≠ 0 ∧ w.Num = z.Got + 1
  · have hb : ((w.Change.Kind != 0) && (w.Num == z.Got + 1)) = true := by simpa using c
    rw [hb, if_pos rfl, if_pos c, iTake_p (by exact Nat.le_trans h2 (by decide)) (by exact h1) hc c.1, bd_val]
    dsimp only
    rw [Bool.true_and]
    cases ht : (toldV z.Heard w.Change).2
    · obtain ⟨e1, e2⟩ := told_no ht
      rw [if_neg (by decide), if_neg (by decide), bd_val]
      dsimp only
      rw [e1, iStale_p (by omega), bd_val, e2, show ((1 : Int) == 3) = false from rfl, Bool.or_false]
      unfold kept
      cases staleAny z.Heard <;> rfl
    · rw [if_pos rfl, if_pos rfl, bd_val]
      dsimp only
      rw [iStale_p (by omega), bd_val]
      unfold kept
      dsimp only
      cases staleAny (toldV z.Heard w.Change).1 <;> rfl
  · have hb : ((w.Change.Kind != 0) && (w.Num == z.Got + 1)) = false := by
      rw [Bool.eq_false_iff]
      intro q
      exact c (by simpa using q)
    rw [hb, if_neg (by decide), if_neg c, Bool.false_and, if_neg (by decide), bd_val]
    dsimp only
    rw [iStale_p (by omega), bd_val]
    unfold kept
    cases staleAny z.Heard <;> rfl
theorem iRest_p {y : HelloEnd} {w : HelloWord} (h : Hr y) (hc : changeOk w.Change = true) : iRest y w = some (listenY y w) := by
  have hu := upTo_hr h w
  unfold iRest listenY
  by_cases c : w.Yours = y.Boot
  · rw [if_neg (by simpa using c), if_pos c]
    rw [show heardA (upTo y w) w = if y.Under.Kind ≠ 0 ∧ w.Heard = y.Num then answerV (upTo y w) else upTo y w from rfl]
    by_cases c2 : y.Under.Kind ≠ 0 ∧ w.Heard = y.Num
    · rw [if_pos (by simpa using c2), if_pos c2]
      refine (congrArg (fun m => bd (bd m _) _) (iAnswer_p hu)).trans ?_
      rw [bd_val, bd_val]
      exact iRest2_p (z := answerV (upTo y w)) h.heard h.hl h.got hc
    · rw [if_neg (by simpa using c2), if_neg c2, bd_val]
      exact iRest2_p (z := upTo y w) h.heard h.hl h.got hc
  · rw [if_pos (by simpa using c), if_neg c]
    rfl
theorem iNew_p {e : HelloEnd} (h : e.Keys.length ≤ 1048576) (w : HelloWord) : impl_HelloEnd_isNew_m e w = some (isNewV e w) := by
  have hv : isNewV e w = (!(e.Boot == 1000) && rightV e.Keys w && (w.From == e.Peer) && (w.To == e.Name) && (decide (w.Boot > e.PeerBoot) || ((w.Boot == e.PeerBoot) && decide (w.Turn > e.PeerTurn)))) := rfl
  unfold impl_HelloEnd_isNew_m impl_HelloEnd_wornOut_m
  rw [bd_val, iRight_p h, gcall_nb, bd_val]
  split
  · rename_i c
    have : isNewV e w = false := by rw [hv]; clear hv; grind
    rw [this]
  · rename_i c
    congr 1
    rw [hv]; clear hv; grind
theorem iHearE_p {e : HelloEnd} {w : HelloWord} (hk : e.Keys.length ≤ 1048576) (h : Hr e) : impl_HelloEnd_hear_r02_04_k02_04_016_020_m e w = some (if isNewV e w = true then listenY (begun e w) w else e) := by
  have hb := begun_hr h w
  have hl := h.hl
  unfold impl_HelloEnd_hear_r02_04_k02_04_016_020_m
  rw [iNew_p hk, bd_val]
  cases hn : isNewV e w
  · rfl
  · have hc := isNew_right hn
    rw [if_neg (by decide), if_pos rfl]
    unfold begun at hb ⊢
    by_cases c : w.Boot > e.PeerBoot
    · rw [if_pos c] at hb
      rw [if_pos (by simpa using c), if_pos c, iAnew_p (by omega), bd_val, bd_val]
      exact iRest_p hb hc
    · rw [if_neg c] at hb
      rw [if_neg (by simpa using c), if_neg c, bd_val]
      exact iRest_p hb hc
theorem listen_same {y : HelloEnd} {w : HelloWord} : (listenY y w).Name = y.Name ∧ (listenY y w).Peer = y.Peer ∧ (listenY y w).Boot = y.Boot ∧ (listenY y w).Turn = y.Turn := by
  have hk : ∀ z : HelloEnd, (kept z).Name = z.Name ∧ (kept z).Peer = z.Peer ∧ (kept z).Boot = z.Boot ∧ (kept z).Turn = z.Turn := fun z => by
    unfold kept
    split <;> exact ⟨rfl, rfl, rfl, rfl⟩
  have hc : ∀ z : HelloEnd, (heardC z w).Name = z.Name ∧ (heardC z w).Peer = z.Peer ∧ (heardC z w).Boot = z.Boot ∧ (heardC z w).Turn = z.Turn := fun z => by
    unfold heardC
    split
    · split <;> exact ⟨rfl, rfl, rfl, rfl⟩
    · exact ⟨rfl, rfl, rfl, rfl⟩
  have ha : (heardA (upTo y w) w).Name = y.Name ∧ (heardA (upTo y w) w).Peer = y.Peer ∧ (heardA (upTo y w) w).Boot = y.Boot ∧ (heardA (upTo y w) w).Turn = y.Turn := by
    unfold heardA
    split <;> exact ⟨rfl, rfl, rfl, rfl⟩
  unfold listenY
  split
  · obtain ⟨a1, a2, a3, a4⟩ := ha
    obtain ⟨b1, b2, b3, b4⟩ := hc (heardA (upTo y w) w)
    obtain ⟨d1, d2, d3, d4⟩ := hk (heardC (heardA (upTo y w) w) w)
    exact ⟨by rw [d1, b1, a1], by rw [d2, b2, a2], by rw [d3, b3, a3], by rw [d4, b4, a4]⟩
  · exact ⟨rfl, rfl, rfl, rfl⟩
theorem iHear_p {e : HelloEnd} (h : Lens e 1048576) (w : HelloWord) : impl_HelloHear_pu_o02_04_016_020_m e w = some (helloHear e w) := by
  unfold impl_HelloHear_pu_o02_04_016_020_m helloHear
  rw [iEnd_p h.k h.w h.t h.h, bd_val]
  cases hok : endOk e
  · rfl
  · rw [if_neg (by decide), if_pos rfl, iCopy_p h, bd_val, iHearE_p h.k (ok_hr hok), bd_val]
    cases hn : isNewV e w
    · rfl
    · rw [if_pos rfl]
      obtain ⟨q1, q2, q3, q4⟩ := listen_same (y := begun e w) (w := w)
      have hb : (begun e w).Name = e.Name ∧ (begun e w).Peer = e.Peer ∧ (begun e w).Boot = e.Boot ∧ (begun e w).Turn = e.Turn := by
        unfold begun
        split <;> exact ⟨rfl, rfl, rfl, rfl⟩
      rw [hb.1] at q1
      rw [hb.2.1] at q2
      rw [hb.2.2.1] at q3
      rw [hb.2.2.2] at q4
      rw [← q1, ← q2, ← q3, ← q4]

theorem toHelloWord_p (w : HelloWord) : laws_toHelloWord_m w = some w := rfl
theorem fnExactHelloHear_p {a0 : HelloEnd} {a1 : HelloWord} (h : a0.Fit) (_ : a1.Fit) : laws_FnExactHelloHear_m a0 a1 = some true := by
  have L : Lens a0 9223372036854775807 := ⟨h.2.2.1.1, h.2.2.2.2.1.1, h.2.2.2.2.2.2.2.2.2.2.2.2.1.1, h.2.2.2.2.2.2.2.2.2.2.2.2.2.2.2.2.1.1⟩
  unfold laws_FnExactHelloHear_m
  obtain ⟨x, hx, hl⟩ := szHelloEnd_p L
  rw [hx, bd_val]
  by_cases h0 : x < 0
  · rw [if_pos (by simpa using h0)]
  · have hl := hl h0
    have L1 : Lens a0 1048576 := ⟨by omega, by omega, by omega, by omega⟩
    have lv : (helloHear a0 a1).Keys.length ≤ a0.Keys.length ∧ (helloHear a0 a1).Want.length ≤ a0.Want.length ∧ (helloHear a0 a1).Told.length ≤ a0.Told.length + 10 ∧ (helloHear a0 a1).Heard.length ≤ a0.Heard.length + 16 := by
      unfold helloHear
      split
      · rename_i hok
        split
        · obtain ⟨t1, t2, t3, t4⟩ := listen_lens (begun_hr (ok_hr hok) a1) a1
          obtain ⟨b1, b2⟩ := begun_lens (e := a0) (w := a1)
          rw [t1, t2, b1, b2]
          exact ⟨Nat.le_refl _, Nat.le_refl _, by omega, by omega⟩
        · exact ⟨Nat.le_refl _, Nat.le_refl _, by omega, by omega⟩
      · exact ⟨Nat.zero_le _, Nat.zero_le _, Nat.zero_le _, Nat.zero_le _⟩
    have L2 : Lens (helloHear a0 a1) 1048576 := by
      by_cases hok : endOk a0 = true
      · obtain ⟨l1, l2, l3, l4⟩ := endOk_lens hok
        exact ⟨by omega, by omega, by omega, by omega⟩
      · have : helloHear a0 a1 = noEnd := by unfold helloHear; rw [if_neg hok]
        rw [this]
        exact ⟨Nat.zero_le _, Nat.zero_le _, Nat.zero_le _, Nat.zero_le _⟩
    obtain ⟨m1, m2, m3, m4⟩ := marked_lens (e := a0)
    obtain ⟨n1, n2, n3, n4⟩ := marked_lens (e := helloHear a0 a1)
    rw [if_neg (by simpa using h0)]
    simp only [toHelloEnd_p L1, toHelloWord_p, sHear_p L1, iHear_p L1, eqHelloEnd_p L1, eqHelloEnd_p L2, bd_val, decide_true, Bool.not_true, Bool.false_eq_true, if_false]
    rw [markHelloEnd_p L1, bd_val]
    dsimp only
    have hm : ¬ a0.marks < 0 := by unfold HelloEnd.marks; omega
    have hm2 : ¬ (helloHear a0 a1).marks < 0 := by unfold HelloEnd.marks; omega
    rw [gd_pos m1, gd_pos m2, gd_pos m3, gd_pos m4, gcall_pos (by simpa using hm), bd_val, if_neg (by simp [hm]), markHelloEnd_p L2, bd_val]
    dsimp only
    rw [gd_pos n1, gd_pos n2, gd_pos n3, gd_pos n4]
    simp only [heldHelloEnd_p L2, bd_val]
    simp [hm2]
end Go.Proofs.YtaoeomoepefojaaGreat
