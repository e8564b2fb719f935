/-
  DERIVED. GIVEN WITH THE SEED: THE CARDS: each row of YtjjkhncoafdfmaaGreatDoorRows.lean that lists a variable, with what it lists TIED to the program's text (the seventh form; the later family's looks); each row that meets fmt, with fmt's text TOLD by the authors' own Lean function (tested against real Go, not proved from fmt's source: count such statements apart). THE CARD IS WHAT COUNTS. Prove the row's statement (the work); the ties are given (YtjjkhncoafdfmaaGreatDoorTie.lean); close each card by the builder's one call (the guide's Derived/Test/ToyasCard.lean, 'card_holds'). Laid BY PROGRAM, IN A SANDBOX (cutbox-door.mjs). By AI agents, Wed Nov 11 2026. No macro, syntax, notation, axiom, sorry.
-/
import Derived.Test.YtjjkhncoafdfmaaGreatDoorRows
import GoSem.ClaimSeven
namespace Go.Proofs.YtjjkhncoafdfmaaGreatDoor
namespace Rows

/-- THE TIED CARD OF 'laws.FnTernTable'. -/
def fnTernTableCard : Claim7 := { stood := { row := fnTernTableRow, standIns := [], harness := (true, "96ff43a1043456dde60c320c6100df2b1e5d11404120b6428d7d4dc9799a7e71"), looks := true }, kinds := [], alts := [], laidByText := true, laidKinds := [.data, .data, .data, .data, .sentinel, .sentinel, .pinned], laidTests := true, laidLooks := .later }
def FnTernTableCardSaid : Prop := Claim7.holds Tryz.pinned (.plain (OpenSpec.ofChange fnTernTableSpec)) fnTernTableCard

/-- THE SECOND FORM's CARD OF 'laws.FnTernTable'. -/
def fnTernTableUptoCard : Claim7 := { stood := { row := fnTernTableUptoRow, standIns := [], harness := (true, "96ff43a1043456dde60c320c6100df2b1e5d11404120b6428d7d4dc9799a7e71"), looks := true }, kinds := [], alts := [], laidByText := true, laidKinds := [.data, .data, .data, .data, .sentinel, .sentinel, .pinned], laidTests := true, laidLooks := .later }
def FnTernTableUptoCardSaid : Prop := Claim7.holds Tryz.pinned (.plain (OpenSpec.upto fnTernTableSpec)) fnTernTableUptoCard
end Rows
end Go.Proofs.YtjjkhncoafdfmaaGreatDoor
