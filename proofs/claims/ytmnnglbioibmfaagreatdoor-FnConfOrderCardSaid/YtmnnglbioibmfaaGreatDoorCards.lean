/-
  DERIVED. GIVEN WITH THE SEED: THE CARDS: each row of YtmnnglbioibmfaaGreatDoorRows.lean that lists a variable, with what it lists TIED to the program's text (the seventh form; the later family's looks); each row that meets fmt, with fmt's text TOLD by the authors' own Lean function (tested against real Go, not proved from fmt's source: count such statements apart). THE CARD IS WHAT COUNTS. Prove the row's statement (the work); the ties are given (YtmnnglbioibmfaaGreatDoorTie.lean); close each card by the builder's one call (the guide's Derived/Test/ToyasCard.lean, 'card_holds'). Laid BY PROGRAM, IN A SANDBOX (cutbox-door.mjs). By AI agents, Wed Nov 11 2026. No macro, syntax, notation, axiom, sorry.
-/
import Derived.Test.YtmnnglbioibmfaaGreatDoorRows
import GoSem.ClaimSeven
namespace Go.Proofs.YtmnnglbioibmfaaGreatDoor
namespace Rows

/-- THE TIED CARD OF 'laws.FnConfOrder'. -/
def fnConfOrderCard : Claim7 := { stood := { row := fnConfOrderRow, standIns := [], harness := (true, "daf361df1f1ffb3fee686faa60b1c2dcb4bc156c41630ad8438d93345dfe6e43"), looks := true }, kinds := [], alts := [], laidByText := true, laidKinds := [.data, .data, .data, .data, .sentinel, .sentinel, .pinned], laidTests := true, laidLooks := .later }
def FnConfOrderCardSaid : Prop := Claim7.holds Tryz.pinned (.plain (OpenSpec.ofChange fnConfOrderSpec)) fnConfOrderCard

/-- THE SECOND FORM's CARD OF 'laws.FnConfOrder'. -/
def fnConfOrderUptoCard : Claim7 := { stood := { row := fnConfOrderUptoRow, standIns := [], harness := (true, "daf361df1f1ffb3fee686faa60b1c2dcb4bc156c41630ad8438d93345dfe6e43"), looks := true }, kinds := [], alts := [], laidByText := true, laidKinds := [.data, .data, .data, .data, .sentinel, .sentinel, .pinned], laidTests := true, laidLooks := .later }
def FnConfOrderUptoCardSaid : Prop := Claim7.holds Tryz.pinned (.plain (OpenSpec.upto fnConfOrderSpec)) fnConfOrderUptoCard
end Rows
end Go.Proofs.YtmnnglbioibmfaaGreatDoor
