/-
  DERIVED. GIVEN WITH THE SEED: THE CARDS: each row of YtfpbhbbdhfbilaaGreatDoorRows.lean that lists a variable, with what it lists TIED to the program's text (the seventh form; the later family's looks); each row that meets fmt, with fmt's text TOLD by the authors' own Lean function (tested against real Go, not proved from fmt's source: count such statements apart). THE CARD IS WHAT COUNTS. Prove the row's statement (the work); the ties are given (YtfpbhbbdhfbilaaGreatDoorTie.lean); close each card by the builder's one call (the guide's Derived/Test/ToyasCard.lean, 'card_holds'). Laid BY PROGRAM, IN A SANDBOX (cutbox-door.mjs). By AI agents, Wed Nov 11 2026. No macro, syntax, notation, axiom, sorry.
-/
import Derived.Test.YtfpbhbbdhfbilaaGreatDoorRows
import GoSem.ClaimSeven
namespace Go.Proofs.YtfpbhbbdhfbilaaGreatDoor
namespace Rows

/-- THE TIED CARD OF 'laws.FnConfOrder'. -/
def fnConfOrderCard : Claim7 := { stood := { row := fnConfOrderRow, standIns := [], harness := (true, "e98ba4c2138f7546ff9101fab8680302db18fd131ade7dc0232ed9b998d26969"), looks := true }, kinds := [], alts := [], laidByText := true, laidKinds := [.data, .data, .data, .data, .sentinel, .sentinel, .pinned], laidTests := true, laidLooks := .later }
def FnConfOrderCardSaid : Prop := Claim7.holds Tryz.pinned (.plain (OpenSpec.ofChange fnConfOrderSpec)) fnConfOrderCard

/-- THE TIED CARD OF 'laws.FnTernLines'. -/
def fnTernLinesCard : Claim7 := { stood := { row := fnTernLinesRow, standIns := [], harness := (true, "e98ba4c2138f7546ff9101fab8680302db18fd131ade7dc0232ed9b998d26969"), looks := true }, kinds := [], alts := [], laidByText := true, laidKinds := [.data, .data, .data, .data, .sentinel, .sentinel, .pinned], laidTests := true, laidLooks := .later }
def FnTernLinesCardSaid : Prop := Claim7.holds Tryz.pinned (.plain (OpenSpec.ofChange fnTernLinesSpec)) fnTernLinesCard

/-- THE SECOND FORM's CARD OF 'laws.FnConfOrder'. -/
def fnConfOrderUptoCard : Claim7 := { stood := { row := fnConfOrderUptoRow, standIns := [], harness := (true, "e98ba4c2138f7546ff9101fab8680302db18fd131ade7dc0232ed9b998d26969"), looks := true }, kinds := [], alts := [], laidByText := true, laidKinds := [.data, .data, .data, .data, .sentinel, .sentinel, .pinned], laidTests := true, laidLooks := .later }
def FnConfOrderUptoCardSaid : Prop := Claim7.holds Tryz.pinned (.plain (OpenSpec.upto fnConfOrderSpec)) fnConfOrderUptoCard

/-- THE SECOND FORM's CARD OF 'laws.FnTernLines'. -/
def fnTernLinesUptoCard : Claim7 := { stood := { row := fnTernLinesUptoRow, standIns := [], harness := (true, "e98ba4c2138f7546ff9101fab8680302db18fd131ade7dc0232ed9b998d26969"), looks := true }, kinds := [], alts := [], laidByText := true, laidKinds := [.data, .data, .data, .data, .sentinel, .sentinel, .pinned], laidTests := true, laidLooks := .later }
def FnTernLinesUptoCardSaid : Prop := Claim7.holds Tryz.pinned (.plain (OpenSpec.upto fnTernLinesSpec)) fnTernLinesUptoCard
end Rows
end Go.Proofs.YtfpbhbbdhfbilaaGreatDoor
