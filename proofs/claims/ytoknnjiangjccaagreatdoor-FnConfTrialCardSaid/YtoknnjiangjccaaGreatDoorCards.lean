/-
  DERIVED. GIVEN WITH THE SEED: THE CARDS: each row of YtoknnjiangjccaaGreatDoorRows.lean that lists a variable, with what it lists TIED to the program's text (the seventh form; the later family's looks); each row that meets fmt, with fmt's text TOLD by the authors' own Lean function (tested against real Go, not proved from fmt's source: count such statements apart). THE CARD IS WHAT COUNTS. Prove the row's statement (the work); the ties are given (YtoknnjiangjccaaGreatDoorTie.lean); close each card by the builder's one call (the guide's Derived/Test/ToyasCard.lean, 'card_holds'). Laid BY PROGRAM, IN A SANDBOX (cutbox-door.mjs). By AI agents, Wed Nov 11 2026. No macro, syntax, notation, axiom, sorry.
-/
import Derived.Test.YtoknnjiangjccaaGreatDoorRows
import GoSem.ClaimSeven
namespace Go.Proofs.YtoknnjiangjccaaGreatDoor
namespace Rows

/-- THE TIED CARD OF 'laws.FnConfTop'. -/
def fnConfTopCard : Claim7 := { stood := { row := fnConfTopRow, standIns := [], harness := (true, "a6ee764e5855492814ba278b888e76b6bb5c27f0c1bb2e9e06a81fc1e13a197e"), looks := true }, kinds := [], alts := [], laidByText := true, laidKinds := [.data, .data, .data, .data, .sentinel, .sentinel, .pinned], laidTests := true, laidLooks := .later }
def FnConfTopCardSaid : Prop := Claim7.holds Tryz.pinned (.plain (OpenSpec.ofChange fnConfTopSpec)) fnConfTopCard

/-- THE TIED CARD OF 'laws.FnConfFall'. -/
def fnConfFallCard : Claim7 := { stood := { row := fnConfFallRow, standIns := [], harness := (true, "a6ee764e5855492814ba278b888e76b6bb5c27f0c1bb2e9e06a81fc1e13a197e"), looks := true }, kinds := [], alts := [], laidByText := true, laidKinds := [.data, .data, .data, .data, .sentinel, .sentinel, .pinned], laidTests := true, laidLooks := .later }
def FnConfFallCardSaid : Prop := Claim7.holds Tryz.pinned (.plain (OpenSpec.ofChange fnConfFallSpec)) fnConfFallCard

/-- THE TIED CARD OF 'laws.FnConfTrial'. -/
def fnConfTrialCard : Claim7 := { stood := { row := fnConfTrialRow, standIns := [], harness := (true, "a6ee764e5855492814ba278b888e76b6bb5c27f0c1bb2e9e06a81fc1e13a197e"), looks := true }, kinds := [], alts := [], laidByText := true, laidKinds := [.data, .data, .data, .data, .sentinel, .sentinel, .pinned], laidTests := true, laidLooks := .later }
def FnConfTrialCardSaid : Prop := Claim7.holds Tryz.pinned (.plain (OpenSpec.ofChange fnConfTrialSpec)) fnConfTrialCard

/-- THE SECOND FORM's CARD OF 'laws.FnConfTop'. -/
def fnConfTopUptoCard : Claim7 := { stood := { row := fnConfTopUptoRow, standIns := [], harness := (true, "a6ee764e5855492814ba278b888e76b6bb5c27f0c1bb2e9e06a81fc1e13a197e"), looks := true }, kinds := [], alts := [], laidByText := true, laidKinds := [.data, .data, .data, .data, .sentinel, .sentinel, .pinned], laidTests := true, laidLooks := .later }
def FnConfTopUptoCardSaid : Prop := Claim7.holds Tryz.pinned (.plain (OpenSpec.upto fnConfTopSpec)) fnConfTopUptoCard

/-- THE SECOND FORM's CARD OF 'laws.FnConfFall'. -/
def fnConfFallUptoCard : Claim7 := { stood := { row := fnConfFallUptoRow, standIns := [], harness := (true, "a6ee764e5855492814ba278b888e76b6bb5c27f0c1bb2e9e06a81fc1e13a197e"), looks := true }, kinds := [], alts := [], laidByText := true, laidKinds := [.data, .data, .data, .data, .sentinel, .sentinel, .pinned], laidTests := true, laidLooks := .later }
def FnConfFallUptoCardSaid : Prop := Claim7.holds Tryz.pinned (.plain (OpenSpec.upto fnConfFallSpec)) fnConfFallUptoCard

/-- THE SECOND FORM's CARD OF 'laws.FnConfTrial'. -/
def fnConfTrialUptoCard : Claim7 := { stood := { row := fnConfTrialUptoRow, standIns := [], harness := (true, "a6ee764e5855492814ba278b888e76b6bb5c27f0c1bb2e9e06a81fc1e13a197e"), looks := true }, kinds := [], alts := [], laidByText := true, laidKinds := [.data, .data, .data, .data, .sentinel, .sentinel, .pinned], laidTests := true, laidLooks := .later }
def FnConfTrialUptoCardSaid : Prop := Claim7.holds Tryz.pinned (.plain (OpenSpec.upto fnConfTrialSpec)) fnConfTrialUptoCard
end Rows
end Go.Proofs.YtoknnjiangjccaaGreatDoor
