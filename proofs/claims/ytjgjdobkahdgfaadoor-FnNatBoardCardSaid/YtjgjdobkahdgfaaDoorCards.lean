/-
  DERIVED. GIVEN WITH THE SEED: THE CARDS: each row of YtjgjdobkahdgfaaDoorRows.lean that lists a variable, with what it lists TIED to the program's text (the seventh form; the later family's looks); each row that meets fmt, with fmt's text TOLD by the authors' own Lean function (tested against real Go, not proved from fmt's source: count such statements apart). THE CARD IS WHAT COUNTS. Prove the row's statement (the work); the ties are given (YtjgjdobkahdgfaaDoorTie.lean); close each card by the builder's one call (the guide's Derived/Test/ToyasCard.lean, 'card_holds'). Laid BY PROGRAM, IN A SANDBOX (cutbox-door.mjs). By AI agents, Wed Nov 11 2026. No macro, syntax, notation, axiom, sorry.
-/
import Derived.Test.YtjgjdobkahdgfaaDoorRows
import GoSem.ClaimSeven
namespace Go.Proofs.YtjgjdobkahdgfaaDoor
namespace Rows

/-- THE TIED CARD OF 'laws.FnExactNatBoard'. -/
def fnExactNatBoardCard : Claim7 := { stood := { row := fnExactNatBoardRow, standIns := [], harness := (true, "158909e4fa8eeda79a3466b37027d9d98d312bab17fee8eb350ec8b10ab80432"), looks := false }, kinds := [], alts := [], laidByText := true, laidKinds := [.data, .data, .data], laidTests := true, laidLooks := .later }
def FnExactNatBoardCardSaid : Prop := Claim7.holds Tryd.pinned (.plain (OpenSpec.ofChange fnExactNatBoardSpec)) fnExactNatBoardCard

/-- THE TIED CARD OF 'laws.FnNatBoard'. -/
def fnNatBoardCard : Claim7 := { stood := { row := fnNatBoardRow, standIns := [], harness := (true, "158909e4fa8eeda79a3466b37027d9d98d312bab17fee8eb350ec8b10ab80432"), looks := false }, kinds := [], alts := [], laidByText := true, laidKinds := [.data, .data, .data], laidTests := true, laidLooks := .later }
def FnNatBoardCardSaid : Prop := Claim7.holds Tryd.pinned (.plain (OpenSpec.ofChange fnNatBoardSpec)) fnNatBoardCard

/-- THE SECOND FORM's CARD OF 'laws.FnExactNatBoard'. -/
def fnExactNatBoardUptoCard : Claim7 := { stood := { row := fnExactNatBoardUptoRow, standIns := [], harness := (true, "158909e4fa8eeda79a3466b37027d9d98d312bab17fee8eb350ec8b10ab80432"), looks := false }, kinds := [], alts := [], laidByText := true, laidKinds := [.data, .data, .data], laidTests := true, laidLooks := .later }
def FnExactNatBoardUptoCardSaid : Prop := Claim7.holds Tryd.pinned (.plain (OpenSpec.upto fnExactNatBoardSpec)) fnExactNatBoardUptoCard

/-- THE SECOND FORM's CARD OF 'laws.FnNatBoard'. -/
def fnNatBoardUptoCard : Claim7 := { stood := { row := fnNatBoardUptoRow, standIns := [], harness := (true, "158909e4fa8eeda79a3466b37027d9d98d312bab17fee8eb350ec8b10ab80432"), looks := false }, kinds := [], alts := [], laidByText := true, laidKinds := [.data, .data, .data], laidTests := true, laidLooks := .later }
def FnNatBoardUptoCardSaid : Prop := Claim7.holds Tryd.pinned (.plain (OpenSpec.upto fnNatBoardSpec)) fnNatBoardUptoCard
end Rows
end Go.Proofs.YtjgjdobkahdgfaaDoor
