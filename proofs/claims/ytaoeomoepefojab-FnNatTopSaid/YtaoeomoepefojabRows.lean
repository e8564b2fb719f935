/-
  No cell of these rows narrows 'for every input' (looked for: loops, veiled, ifaces, maps, wideKeys, modest, calm, conditions, laid).
  DERIVED. THE GIVEN ROWS OF THIS SEAT. 3 by the template 'for every input the law returns true; each argument reads behind the call as it read before'; 0 by the template 'total and deterministic' (their statements: YtaoeomoepefojabTotals.lean).
  GIVEN WITH THE SEED: the statements are not yours to turn. If you find one false, say at which input.
  Laid BY PROGRAM, IN A SANDBOX (cutbox-rows.mjs): the forced cells as the released guide's own fill.sh prints them over the translation a8716a5ee47fad71… (all of the seat's roots in one cut). By AI agents, Wed Nov 11 2026. No macro, syntax, notation, axiom, sorry.
-/
import Derived.Test.YtaoeomoepefojabChecked
import GoSem.Claim
import GoSem.ClaimJoined
import GoSem.ClaimMapViews
import Derived.JoinedTies
import Derived.KernelRfl
namespace Go.Proofs.Ytaoeomoepefojab
/- THE CELL 'sum', in the pinned program and in every row, IS THE sha256 OF THE DUMP (.gsa) THAT YtaoeomoepefojabProg.lean LOADS. Nothing in Lean hashes anything: it is a label: what it is worth is what the hold of that sum in a sandbox is worth. -/
noncomputable def Try.pinned : Pinned := { name := "ytaoeomoepefojab", sum := "a8716a5ee47fad717afb9a832cf6a0f6856ec963100c657a32a824c053044a91", checked := Try.checked }
namespace Rows
def none {H : Type} : Left H := { results := [], args := [] }

/-- 'laws.FnNatOrder': WHATEVER THE INPUT: true; the input reads as it did. -/
def fnNatOrderSpec : ChangeSpec := { name := "fnNatOrder", fn := fun _ => fun
  | [d1, d2] => { results := [.lit (.bool true)], args := [d1, d2] }
  | _ => none }
def fnNatOrderRow : OpenClaim := { program := "ytaoeomoepefojab", sum := "a8716a5ee47fad717afb9a832cf6a0f6856ec963100c657a32a824c053044a91", func := "loop.example/tern/laws.FnNatOrder", spec := "fnNatOrder", inPlace := ["slices.overlaps[loop.example/tern/impl.NatEntry]"], unfollowed := true, recurses := true, apart := false }
def FnNatOrderSaid : Prop := fnNatOrderRow.holds Try.pinned (OpenSpec.ofChange fnNatOrderSpec)

/-- ITS FALSE NEIGHBOUR: 'it returns false'. Refute it at one input. -/
def fnNatOrderWrong : ChangeSpec := { name := "fnNatOrder", fn := fun _ => fun
  | [d1, d2] => { results := [.lit (.bool false)], args := [d1, d2] }
  | _ => none }
def FnNatOrderWrongFalsely : Prop := fnNatOrderRow.holds Try.pinned (OpenSpec.ofChange fnNatOrderWrong)

/-- 'laws.FnNatThere': WHATEVER THE INPUT: true; the input reads as it did. -/
def fnNatThereSpec : ChangeSpec := { name := "fnNatThere", fn := fun _ => fun
  | [d] => { results := [.lit (.bool true)], args := [d] }
  | _ => none }
def fnNatThereRow : OpenClaim := { program := "ytaoeomoepefojab", sum := "a8716a5ee47fad717afb9a832cf6a0f6856ec963100c657a32a824c053044a91", func := "loop.example/tern/laws.FnNatThere", spec := "fnNatThere", inPlace := ["slices.overlaps[loop.example/tern/impl.NatEntry]"], unfollowed := true, recurses := true, apart := false }
def FnNatThereSaid : Prop := fnNatThereRow.holds Try.pinned (OpenSpec.ofChange fnNatThereSpec)

/-- ITS FALSE NEIGHBOUR: 'it returns false'. Refute it at one input. -/
def fnNatThereWrong : ChangeSpec := { name := "fnNatThere", fn := fun _ => fun
  | [d] => { results := [.lit (.bool false)], args := [d] }
  | _ => none }
def FnNatThereWrongFalsely : Prop := fnNatThereRow.holds Try.pinned (OpenSpec.ofChange fnNatThereWrong)

/-- 'laws.FnNatTop': WHATEVER THE INPUT: true; the input reads as it did. -/
def fnNatTopSpec : ChangeSpec := { name := "fnNatTop", fn := fun _ => fun
  | [d] => { results := [.lit (.bool true)], args := [d] }
  | _ => none }
def fnNatTopRow : OpenClaim := { program := "ytaoeomoepefojab", sum := "a8716a5ee47fad717afb9a832cf6a0f6856ec963100c657a32a824c053044a91", func := "loop.example/tern/laws.FnNatTop", spec := "fnNatTop", inPlace := ["slices.overlaps[loop.example/tern/impl.NatEntry]"], unfollowed := true, recurses := true, apart := false }
def FnNatTopSaid : Prop := fnNatTopRow.holds Try.pinned (OpenSpec.ofChange fnNatTopSpec)

/-- ITS FALSE NEIGHBOUR: 'it returns false'. Refute it at one input. -/
def fnNatTopWrong : ChangeSpec := { name := "fnNatTop", fn := fun _ => fun
  | [d] => { results := [.lit (.bool false)], args := [d] }
  | _ => none }
def FnNatTopWrongFalsely : Prop := fnNatTopRow.holds Try.pinned (OpenSpec.ofChange fnNatTopWrong)

/- THE SECOND FORM. 'bulk': how many values and letters a reading holds, each counted each time it is reached (what is shared counts as often as it is met; a slice's spare places count too). A statement '..UptoSaid' is the law's where the arguments, and the package variables that the reading takes, are together of bulk at most 1048576: NARROWER than '..Said'. Prove '..Said' where nothing that the law and all that it calls make is longer than what came in: it says more and counts as full. Else prove '..UptoSaid'. A law counts once. -/
mutual
def uptoBulk {H : Type} : DataW H → Nat
  | .lit (.string bytes) => bytes.length + 1
  | .lit _ => 1
  | .nil => 1
  | .ptr d => uptoBulk d + 1
  | .slice elems spare => uptoBulkAll elems + uptoBulkAll spare + 1
  | .agg parts => uptoBulkAll parts + 1
  | .iface _ d => uptoBulk d + 1
  | .map entries => uptoBulkEntries entries + 1
  | .held _ => 1
def uptoBulkAll {H : Type} : List (DataW H) → Nat
  | [] => 0
  | d :: r => uptoBulk d + uptoBulkAll r
def uptoBulkEntries {H : Type} : List (Lit × DataW H) → Nat
  | [] => 0
  | x :: r => uptoBulkEntry x + uptoBulkEntries r
def uptoBulkEntry {H : Type} : Lit × DataW H → Nat
  | (.string bytes, d) => bytes.length + uptoBulk d + 1
  | (_, d) => uptoBulk d + 1
 end
def uptoSmall : (H : Type) → List (DataW H) → Bool := fun _ ds => decide (uptoBulkAll ds ≤ 1048576)
def OpenSpec.upto (s : _root_.Go.ChangeSpec) : _root_.Go.OpenSpec := { _root_.Go.OpenSpec.ofChange s with cond := some uptoSmall }

/-- 'laws.FnNatOrder', WHERE WHAT IT READS IS OF BULK AT MOST 1048576: true; the input reads as it did. -/
def fnNatOrderUptoRow : OpenClaim := { program := "ytaoeomoepefojab", sum := "a8716a5ee47fad717afb9a832cf6a0f6856ec963100c657a32a824c053044a91", func := "loop.example/tern/laws.FnNatOrder", spec := "fnNatOrder", inPlace := ["slices.overlaps[loop.example/tern/impl.NatEntry]"], unfollowed := true, recurses := true, apart := false, narrowed := true }
def FnNatOrderUptoSaid : Prop := fnNatOrderUptoRow.holds Try.pinned (OpenSpec.upto fnNatOrderSpec)

/-- 'laws.FnNatThere', WHERE WHAT IT READS IS OF BULK AT MOST 1048576: true; the input reads as it did. -/
def fnNatThereUptoRow : OpenClaim := { program := "ytaoeomoepefojab", sum := "a8716a5ee47fad717afb9a832cf6a0f6856ec963100c657a32a824c053044a91", func := "loop.example/tern/laws.FnNatThere", spec := "fnNatThere", inPlace := ["slices.overlaps[loop.example/tern/impl.NatEntry]"], unfollowed := true, recurses := true, apart := false, narrowed := true }
def FnNatThereUptoSaid : Prop := fnNatThereUptoRow.holds Try.pinned (OpenSpec.upto fnNatThereSpec)

/-- 'laws.FnNatTop', WHERE WHAT IT READS IS OF BULK AT MOST 1048576: true; the input reads as it did. -/
def fnNatTopUptoRow : OpenClaim := { program := "ytaoeomoepefojab", sum := "a8716a5ee47fad717afb9a832cf6a0f6856ec963100c657a32a824c053044a91", func := "loop.example/tern/laws.FnNatTop", spec := "fnNatTop", inPlace := ["slices.overlaps[loop.example/tern/impl.NatEntry]"], unfollowed := true, recurses := true, apart := false, narrowed := true }
def FnNatTopUptoSaid : Prop := fnNatTopUptoRow.holds Try.pinned (OpenSpec.upto fnNatTopSpec)

end Rows
end Go.Proofs.Ytaoeomoepefojab
