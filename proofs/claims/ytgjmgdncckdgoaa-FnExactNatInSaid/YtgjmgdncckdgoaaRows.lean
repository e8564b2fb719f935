/-
  No cell of these rows narrows 'for every input' (looked for: loops, veiled, ifaces, maps, wideKeys, modest, calm, conditions, laid).
  DERIVED. THE GIVEN ROWS OF THIS SEAT. 10 by the template 'for every input the law returns true; each argument reads behind the call as it read before'; 0 by the template 'total and deterministic' (their statements: YtgjmgdncckdgoaaTotals.lean).
  GIVEN WITH THE SEED: the statements are not yours to turn. If you find one false, say at which input.
  Laid BY PROGRAM, IN A SANDBOX (cutbox-rows.mjs): the forced cells as the released guide's own fill.sh prints them over the translation 23acc863fc0be8c7… (all of the seat's roots in one cut). By AI agents, Wed Nov 11 2026. No macro, syntax, notation, axiom, sorry.
-/
import Derived.Test.YtgjmgdncckdgoaaChecked
import GoSem.Claim
import GoSem.ClaimJoined
import GoSem.ClaimMapViews
import Derived.JoinedTies
import Derived.KernelRfl
namespace Go.Proofs.Ytgjmgdncckdgoaa
/- THE CELL 'sum', in the pinned program and in every row, IS THE sha256 OF THE DUMP (.gsa) THAT YtgjmgdncckdgoaaProg.lean LOADS. Nothing in Lean hashes anything: it is a label: what it is worth is what the hold of that sum in a sandbox is worth. -/
noncomputable def Try.pinned : Pinned := { name := "ytgjmgdncckdgoaa", sum := "23acc863fc0be8c71af04f1cf6461f9c2ab880a5ac4a2c8f9891fc45c9b4dffb", checked := Try.checked }
namespace Rows
def none {H : Type} : Left H := { results := [], args := [] }

/-- 'laws.FnExactNatBookOk': WHATEVER THE INPUT: true; the input reads as it did. -/
def fnExactNatBookOkSpec : ChangeSpec := { name := "fnExactNatBookOk", fn := fun _ => fun
  | [d] => { results := [.lit (.bool true)], args := [d] }
  | _ => none }
def fnExactNatBookOkRow : OpenClaim := { program := "ytgjmgdncckdgoaa", sum := "23acc863fc0be8c71af04f1cf6461f9c2ab880a5ac4a2c8f9891fc45c9b4dffb", func := "loop.example/tern/laws.FnExactNatBookOk", spec := "fnExactNatBookOk", apart := false }
def FnExactNatBookOkSaid : Prop := fnExactNatBookOkRow.holds Try.pinned (OpenSpec.ofChange fnExactNatBookOkSpec)

/-- ITS FALSE NEIGHBOUR: 'it returns false'. Refute it at one input. -/
def fnExactNatBookOkWrong : ChangeSpec := { name := "fnExactNatBookOk", fn := fun _ => fun
  | [d] => { results := [.lit (.bool false)], args := [d] }
  | _ => none }
def FnExactNatBookOkWrongFalsely : Prop := fnExactNatBookOkRow.holds Try.pinned (OpenSpec.ofChange fnExactNatBookOkWrong)

/-- 'laws.FnExactNatInside': WHATEVER THE INPUT: true; the input reads as it did. -/
def fnExactNatInsideSpec : ChangeSpec := { name := "fnExactNatInside", fn := fun _ => fun
  | [d1, d2] => { results := [.lit (.bool true)], args := [d1, d2] }
  | _ => none }
def fnExactNatInsideRow : OpenClaim := { program := "ytgjmgdncckdgoaa", sum := "23acc863fc0be8c71af04f1cf6461f9c2ab880a5ac4a2c8f9891fc45c9b4dffb", func := "loop.example/tern/laws.FnExactNatInside", spec := "fnExactNatInside", apart := false }
def FnExactNatInsideSaid : Prop := fnExactNatInsideRow.holds Try.pinned (OpenSpec.ofChange fnExactNatInsideSpec)

/-- ITS FALSE NEIGHBOUR: 'it returns false'. Refute it at one input. -/
def fnExactNatInsideWrong : ChangeSpec := { name := "fnExactNatInside", fn := fun _ => fun
  | [d1, d2] => { results := [.lit (.bool false)], args := [d1, d2] }
  | _ => none }
def FnExactNatInsideWrongFalsely : Prop := fnExactNatInsideRow.holds Try.pinned (OpenSpec.ofChange fnExactNatInsideWrong)

/-- 'laws.FnExactNatIn': WHATEVER THE INPUT: true; the input reads as it did. -/
def fnExactNatInSpec : ChangeSpec := { name := "fnExactNatIn", fn := fun _ => fun
  | [d1, d2] => { results := [.lit (.bool true)], args := [d1, d2] }
  | _ => none }
def fnExactNatInRow : OpenClaim := { program := "ytgjmgdncckdgoaa", sum := "23acc863fc0be8c71af04f1cf6461f9c2ab880a5ac4a2c8f9891fc45c9b4dffb", func := "loop.example/tern/laws.FnExactNatIn", spec := "fnExactNatIn", apart := false }
def FnExactNatInSaid : Prop := fnExactNatInRow.holds Try.pinned (OpenSpec.ofChange fnExactNatInSpec)

/-- ITS FALSE NEIGHBOUR: 'it returns false'. Refute it at one input. -/
def fnExactNatInWrong : ChangeSpec := { name := "fnExactNatIn", fn := fun _ => fun
  | [d1, d2] => { results := [.lit (.bool false)], args := [d1, d2] }
  | _ => none }
def FnExactNatInWrongFalsely : Prop := fnExactNatInRow.holds Try.pinned (OpenSpec.ofChange fnExactNatInWrong)

/-- 'laws.FnExactNatTick': WHATEVER THE INPUT: true; the input reads as it did. -/
def fnExactNatTickSpec : ChangeSpec := { name := "fnExactNatTick", fn := fun _ => fun
  | [d] => { results := [.lit (.bool true)], args := [d] }
  | _ => none }
def fnExactNatTickRow : OpenClaim := { program := "ytgjmgdncckdgoaa", sum := "23acc863fc0be8c71af04f1cf6461f9c2ab880a5ac4a2c8f9891fc45c9b4dffb", func := "loop.example/tern/laws.FnExactNatTick", spec := "fnExactNatTick", unfollowed := true, recurses := true, apart := false }
def FnExactNatTickSaid : Prop := fnExactNatTickRow.holds Try.pinned (OpenSpec.ofChange fnExactNatTickSpec)

/-- ITS FALSE NEIGHBOUR: 'it returns false'. Refute it at one input. -/
def fnExactNatTickWrong : ChangeSpec := { name := "fnExactNatTick", fn := fun _ => fun
  | [d] => { results := [.lit (.bool false)], args := [d] }
  | _ => none }
def FnExactNatTickWrongFalsely : Prop := fnExactNatTickRow.holds Try.pinned (OpenSpec.ofChange fnExactNatTickWrong)

/-- 'laws.FnNatIn': WHATEVER THE INPUT: true; the input reads as it did. -/
def fnNatInSpec : ChangeSpec := { name := "fnNatIn", fn := fun _ => fun
  | [d] => { results := [.lit (.bool true)], args := [d] }
  | _ => none }
def fnNatInRow : OpenClaim := { program := "ytgjmgdncckdgoaa", sum := "23acc863fc0be8c71af04f1cf6461f9c2ab880a5ac4a2c8f9891fc45c9b4dffb", func := "loop.example/tern/laws.FnNatIn", spec := "fnNatIn", apart := false }
def FnNatInSaid : Prop := fnNatInRow.holds Try.pinned (OpenSpec.ofChange fnNatInSpec)

/-- ITS FALSE NEIGHBOUR: 'it returns false'. Refute it at one input. -/
def fnNatInWrong : ChangeSpec := { name := "fnNatIn", fn := fun _ => fun
  | [d] => { results := [.lit (.bool false)], args := [d] }
  | _ => none }
def FnNatInWrongFalsely : Prop := fnNatInRow.holds Try.pinned (OpenSpec.ofChange fnNatInWrong)

/-- 'laws.FnNatOver': WHATEVER THE INPUT: true; the input reads as it did. -/
def fnNatOverSpec : ChangeSpec := { name := "fnNatOver", fn := fun _ => fun
  | [d1, d2] => { results := [.lit (.bool true)], args := [d1, d2] }
  | _ => none }
def fnNatOverRow : OpenClaim := { program := "ytgjmgdncckdgoaa", sum := "23acc863fc0be8c71af04f1cf6461f9c2ab880a5ac4a2c8f9891fc45c9b4dffb", func := "loop.example/tern/laws.FnNatOver", spec := "fnNatOver", unfollowed := true, recurses := true, apart := false }
def FnNatOverSaid : Prop := fnNatOverRow.holds Try.pinned (OpenSpec.ofChange fnNatOverSpec)

/-- ITS FALSE NEIGHBOUR: 'it returns false'. Refute it at one input. -/
def fnNatOverWrong : ChangeSpec := { name := "fnNatOver", fn := fun _ => fun
  | [d1, d2] => { results := [.lit (.bool false)], args := [d1, d2] }
  | _ => none }
def FnNatOverWrongFalsely : Prop := fnNatOverRow.holds Try.pinned (OpenSpec.ofChange fnNatOverWrong)

/-- 'laws.FnNatOrder': WHATEVER THE INPUT: true; the input reads as it did. -/
def fnNatOrderSpec : ChangeSpec := { name := "fnNatOrder", fn := fun _ => fun
  | [d1, d2] => { results := [.lit (.bool true)], args := [d1, d2] }
  | _ => none }
def fnNatOrderRow : OpenClaim := { program := "ytgjmgdncckdgoaa", sum := "23acc863fc0be8c71af04f1cf6461f9c2ab880a5ac4a2c8f9891fc45c9b4dffb", func := "loop.example/tern/laws.FnNatOrder", spec := "fnNatOrder", inPlace := ["slices.overlaps[loop.example/tern/impl.NatEntry]"], unfollowed := true, recurses := true, apart := false }
def FnNatOrderSaid : Prop := fnNatOrderRow.holds Try.pinned (OpenSpec.ofChange fnNatOrderSpec)

/-- ITS FALSE NEIGHBOUR: 'it returns false'. Refute it at one input. -/
def fnNatOrderWrong : ChangeSpec := { name := "fnNatOrder", fn := fun _ => fun
  | [d1, d2] => { results := [.lit (.bool false)], args := [d1, d2] }
  | _ => none }
def FnNatOrderWrongFalsely : Prop := fnNatOrderRow.holds Try.pinned (OpenSpec.ofChange fnNatOrderWrong)

/-- 'laws.FnNatThere': WHATEVER THE INPUT: true; the input reads as it did. -/
def fnNatThereSpec : ChangeSpec := { name := "fnNatThere", fn := fun _ => fun
  | [d] => { results := [.lit (.bool true)], args := [d] }
  | _ => none }
def fnNatThereRow : OpenClaim := { program := "ytgjmgdncckdgoaa", sum := "23acc863fc0be8c71af04f1cf6461f9c2ab880a5ac4a2c8f9891fc45c9b4dffb", func := "loop.example/tern/laws.FnNatThere", spec := "fnNatThere", inPlace := ["slices.overlaps[loop.example/tern/impl.NatEntry]"], unfollowed := true, recurses := true, apart := false }
def FnNatThereSaid : Prop := fnNatThereRow.holds Try.pinned (OpenSpec.ofChange fnNatThereSpec)

/-- ITS FALSE NEIGHBOUR: 'it returns false'. Refute it at one input. -/
def fnNatThereWrong : ChangeSpec := { name := "fnNatThere", fn := fun _ => fun
  | [d] => { results := [.lit (.bool false)], args := [d] }
  | _ => none }
def FnNatThereWrongFalsely : Prop := fnNatThereRow.holds Try.pinned (OpenSpec.ofChange fnNatThereWrong)

/-- 'laws.FnNatTop': WHATEVER THE INPUT: true; the input reads as it did. -/
def fnNatTopSpec : ChangeSpec := { name := "fnNatTop", fn := fun _ => fun
  | [d] => { results := [.lit (.bool true)], args := [d] }
  | _ => none }
def fnNatTopRow : OpenClaim := { program := "ytgjmgdncckdgoaa", sum := "23acc863fc0be8c71af04f1cf6461f9c2ab880a5ac4a2c8f9891fc45c9b4dffb", func := "loop.example/tern/laws.FnNatTop", spec := "fnNatTop", inPlace := ["slices.overlaps[loop.example/tern/impl.NatEntry]"], unfollowed := true, recurses := true, apart := false }
def FnNatTopSaid : Prop := fnNatTopRow.holds Try.pinned (OpenSpec.ofChange fnNatTopSpec)

/-- ITS FALSE NEIGHBOUR: 'it returns false'. Refute it at one input. -/
def fnNatTopWrong : ChangeSpec := { name := "fnNatTop", fn := fun _ => fun
  | [d] => { results := [.lit (.bool false)], args := [d] }
  | _ => none }
def FnNatTopWrongFalsely : Prop := fnNatTopRow.holds Try.pinned (OpenSpec.ofChange fnNatTopWrong)

/-- 'laws.FnExactNatOut': WHATEVER THE INPUT: true; the input reads as it did. -/
def fnExactNatOutSpec : ChangeSpec := { name := "fnExactNatOut", fn := fun _ => fun
  | [d1, d2] => { results := [.lit (.bool true)], args := [d1, d2] }
  | _ => none }
def fnExactNatOutRow : OpenClaim := { program := "ytgjmgdncckdgoaa", sum := "23acc863fc0be8c71af04f1cf6461f9c2ab880a5ac4a2c8f9891fc45c9b4dffb", func := "loop.example/tern/laws.FnExactNatOut", spec := "fnExactNatOut", inPlace := ["slices.overlaps[loop.example/tern/impl.NatEntry]"], unfollowed := true, recurses := true, apart := false }
def FnExactNatOutSaid : Prop := fnExactNatOutRow.holds Try.pinned (OpenSpec.ofChange fnExactNatOutSpec)

/-- ITS FALSE NEIGHBOUR: 'it returns false'. Refute it at one input. -/
def fnExactNatOutWrong : ChangeSpec := { name := "fnExactNatOut", fn := fun _ => fun
  | [d1, d2] => { results := [.lit (.bool false)], args := [d1, d2] }
  | _ => none }
def FnExactNatOutWrongFalsely : Prop := fnExactNatOutRow.holds Try.pinned (OpenSpec.ofChange fnExactNatOutWrong)

/- THE SECOND FORM. 'bulk': how many values and letters a reading holds, each counted each time it is reached (what is shared counts as often as it is met; a slice's spare places count too). A statement '..UptoSaid' is the law's where the arguments, and the package variables that the reading takes, are together of bulk at most 1048576: NARROWER than '..Said'. Prove '..Said' where nothing that the law and all that it calls make is longer than what came in: it says more and counts as full. Else prove '..UptoSaid'. A law counts once. -/
mutual
def uptoBulk {H : Type} : DataW H → Nat
  | .lit (.string bytes) => bytes.length + 1
  | .lit _ => 1
  | .nil => 1
  | .ptr d => uptoBulk d + 1
  | .slice elems spare => uptoBulkAll elems + uptoBulkAll spare + 1
  | .agg parts => uptoBulkAll parts + 1
  | .iface _ d => uptoBulk d + 1
  | .map entries => uptoBulkEntries entries + 1
  | .held _ => 1
def uptoBulkAll {H : Type} : List (DataW H) → Nat
  | [] => 0
  | d :: r => uptoBulk d + uptoBulkAll r
def uptoBulkEntries {H : Type} : List (Lit × DataW H) → Nat
  | [] => 0
  | x :: r => uptoBulkEntry x + uptoBulkEntries r
def uptoBulkEntry {H : Type} : Lit × DataW H → Nat
  | (.string bytes, d) => bytes.length + uptoBulk d + 1
  | (_, d) => uptoBulk d + 1
 end
def uptoSmall : (H : Type) → List (DataW H) → Bool := fun _ ds => decide (uptoBulkAll ds ≤ 1048576)
def OpenSpec.upto (s : _root_.Go.ChangeSpec) : _root_.Go.OpenSpec := { _root_.Go.OpenSpec.ofChange s with cond := some uptoSmall }

/-- 'laws.FnExactNatBookOk', WHERE WHAT IT READS IS OF BULK AT MOST 1048576: true; the input reads as it did. -/
def fnExactNatBookOkUptoRow : OpenClaim := { program := "ytgjmgdncckdgoaa", sum := "23acc863fc0be8c71af04f1cf6461f9c2ab880a5ac4a2c8f9891fc45c9b4dffb", func := "loop.example/tern/laws.FnExactNatBookOk", spec := "fnExactNatBookOk", apart := false, narrowed := true }
def FnExactNatBookOkUptoSaid : Prop := fnExactNatBookOkUptoRow.holds Try.pinned (OpenSpec.upto fnExactNatBookOkSpec)

/-- 'laws.FnExactNatInside', WHERE WHAT IT READS IS OF BULK AT MOST 1048576: true; the input reads as it did. -/
def fnExactNatInsideUptoRow : OpenClaim := { program := "ytgjmgdncckdgoaa", sum := "23acc863fc0be8c71af04f1cf6461f9c2ab880a5ac4a2c8f9891fc45c9b4dffb", func := "loop.example/tern/laws.FnExactNatInside", spec := "fnExactNatInside", apart := false, narrowed := true }
def FnExactNatInsideUptoSaid : Prop := fnExactNatInsideUptoRow.holds Try.pinned (OpenSpec.upto fnExactNatInsideSpec)

/-- 'laws.FnExactNatIn', WHERE WHAT IT READS IS OF BULK AT MOST 1048576: true; the input reads as it did. -/
def fnExactNatInUptoRow : OpenClaim := { program := "ytgjmgdncckdgoaa", sum := "23acc863fc0be8c71af04f1cf6461f9c2ab880a5ac4a2c8f9891fc45c9b4dffb", func := "loop.example/tern/laws.FnExactNatIn", spec := "fnExactNatIn", apart := false, narrowed := true }
def FnExactNatInUptoSaid : Prop := fnExactNatInUptoRow.holds Try.pinned (OpenSpec.upto fnExactNatInSpec)

/-- 'laws.FnExactNatTick', WHERE WHAT IT READS IS OF BULK AT MOST 1048576: true; the input reads as it did. -/
def fnExactNatTickUptoRow : OpenClaim := { program := "ytgjmgdncckdgoaa", sum := "23acc863fc0be8c71af04f1cf6461f9c2ab880a5ac4a2c8f9891fc45c9b4dffb", func := "loop.example/tern/laws.FnExactNatTick", spec := "fnExactNatTick", unfollowed := true, recurses := true, apart := false, narrowed := true }
def FnExactNatTickUptoSaid : Prop := fnExactNatTickUptoRow.holds Try.pinned (OpenSpec.upto fnExactNatTickSpec)

/-- 'laws.FnNatIn', WHERE WHAT IT READS IS OF BULK AT MOST 1048576: true; the input reads as it did. -/
def fnNatInUptoRow : OpenClaim := { program := "ytgjmgdncckdgoaa", sum := "23acc863fc0be8c71af04f1cf6461f9c2ab880a5ac4a2c8f9891fc45c9b4dffb", func := "loop.example/tern/laws.FnNatIn", spec := "fnNatIn", apart := false, narrowed := true }
def FnNatInUptoSaid : Prop := fnNatInUptoRow.holds Try.pinned (OpenSpec.upto fnNatInSpec)

/-- 'laws.FnNatOver', WHERE WHAT IT READS IS OF BULK AT MOST 1048576: true; the input reads as it did. -/
def fnNatOverUptoRow : OpenClaim := { program := "ytgjmgdncckdgoaa", sum := "23acc863fc0be8c71af04f1cf6461f9c2ab880a5ac4a2c8f9891fc45c9b4dffb", func := "loop.example/tern/laws.FnNatOver", spec := "fnNatOver", unfollowed := true, recurses := true, apart := false, narrowed := true }
def FnNatOverUptoSaid : Prop := fnNatOverUptoRow.holds Try.pinned (OpenSpec.upto fnNatOverSpec)

/-- 'laws.FnNatOrder', WHERE WHAT IT READS IS OF BULK AT MOST 1048576: true; the input reads as it did. -/
def fnNatOrderUptoRow : OpenClaim := { program := "ytgjmgdncckdgoaa", sum := "23acc863fc0be8c71af04f1cf6461f9c2ab880a5ac4a2c8f9891fc45c9b4dffb", func := "loop.example/tern/laws.FnNatOrder", spec := "fnNatOrder", inPlace := ["slices.overlaps[loop.example/tern/impl.NatEntry]"], unfollowed := true, recurses := true, apart := false, narrowed := true }
def FnNatOrderUptoSaid : Prop := fnNatOrderUptoRow.holds Try.pinned (OpenSpec.upto fnNatOrderSpec)

/-- 'laws.FnNatThere', WHERE WHAT IT READS IS OF BULK AT MOST 1048576: true; the input reads as it did. -/
def fnNatThereUptoRow : OpenClaim := { program := "ytgjmgdncckdgoaa", sum := "23acc863fc0be8c71af04f1cf6461f9c2ab880a5ac4a2c8f9891fc45c9b4dffb", func := "loop.example/tern/laws.FnNatThere", spec := "fnNatThere", inPlace := ["slices.overlaps[loop.example/tern/impl.NatEntry]"], unfollowed := true, recurses := true, apart := false, narrowed := true }
def FnNatThereUptoSaid : Prop := fnNatThereUptoRow.holds Try.pinned (OpenSpec.upto fnNatThereSpec)

/-- 'laws.FnNatTop', WHERE WHAT IT READS IS OF BULK AT MOST 1048576: true; the input reads as it did. -/
def fnNatTopUptoRow : OpenClaim := { program := "ytgjmgdncckdgoaa", sum := "23acc863fc0be8c71af04f1cf6461f9c2ab880a5ac4a2c8f9891fc45c9b4dffb", func := "loop.example/tern/laws.FnNatTop", spec := "fnNatTop", inPlace := ["slices.overlaps[loop.example/tern/impl.NatEntry]"], unfollowed := true, recurses := true, apart := false, narrowed := true }
def FnNatTopUptoSaid : Prop := fnNatTopUptoRow.holds Try.pinned (OpenSpec.upto fnNatTopSpec)

/-- 'laws.FnExactNatOut', WHERE WHAT IT READS IS OF BULK AT MOST 1048576: true; the input reads as it did. -/
def fnExactNatOutUptoRow : OpenClaim := { program := "ytgjmgdncckdgoaa", sum := "23acc863fc0be8c71af04f1cf6461f9c2ab880a5ac4a2c8f9891fc45c9b4dffb", func := "loop.example/tern/laws.FnExactNatOut", spec := "fnExactNatOut", inPlace := ["slices.overlaps[loop.example/tern/impl.NatEntry]"], unfollowed := true, recurses := true, apart := false, narrowed := true }
def FnExactNatOutUptoSaid : Prop := fnExactNatOutUptoRow.holds Try.pinned (OpenSpec.upto fnExactNatOutSpec)

end Rows
end Go.Proofs.Ytgjmgdncckdgoaa
