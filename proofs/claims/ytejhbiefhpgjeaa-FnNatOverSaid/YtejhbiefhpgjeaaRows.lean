/-
  No cell of these rows narrows 'for every input' (looked for: loops, veiled, ifaces, maps, wideKeys, modest, calm, conditions, laid).
  DERIVED. THE GIVEN ROWS OF THIS SEAT. 4 by the template 'for every input the law returns true; each argument reads behind the call as it read before'; 0 by the template 'total and deterministic' (their statements: YtejhbiefhpgjeaaTotals.lean).
  GIVEN WITH THE SEED: the statements are not yours to turn. If you find one false, say at which input.
  Laid BY PROGRAM, IN A SANDBOX (cutbox-rows.mjs): the forced cells as the released guide's own fill.sh prints them over the translation bd4daf3420195490… (all of the seat's roots in one cut). By AI agents, Wed Nov 11 2026. No macro, syntax, notation, axiom, sorry.
-/
import Derived.Test.YtejhbiefhpgjeaaChecked
import GoSem.Claim
import GoSem.ClaimJoined
import GoSem.ClaimMapViews
import Derived.JoinedTies
import Derived.KernelRfl
namespace Go.Proofs.Ytejhbiefhpgjeaa
/- THE CELL 'sum', in the pinned program and in every row, IS THE sha256 OF THE DUMP (.gsa) THAT YtejhbiefhpgjeaaProg.lean LOADS. Nothing in Lean hashes anything: it is a label: what it is worth is what the hold of that sum in a sandbox is worth. -/
noncomputable def Try.pinned : Pinned := { name := "ytejhbiefhpgjeaa", sum := "bd4daf3420195490ec3cbb0a344891d23a615d4ad383ca8438b359bd72599f91", checked := Try.checked }
namespace Rows
def none {H : Type} : Left H := { results := [], args := [] }

/-- 'laws.FnTreeBest': WHATEVER THE INPUT: true; the input reads as it did. -/
def fnTreeBestSpec : ChangeSpec := { name := "fnTreeBest", fn := fun _ => fun
  | [d] => { results := [.lit (.bool true)], args := [d] }
  | _ => none }
def fnTreeBestRow : OpenClaim := { program := "ytejhbiefhpgjeaa", sum := "bd4daf3420195490ec3cbb0a344891d23a615d4ad383ca8438b359bd72599f91", func := "loop.example/tern/laws.FnTreeBest", spec := "fnTreeBest", unfollowed := true, recurses := true, apart := false }
def FnTreeBestSaid : Prop := fnTreeBestRow.holds Try.pinned (OpenSpec.ofChange fnTreeBestSpec)

/-- ITS FALSE NEIGHBOUR: 'it returns false'. Refute it at one input. -/
def fnTreeBestWrong : ChangeSpec := { name := "fnTreeBest", fn := fun _ => fun
  | [d] => { results := [.lit (.bool false)], args := [d] }
  | _ => none }
def FnTreeBestWrongFalsely : Prop := fnTreeBestRow.holds Try.pinned (OpenSpec.ofChange fnTreeBestWrong)

/-- 'laws.FnExactNatTick': WHATEVER THE INPUT: true; the input reads as it did. -/
def fnExactNatTickSpec : ChangeSpec := { name := "fnExactNatTick", fn := fun _ => fun
  | [d] => { results := [.lit (.bool true)], args := [d] }
  | _ => none }
def fnExactNatTickRow : OpenClaim := { program := "ytejhbiefhpgjeaa", sum := "bd4daf3420195490ec3cbb0a344891d23a615d4ad383ca8438b359bd72599f91", func := "loop.example/tern/laws.FnExactNatTick", spec := "fnExactNatTick", unfollowed := true, recurses := true, apart := false }
def FnExactNatTickSaid : Prop := fnExactNatTickRow.holds Try.pinned (OpenSpec.ofChange fnExactNatTickSpec)

/-- ITS FALSE NEIGHBOUR: 'it returns false'. Refute it at one input. -/
def fnExactNatTickWrong : ChangeSpec := { name := "fnExactNatTick", fn := fun _ => fun
  | [d] => { results := [.lit (.bool false)], args := [d] }
  | _ => none }
def FnExactNatTickWrongFalsely : Prop := fnExactNatTickRow.holds Try.pinned (OpenSpec.ofChange fnExactNatTickWrong)

/-- 'laws.FnNatOver': WHATEVER THE INPUT: true; the input reads as it did. -/
def fnNatOverSpec : ChangeSpec := { name := "fnNatOver", fn := fun _ => fun
  | [d1, d2] => { results := [.lit (.bool true)], args := [d1, d2] }
  | _ => none }
def fnNatOverRow : OpenClaim := { program := "ytejhbiefhpgjeaa", sum := "bd4daf3420195490ec3cbb0a344891d23a615d4ad383ca8438b359bd72599f91", func := "loop.example/tern/laws.FnNatOver", spec := "fnNatOver", unfollowed := true, recurses := true, apart := false }
def FnNatOverSaid : Prop := fnNatOverRow.holds Try.pinned (OpenSpec.ofChange fnNatOverSpec)

/-- ITS FALSE NEIGHBOUR: 'it returns false'. Refute it at one input. -/
def fnNatOverWrong : ChangeSpec := { name := "fnNatOver", fn := fun _ => fun
  | [d1, d2] => { results := [.lit (.bool false)], args := [d1, d2] }
  | _ => none }
def FnNatOverWrongFalsely : Prop := fnNatOverRow.holds Try.pinned (OpenSpec.ofChange fnNatOverWrong)

/-- 'laws.FnExactNatOut': WHATEVER THE INPUT: true; the input reads as it did. -/
def fnExactNatOutSpec : ChangeSpec := { name := "fnExactNatOut", fn := fun _ => fun
  | [d1, d2] => { results := [.lit (.bool true)], args := [d1, d2] }
  | _ => none }
def fnExactNatOutRow : OpenClaim := { program := "ytejhbiefhpgjeaa", sum := "bd4daf3420195490ec3cbb0a344891d23a615d4ad383ca8438b359bd72599f91", func := "loop.example/tern/laws.FnExactNatOut", spec := "fnExactNatOut", inPlace := ["slices.overlaps[loop.example/tern/impl.NatEntry]"], unfollowed := true, recurses := true, apart := false }
def FnExactNatOutSaid : Prop := fnExactNatOutRow.holds Try.pinned (OpenSpec.ofChange fnExactNatOutSpec)

/-- ITS FALSE NEIGHBOUR: 'it returns false'. Refute it at one input. -/
def fnExactNatOutWrong : ChangeSpec := { name := "fnExactNatOut", fn := fun _ => fun
  | [d1, d2] => { results := [.lit (.bool false)], args := [d1, d2] }
  | _ => none }
def FnExactNatOutWrongFalsely : Prop := fnExactNatOutRow.holds Try.pinned (OpenSpec.ofChange fnExactNatOutWrong)

/- THE SECOND FORM. 'bulk': how many values and letters a reading holds, each counted each time it is reached (what is shared counts as often as it is met; a slice's spare places count too). A statement '..UptoSaid' is the law's where the arguments, and the package variables that the reading takes, are together of bulk at most 1048576: NARROWER than '..Said'. Prove '..Said' where nothing that the law and all that it calls make is longer than what came in: it says more and counts as full. Else prove '..UptoSaid'. A law counts once. -/
mutual
def uptoBulk {H : Type} : DataW H → Nat
  | .lit (.string bytes) => bytes.length + 1
  | .lit _ => 1
  | .nil => 1
  | .ptr d => uptoBulk d + 1
  | .slice elems spare => uptoBulkAll elems + uptoBulkAll spare + 1
  | .agg parts => uptoBulkAll parts + 1
  | .iface _ d => uptoBulk d + 1
  | .map entries => uptoBulkEntries entries + 1
  | .held _ => 1
def uptoBulkAll {H : Type} : List (DataW H) → Nat
  | [] => 0
  | d :: r => uptoBulk d + uptoBulkAll r
def uptoBulkEntries {H : Type} : List (Lit × DataW H) → Nat
  | [] => 0
  | x :: r => uptoBulkEntry x + uptoBulkEntries r
def uptoBulkEntry {H : Type} : Lit × DataW H → Nat
  | (.string bytes, d) => bytes.length + uptoBulk d + 1
  | (_, d) => uptoBulk d + 1
 end
def uptoSmall : (H : Type) → List (DataW H) → Bool := fun _ ds => decide (uptoBulkAll ds ≤ 1048576)
def OpenSpec.upto (s : _root_.Go.ChangeSpec) : _root_.Go.OpenSpec := { _root_.Go.OpenSpec.ofChange s with cond := some uptoSmall }

/-- 'laws.FnTreeBest', WHERE WHAT IT READS IS OF BULK AT MOST 1048576: true; the input reads as it did. -/
def fnTreeBestUptoRow : OpenClaim := { program := "ytejhbiefhpgjeaa", sum := "bd4daf3420195490ec3cbb0a344891d23a615d4ad383ca8438b359bd72599f91", func := "loop.example/tern/laws.FnTreeBest", spec := "fnTreeBest", unfollowed := true, recurses := true, apart := false, narrowed := true }
def FnTreeBestUptoSaid : Prop := fnTreeBestUptoRow.holds Try.pinned (OpenSpec.upto fnTreeBestSpec)

/-- 'laws.FnExactNatTick', WHERE WHAT IT READS IS OF BULK AT MOST 1048576: true; the input reads as it did. -/
def fnExactNatTickUptoRow : OpenClaim := { program := "ytejhbiefhpgjeaa", sum := "bd4daf3420195490ec3cbb0a344891d23a615d4ad383ca8438b359bd72599f91", func := "loop.example/tern/laws.FnExactNatTick", spec := "fnExactNatTick", unfollowed := true, recurses := true, apart := false, narrowed := true }
def FnExactNatTickUptoSaid : Prop := fnExactNatTickUptoRow.holds Try.pinned (OpenSpec.upto fnExactNatTickSpec)

/-- 'laws.FnNatOver', WHERE WHAT IT READS IS OF BULK AT MOST 1048576: true; the input reads as it did. -/
def fnNatOverUptoRow : OpenClaim := { program := "ytejhbiefhpgjeaa", sum := "bd4daf3420195490ec3cbb0a344891d23a615d4ad383ca8438b359bd72599f91", func := "loop.example/tern/laws.FnNatOver", spec := "fnNatOver", unfollowed := true, recurses := true, apart := false, narrowed := true }
def FnNatOverUptoSaid : Prop := fnNatOverUptoRow.holds Try.pinned (OpenSpec.upto fnNatOverSpec)

/-- 'laws.FnExactNatOut', WHERE WHAT IT READS IS OF BULK AT MOST 1048576: true; the input reads as it did. -/
def fnExactNatOutUptoRow : OpenClaim := { program := "ytejhbiefhpgjeaa", sum := "bd4daf3420195490ec3cbb0a344891d23a615d4ad383ca8438b359bd72599f91", func := "loop.example/tern/laws.FnExactNatOut", spec := "fnExactNatOut", inPlace := ["slices.overlaps[loop.example/tern/impl.NatEntry]"], unfollowed := true, recurses := true, apart := false, narrowed := true }
def FnExactNatOutUptoSaid : Prop := fnExactNatOutUptoRow.holds Try.pinned (OpenSpec.upto fnExactNatOutSpec)

end Rows
end Go.Proofs.Ytejhbiefhpgjeaa
