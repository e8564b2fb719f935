/-
  No cell of these rows narrows 'for every input' (looked for: loops, veiled, ifaces, maps, wideKeys, modest, calm, conditions, laid).
  DERIVED. THE GIVEN ROWS OF THIS SEAT. 5 by the template 'for every input the law returns true; each argument reads behind the call as it read before'; 0 by the template 'total and deterministic' (their statements: YtfgmolljcgnafaaTotals.lean).
  GIVEN WITH THE SEED: the statements are not yours to turn. If you find one false, say at which input.
  Laid BY PROGRAM, IN A SANDBOX (cutbox-rows.mjs): the forced cells as the released guide's own fill.sh prints them over the translation 1a7d7bbde3584c5d… (all of the seat's roots in one cut). By AI agents, Wed Nov 11 2026. No macro, syntax, notation, axiom, sorry.
-/
import Derived.Test.YtfgmolljcgnafaaChecked
import GoSem.Claim
import GoSem.ClaimJoined
import GoSem.ClaimMapViews
import Derived.JoinedTies
import Derived.KernelRfl
namespace Go.Proofs.Ytfgmolljcgnafaa
/- THE CELL 'sum', in the pinned program and in every row, IS THE sha256 OF THE DUMP (.gsa) THAT YtfgmolljcgnafaaProg.lean LOADS. Nothing in Lean hashes anything: it is a label: what it is worth is what the hold of that sum in a sandbox is worth. -/
noncomputable def Try.pinned : Pinned := { name := "ytfgmolljcgnafaa", sum := "1a7d7bbde3584c5d98de0fd1547c14528f17f1dec87a9ceac75376f1d83549d2", checked := Try.checked }
namespace Rows
def none {H : Type} : Left H := { results := [], args := [] }

/-- 'laws.FnTreeBest': WHATEVER THE INPUT: true; the input reads as it did. -/
def fnTreeBestSpec : ChangeSpec := { name := "fnTreeBest", fn := fun _ => fun
  | [d] => { results := [.lit (.bool true)], args := [d] }
  | _ => none }
def fnTreeBestRow : OpenClaim := { program := "ytfgmolljcgnafaa", sum := "1a7d7bbde3584c5d98de0fd1547c14528f17f1dec87a9ceac75376f1d83549d2", func := "loop.example/tern/laws.FnTreeBest", spec := "fnTreeBest", unfollowed := true, recurses := true, apart := false }
def FnTreeBestSaid : Prop := fnTreeBestRow.holds Try.pinned (OpenSpec.ofChange fnTreeBestSpec)

/-- ITS FALSE NEIGHBOUR: 'it returns false'. Refute it at one input. -/
def fnTreeBestWrong : ChangeSpec := { name := "fnTreeBest", fn := fun _ => fun
  | [d] => { results := [.lit (.bool false)], args := [d] }
  | _ => none }
def FnTreeBestWrongFalsely : Prop := fnTreeBestRow.holds Try.pinned (OpenSpec.ofChange fnTreeBestWrong)

/-- 'laws.FnTreeStep': WHATEVER THE INPUT: true; the input reads as it did. -/
def fnTreeStepSpec : ChangeSpec := { name := "fnTreeStep", fn := fun _ => fun
  | [d] => { results := [.lit (.bool true)], args := [d] }
  | _ => none }
def fnTreeStepRow : OpenClaim := { program := "ytfgmolljcgnafaa", sum := "1a7d7bbde3584c5d98de0fd1547c14528f17f1dec87a9ceac75376f1d83549d2", func := "loop.example/tern/laws.FnTreeStep", spec := "fnTreeStep", inPlace := ["slices.overlaps[int]"], unfollowed := true, recurses := true, apart := false }
def FnTreeStepSaid : Prop := fnTreeStepRow.holds Try.pinned (OpenSpec.ofChange fnTreeStepSpec)

/-- ITS FALSE NEIGHBOUR: 'it returns false'. Refute it at one input. -/
def fnTreeStepWrong : ChangeSpec := { name := "fnTreeStep", fn := fun _ => fun
  | [d] => { results := [.lit (.bool false)], args := [d] }
  | _ => none }
def FnTreeStepWrongFalsely : Prop := fnTreeStepRow.holds Try.pinned (OpenSpec.ofChange fnTreeStepWrong)

/-- 'laws.FnTreeRounds': WHATEVER THE INPUT: true; the input reads as it did. -/
def fnTreeRoundsSpec : ChangeSpec := { name := "fnTreeRounds", fn := fun _ => fun
  | [d1, d2] => { results := [.lit (.bool true)], args := [d1, d2] }
  | _ => none }
def fnTreeRoundsRow : OpenClaim := { program := "ytfgmolljcgnafaa", sum := "1a7d7bbde3584c5d98de0fd1547c14528f17f1dec87a9ceac75376f1d83549d2", func := "loop.example/tern/laws.FnTreeRounds", spec := "fnTreeRounds", unfollowed := true, recurses := true, apart := false }
def FnTreeRoundsSaid : Prop := fnTreeRoundsRow.holds Try.pinned (OpenSpec.ofChange fnTreeRoundsSpec)

/-- ITS FALSE NEIGHBOUR: 'it returns false'. Refute it at one input. -/
def fnTreeRoundsWrong : ChangeSpec := { name := "fnTreeRounds", fn := fun _ => fun
  | [d1, d2] => { results := [.lit (.bool false)], args := [d1, d2] }
  | _ => none }
def FnTreeRoundsWrongFalsely : Prop := fnTreeRoundsRow.holds Try.pinned (OpenSpec.ofChange fnTreeRoundsWrong)

/-- 'laws.FnTreeTop': WHATEVER THE INPUT: true; the input reads as it did. -/
def fnTreeTopSpec : ChangeSpec := { name := "fnTreeTop", fn := fun _ => fun
  | [d1, d2] => { results := [.lit (.bool true)], args := [d1, d2] }
  | _ => none }
def fnTreeTopRow : OpenClaim := { program := "ytfgmolljcgnafaa", sum := "1a7d7bbde3584c5d98de0fd1547c14528f17f1dec87a9ceac75376f1d83549d2", func := "loop.example/tern/laws.FnTreeTop", spec := "fnTreeTop", unfollowed := true, recurses := true, apart := false }
def FnTreeTopSaid : Prop := fnTreeTopRow.holds Try.pinned (OpenSpec.ofChange fnTreeTopSpec)

/-- ITS FALSE NEIGHBOUR: 'it returns false'. Refute it at one input. -/
def fnTreeTopWrong : ChangeSpec := { name := "fnTreeTop", fn := fun _ => fun
  | [d1, d2] => { results := [.lit (.bool false)], args := [d1, d2] }
  | _ => none }
def FnTreeTopWrongFalsely : Prop := fnTreeTopRow.holds Try.pinned (OpenSpec.ofChange fnTreeTopWrong)

/-- 'laws.FnTreeFlood': WHATEVER THE INPUT: true; the input reads as it did. -/
def fnTreeFloodSpec : ChangeSpec := { name := "fnTreeFlood", fn := fun _ => fun
  | [d1, d2] => { results := [.lit (.bool true)], args := [d1, d2] }
  | _ => none }
def fnTreeFloodRow : OpenClaim := { program := "ytfgmolljcgnafaa", sum := "1a7d7bbde3584c5d98de0fd1547c14528f17f1dec87a9ceac75376f1d83549d2", func := "loop.example/tern/laws.FnTreeFlood", spec := "fnTreeFlood", unfollowed := true, recurses := true, apart := false }
def FnTreeFloodSaid : Prop := fnTreeFloodRow.holds Try.pinned (OpenSpec.ofChange fnTreeFloodSpec)

/-- ITS FALSE NEIGHBOUR: 'it returns false'. Refute it at one input. -/
def fnTreeFloodWrong : ChangeSpec := { name := "fnTreeFlood", fn := fun _ => fun
  | [d1, d2] => { results := [.lit (.bool false)], args := [d1, d2] }
  | _ => none }
def FnTreeFloodWrongFalsely : Prop := fnTreeFloodRow.holds Try.pinned (OpenSpec.ofChange fnTreeFloodWrong)

/- THE SECOND FORM. 'bulk': how many values and letters a reading holds, each counted each time it is reached (what is shared counts as often as it is met; a slice's spare places count too). A statement '..UptoSaid' is the law's where the arguments, and the package variables that the reading takes, are together of bulk at most 1048576: NARROWER than '..Said'. Prove '..Said' where nothing that the law and all that it calls make is longer than what came in: it says more and counts as full. Else prove '..UptoSaid'. A law counts once. -/
mutual
def uptoBulk {H : Type} : DataW H → Nat
  | .lit (.string bytes) => bytes.length + 1
  | .lit _ => 1
  | .nil => 1
  | .ptr d => uptoBulk d + 1
  | .slice elems spare => uptoBulkAll elems + uptoBulkAll spare + 1
  | .agg parts => uptoBulkAll parts + 1
  | .iface _ d => uptoBulk d + 1
  | .map entries => uptoBulkEntries entries + 1
  | .held _ => 1
def uptoBulkAll {H : Type} : List (DataW H) → Nat
  | [] => 0
  | d :: r => uptoBulk d + uptoBulkAll r
def uptoBulkEntries {H : Type} : List (Lit × DataW H) → Nat
  | [] => 0
  | x :: r => uptoBulkEntry x + uptoBulkEntries r
def uptoBulkEntry {H : Type} : Lit × DataW H → Nat
  | (.string bytes, d) => bytes.length + uptoBulk d + 1
  | (_, d) => uptoBulk d + 1
 end
def uptoSmall : (H : Type) → List (DataW H) → Bool := fun _ ds => decide (uptoBulkAll ds ≤ 1048576)
def OpenSpec.upto (s : _root_.Go.ChangeSpec) : _root_.Go.OpenSpec := { _root_.Go.OpenSpec.ofChange s with cond := some uptoSmall }

/-- 'laws.FnTreeBest', WHERE WHAT IT READS IS OF BULK AT MOST 1048576: true; the input reads as it did. -/
def fnTreeBestUptoRow : OpenClaim := { program := "ytfgmolljcgnafaa", sum := "1a7d7bbde3584c5d98de0fd1547c14528f17f1dec87a9ceac75376f1d83549d2", func := "loop.example/tern/laws.FnTreeBest", spec := "fnTreeBest", unfollowed := true, recurses := true, apart := false, narrowed := true }
def FnTreeBestUptoSaid : Prop := fnTreeBestUptoRow.holds Try.pinned (OpenSpec.upto fnTreeBestSpec)

/-- 'laws.FnTreeStep', WHERE WHAT IT READS IS OF BULK AT MOST 1048576: true; the input reads as it did. -/
def fnTreeStepUptoRow : OpenClaim := { program := "ytfgmolljcgnafaa", sum := "1a7d7bbde3584c5d98de0fd1547c14528f17f1dec87a9ceac75376f1d83549d2", func := "loop.example/tern/laws.FnTreeStep", spec := "fnTreeStep", inPlace := ["slices.overlaps[int]"], unfollowed := true, recurses := true, apart := false, narrowed := true }
def FnTreeStepUptoSaid : Prop := fnTreeStepUptoRow.holds Try.pinned (OpenSpec.upto fnTreeStepSpec)

/-- 'laws.FnTreeRounds', WHERE WHAT IT READS IS OF BULK AT MOST 1048576: true; the input reads as it did. -/
def fnTreeRoundsUptoRow : OpenClaim := { program := "ytfgmolljcgnafaa", sum := "1a7d7bbde3584c5d98de0fd1547c14528f17f1dec87a9ceac75376f1d83549d2", func := "loop.example/tern/laws.FnTreeRounds", spec := "fnTreeRounds", unfollowed := true, recurses := true, apart := false, narrowed := true }
def FnTreeRoundsUptoSaid : Prop := fnTreeRoundsUptoRow.holds Try.pinned (OpenSpec.upto fnTreeRoundsSpec)

/-- 'laws.FnTreeTop', WHERE WHAT IT READS IS OF BULK AT MOST 1048576: true; the input reads as it did. -/
def fnTreeTopUptoRow : OpenClaim := { program := "ytfgmolljcgnafaa", sum := "1a7d7bbde3584c5d98de0fd1547c14528f17f1dec87a9ceac75376f1d83549d2", func := "loop.example/tern/laws.FnTreeTop", spec := "fnTreeTop", unfollowed := true, recurses := true, apart := false, narrowed := true }
def FnTreeTopUptoSaid : Prop := fnTreeTopUptoRow.holds Try.pinned (OpenSpec.upto fnTreeTopSpec)

/-- 'laws.FnTreeFlood', WHERE WHAT IT READS IS OF BULK AT MOST 1048576: true; the input reads as it did. -/
def fnTreeFloodUptoRow : OpenClaim := { program := "ytfgmolljcgnafaa", sum := "1a7d7bbde3584c5d98de0fd1547c14528f17f1dec87a9ceac75376f1d83549d2", func := "loop.example/tern/laws.FnTreeFlood", spec := "fnTreeFlood", unfollowed := true, recurses := true, apart := false, narrowed := true }
def FnTreeFloodUptoSaid : Prop := fnTreeFloodUptoRow.holds Try.pinned (OpenSpec.upto fnTreeFloodSpec)

end Rows
end Go.Proofs.Ytfgmolljcgnafaa
