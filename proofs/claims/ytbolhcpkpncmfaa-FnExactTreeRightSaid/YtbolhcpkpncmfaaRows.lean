/-
  No cell of these rows narrows 'for every input' (looked for: loops, veiled, ifaces, maps, wideKeys, modest, calm, conditions, laid).
  DERIVED. THE GIVEN ROWS OF THIS SEAT. 6 by the template 'for every input the law returns true; each argument reads behind the call as it read before'; 0 by the template 'total and deterministic' (their statements: YtbolhcpkpncmfaaTotals.lean).
  GIVEN WITH THE SEED: the statements are not yours to turn. If you find one false, say at which input.
  Laid BY PROGRAM, IN A SANDBOX (cutbox-rows.mjs): the forced cells as the released guide's own fill.sh prints them over the translation 536d4e6b2b6cada3… (all of the seat's roots in one cut). By AI agents, Wed Nov 11 2026. No macro, syntax, notation, axiom, sorry.
-/
import Derived.Test.YtbolhcpkpncmfaaChecked
import GoSem.Claim
import GoSem.ClaimJoined
import GoSem.ClaimMapViews
import Derived.JoinedTies
import Derived.KernelRfl
namespace Go.Proofs.Ytbolhcpkpncmfaa
/- THE CELL 'sum', in the pinned program and in every row, IS THE sha256 OF THE DUMP (.gsa) THAT YtbolhcpkpncmfaaProg.lean LOADS. Nothing in Lean hashes anything: it is a label: what it is worth is what the hold of that sum in a sandbox is worth. -/
noncomputable def Try.pinned : Pinned := { name := "ytbolhcpkpncmfaa", sum := "536d4e6b2b6cada3bf2434f84c189b59e42a60f6ff9d40365f566159a2b88644", checked := Try.checked }
namespace Rows
def none {H : Type} : Left H := { results := [], args := [] }

/-- 'laws.FnTreeOpen': WHATEVER THE INPUT: true; the input reads as it did. -/
def fnTreeOpenSpec : ChangeSpec := { name := "fnTreeOpen", fn := fun _ => fun
  | [d] => { results := [.lit (.bool true)], args := [d] }
  | _ => none }
def fnTreeOpenRow : OpenClaim := { program := "ytbolhcpkpncmfaa", sum := "536d4e6b2b6cada3bf2434f84c189b59e42a60f6ff9d40365f566159a2b88644", func := "loop.example/tern/laws.FnTreeOpen", spec := "fnTreeOpen", unfollowed := true, recurses := true, apart := false }
def FnTreeOpenSaid : Prop := fnTreeOpenRow.holds Try.pinned (OpenSpec.ofChange fnTreeOpenSpec)

/-- ITS FALSE NEIGHBOUR: 'it returns false'. Refute it at one input. -/
def fnTreeOpenWrong : ChangeSpec := { name := "fnTreeOpen", fn := fun _ => fun
  | [d] => { results := [.lit (.bool false)], args := [d] }
  | _ => none }
def FnTreeOpenWrongFalsely : Prop := fnTreeOpenRow.holds Try.pinned (OpenSpec.ofChange fnTreeOpenWrong)

/-- 'laws.FnExactTreeWorldOk': WHATEVER THE INPUT: true; the input reads as it did. -/
def fnExactTreeWorldOkSpec : ChangeSpec := { name := "fnExactTreeWorldOk", fn := fun _ => fun
  | [d] => { results := [.lit (.bool true)], args := [d] }
  | _ => none }
def fnExactTreeWorldOkRow : OpenClaim := { program := "ytbolhcpkpncmfaa", sum := "536d4e6b2b6cada3bf2434f84c189b59e42a60f6ff9d40365f566159a2b88644", func := "loop.example/tern/laws.FnExactTreeWorldOk", spec := "fnExactTreeWorldOk", unfollowed := true, recurses := true, apart := false }
def FnExactTreeWorldOkSaid : Prop := fnExactTreeWorldOkRow.holds Try.pinned (OpenSpec.ofChange fnExactTreeWorldOkSpec)

/-- ITS FALSE NEIGHBOUR: 'it returns false'. Refute it at one input. -/
def fnExactTreeWorldOkWrong : ChangeSpec := { name := "fnExactTreeWorldOk", fn := fun _ => fun
  | [d] => { results := [.lit (.bool false)], args := [d] }
  | _ => none }
def FnExactTreeWorldOkWrongFalsely : Prop := fnExactTreeWorldOkRow.holds Try.pinned (OpenSpec.ofChange fnExactTreeWorldOkWrong)

/-- 'laws.FnExactTreeThink': WHATEVER THE INPUT: true; the input reads as it did. -/
def fnExactTreeThinkSpec : ChangeSpec := { name := "fnExactTreeThink", fn := fun _ => fun
  | [d1, d2] => { results := [.lit (.bool true)], args := [d1, d2] }
  | _ => none }
def fnExactTreeThinkRow : OpenClaim := { program := "ytbolhcpkpncmfaa", sum := "536d4e6b2b6cada3bf2434f84c189b59e42a60f6ff9d40365f566159a2b88644", func := "loop.example/tern/laws.FnExactTreeThink", spec := "fnExactTreeThink", unfollowed := true, recurses := true, apart := false }
def FnExactTreeThinkSaid : Prop := fnExactTreeThinkRow.holds Try.pinned (OpenSpec.ofChange fnExactTreeThinkSpec)

/-- ITS FALSE NEIGHBOUR: 'it returns false'. Refute it at one input. -/
def fnExactTreeThinkWrong : ChangeSpec := { name := "fnExactTreeThink", fn := fun _ => fun
  | [d1, d2] => { results := [.lit (.bool false)], args := [d1, d2] }
  | _ => none }
def FnExactTreeThinkWrongFalsely : Prop := fnExactTreeThinkRow.holds Try.pinned (OpenSpec.ofChange fnExactTreeThinkWrong)

/-- 'laws.FnExactTreeOpenWorld': WHATEVER THE INPUT: true; the input reads as it did. -/
def fnExactTreeOpenWorldSpec : ChangeSpec := { name := "fnExactTreeOpenWorld", fn := fun _ => fun
  | [d1, d2] => { results := [.lit (.bool true)], args := [d1, d2] }
  | _ => none }
def fnExactTreeOpenWorldRow : OpenClaim := { program := "ytbolhcpkpncmfaa", sum := "536d4e6b2b6cada3bf2434f84c189b59e42a60f6ff9d40365f566159a2b88644", func := "loop.example/tern/laws.FnExactTreeOpenWorld", spec := "fnExactTreeOpenWorld", unfollowed := true, recurses := true, apart := false }
def FnExactTreeOpenWorldSaid : Prop := fnExactTreeOpenWorldRow.holds Try.pinned (OpenSpec.ofChange fnExactTreeOpenWorldSpec)

/-- ITS FALSE NEIGHBOUR: 'it returns false'. Refute it at one input. -/
def fnExactTreeOpenWorldWrong : ChangeSpec := { name := "fnExactTreeOpenWorld", fn := fun _ => fun
  | [d1, d2] => { results := [.lit (.bool false)], args := [d1, d2] }
  | _ => none }
def FnExactTreeOpenWorldWrongFalsely : Prop := fnExactTreeOpenWorldRow.holds Try.pinned (OpenSpec.ofChange fnExactTreeOpenWorldWrong)

/-- 'laws.FnExactTreePasses': WHATEVER THE INPUT: true; the input reads as it did. -/
def fnExactTreePassesSpec : ChangeSpec := { name := "fnExactTreePasses", fn := fun _ => fun
  | [d] => { results := [.lit (.bool true)], args := [d] }
  | _ => none }
def fnExactTreePassesRow : OpenClaim := { program := "ytbolhcpkpncmfaa", sum := "536d4e6b2b6cada3bf2434f84c189b59e42a60f6ff9d40365f566159a2b88644", func := "loop.example/tern/laws.FnExactTreePasses", spec := "fnExactTreePasses", unfollowed := true, recurses := true, apart := false }
def FnExactTreePassesSaid : Prop := fnExactTreePassesRow.holds Try.pinned (OpenSpec.ofChange fnExactTreePassesSpec)

/-- ITS FALSE NEIGHBOUR: 'it returns false'. Refute it at one input. -/
def fnExactTreePassesWrong : ChangeSpec := { name := "fnExactTreePasses", fn := fun _ => fun
  | [d] => { results := [.lit (.bool false)], args := [d] }
  | _ => none }
def FnExactTreePassesWrongFalsely : Prop := fnExactTreePassesRow.holds Try.pinned (OpenSpec.ofChange fnExactTreePassesWrong)

/-- 'laws.FnExactTreeRight': WHATEVER THE INPUT: true; the input reads as it did. -/
def fnExactTreeRightSpec : ChangeSpec := { name := "fnExactTreeRight", fn := fun _ => fun
  | [d] => { results := [.lit (.bool true)], args := [d] }
  | _ => none }
def fnExactTreeRightRow : OpenClaim := { program := "ytbolhcpkpncmfaa", sum := "536d4e6b2b6cada3bf2434f84c189b59e42a60f6ff9d40365f566159a2b88644", func := "loop.example/tern/laws.FnExactTreeRight", spec := "fnExactTreeRight", unfollowed := true, recurses := true, apart := false }
def FnExactTreeRightSaid : Prop := fnExactTreeRightRow.holds Try.pinned (OpenSpec.ofChange fnExactTreeRightSpec)

/-- ITS FALSE NEIGHBOUR: 'it returns false'. Refute it at one input. -/
def fnExactTreeRightWrong : ChangeSpec := { name := "fnExactTreeRight", fn := fun _ => fun
  | [d] => { results := [.lit (.bool false)], args := [d] }
  | _ => none }
def FnExactTreeRightWrongFalsely : Prop := fnExactTreeRightRow.holds Try.pinned (OpenSpec.ofChange fnExactTreeRightWrong)

/- THE SECOND FORM. 'bulk': how many values and letters a reading holds, each counted each time it is reached (what is shared counts as often as it is met; a slice's spare places count too). A statement '..UptoSaid' is the law's where the arguments, and the package variables that the reading takes, are together of bulk at most 1048576: NARROWER than '..Said'. Prove '..Said' where nothing that the law and all that it calls make is longer than what came in: it says more and counts as full. Else prove '..UptoSaid'. A law counts once. -/
mutual
def uptoBulk {H : Type} : DataW H → Nat
  | .lit (.string bytes) => bytes.length + 1
  | .lit _ => 1
  | .nil => 1
  | .ptr d => uptoBulk d + 1
  | .slice elems spare => uptoBulkAll elems + uptoBulkAll spare + 1
  | .agg parts => uptoBulkAll parts + 1
  | .iface _ d => uptoBulk d + 1
  | .map entries => uptoBulkEntries entries + 1
  | .held _ => 1
def uptoBulkAll {H : Type} : List (DataW H) → Nat
  | [] => 0
  | d :: r => uptoBulk d + uptoBulkAll r
def uptoBulkEntries {H : Type} : List (Lit × DataW H) → Nat
  | [] => 0
  | x :: r => uptoBulkEntry x + uptoBulkEntries r
def uptoBulkEntry {H : Type} : Lit × DataW H → Nat
  | (.string bytes, d) => bytes.length + uptoBulk d + 1
  | (_, d) => uptoBulk d + 1
 end
def uptoSmall : (H : Type) → List (DataW H) → Bool := fun _ ds => decide (uptoBulkAll ds ≤ 1048576)
def OpenSpec.upto (s : _root_.Go.ChangeSpec) : _root_.Go.OpenSpec := { _root_.Go.OpenSpec.ofChange s with cond := some uptoSmall }

/-- 'laws.FnTreeOpen', WHERE WHAT IT READS IS OF BULK AT MOST 1048576: true; the input reads as it did. -/
def fnTreeOpenUptoRow : OpenClaim := { program := "ytbolhcpkpncmfaa", sum := "536d4e6b2b6cada3bf2434f84c189b59e42a60f6ff9d40365f566159a2b88644", func := "loop.example/tern/laws.FnTreeOpen", spec := "fnTreeOpen", unfollowed := true, recurses := true, apart := false, narrowed := true }
def FnTreeOpenUptoSaid : Prop := fnTreeOpenUptoRow.holds Try.pinned (OpenSpec.upto fnTreeOpenSpec)

/-- 'laws.FnExactTreeWorldOk', WHERE WHAT IT READS IS OF BULK AT MOST 1048576: true; the input reads as it did. -/
def fnExactTreeWorldOkUptoRow : OpenClaim := { program := "ytbolhcpkpncmfaa", sum := "536d4e6b2b6cada3bf2434f84c189b59e42a60f6ff9d40365f566159a2b88644", func := "loop.example/tern/laws.FnExactTreeWorldOk", spec := "fnExactTreeWorldOk", unfollowed := true, recurses := true, apart := false, narrowed := true }
def FnExactTreeWorldOkUptoSaid : Prop := fnExactTreeWorldOkUptoRow.holds Try.pinned (OpenSpec.upto fnExactTreeWorldOkSpec)

/-- 'laws.FnExactTreeThink', WHERE WHAT IT READS IS OF BULK AT MOST 1048576: true; the input reads as it did. -/
def fnExactTreeThinkUptoRow : OpenClaim := { program := "ytbolhcpkpncmfaa", sum := "536d4e6b2b6cada3bf2434f84c189b59e42a60f6ff9d40365f566159a2b88644", func := "loop.example/tern/laws.FnExactTreeThink", spec := "fnExactTreeThink", unfollowed := true, recurses := true, apart := false, narrowed := true }
def FnExactTreeThinkUptoSaid : Prop := fnExactTreeThinkUptoRow.holds Try.pinned (OpenSpec.upto fnExactTreeThinkSpec)

/-- 'laws.FnExactTreeOpenWorld', WHERE WHAT IT READS IS OF BULK AT MOST 1048576: true; the input reads as it did. -/
def fnExactTreeOpenWorldUptoRow : OpenClaim := { program := "ytbolhcpkpncmfaa", sum := "536d4e6b2b6cada3bf2434f84c189b59e42a60f6ff9d40365f566159a2b88644", func := "loop.example/tern/laws.FnExactTreeOpenWorld", spec := "fnExactTreeOpenWorld", unfollowed := true, recurses := true, apart := false, narrowed := true }
def FnExactTreeOpenWorldUptoSaid : Prop := fnExactTreeOpenWorldUptoRow.holds Try.pinned (OpenSpec.upto fnExactTreeOpenWorldSpec)

/-- 'laws.FnExactTreePasses', WHERE WHAT IT READS IS OF BULK AT MOST 1048576: true; the input reads as it did. -/
def fnExactTreePassesUptoRow : OpenClaim := { program := "ytbolhcpkpncmfaa", sum := "536d4e6b2b6cada3bf2434f84c189b59e42a60f6ff9d40365f566159a2b88644", func := "loop.example/tern/laws.FnExactTreePasses", spec := "fnExactTreePasses", unfollowed := true, recurses := true, apart := false, narrowed := true }
def FnExactTreePassesUptoSaid : Prop := fnExactTreePassesUptoRow.holds Try.pinned (OpenSpec.upto fnExactTreePassesSpec)

/-- 'laws.FnExactTreeRight', WHERE WHAT IT READS IS OF BULK AT MOST 1048576: true; the input reads as it did. -/
def fnExactTreeRightUptoRow : OpenClaim := { program := "ytbolhcpkpncmfaa", sum := "536d4e6b2b6cada3bf2434f84c189b59e42a60f6ff9d40365f566159a2b88644", func := "loop.example/tern/laws.FnExactTreeRight", spec := "fnExactTreeRight", unfollowed := true, recurses := true, apart := false, narrowed := true }
def FnExactTreeRightUptoSaid : Prop := fnExactTreeRightUptoRow.holds Try.pinned (OpenSpec.upto fnExactTreeRightSpec)

end Rows
end Go.Proofs.Ytbolhcpkpncmfaa
