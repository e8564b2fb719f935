/-
  No cell of these rows narrows 'for every input' (looked for: loops, veiled, ifaces, maps, wideKeys, modest, calm, conditions, laid).
  DERIVED. THE GIVEN ROWS OF THIS SEAT. 6 by the template 'for every input the law returns true; each argument reads behind the call as it read before'; 0 by the template 'total and deterministic' (their statements: YtafklggkpofgmaaTotals.lean).
  GIVEN WITH THE SEED: the statements are not yours to turn. If you find one false, say at which input.
  Laid BY PROGRAM, IN A SANDBOX (cutbox-rows.mjs): the forced cells as the released guide's own fill.sh prints them over the translation e9646b26e93ca4c1… (all of the seat's roots in one cut). By AI agents, Wed Nov 11 2026. No macro, syntax, notation, axiom, sorry.
-/
import Derived.Test.YtafklggkpofgmaaChecked
import GoSem.Claim
import GoSem.ClaimJoined
import GoSem.ClaimMapViews
import Derived.JoinedTies
import Derived.KernelRfl
namespace Go.Proofs.Ytafklggkpofgmaa
/- THE CELL 'sum', in the pinned program and in every row, IS THE sha256 OF THE DUMP (.gsa) THAT YtafklggkpofgmaaProg.lean LOADS. Nothing in Lean hashes anything: it is a label: what it is worth is what the hold of that sum in a sandbox is worth. -/
noncomputable def Try.pinned : Pinned := { name := "ytafklggkpofgmaa", sum := "e9646b26e93ca4c1b7736ac0b44cb0fb3639fcb31402a8b29455b20aa471f25a", checked := Try.checked }
namespace Rows
def none {H : Type} : Left H := { results := [], args := [] }

/-- 'laws.FnExactTreeLinksOk': WHATEVER THE INPUT: true; the input reads as it did. -/
def fnExactTreeLinksOkSpec : ChangeSpec := { name := "fnExactTreeLinksOk", fn := fun _ => fun
  | [d1, d2] => { results := [.lit (.bool true)], args := [d1, d2] }
  | _ => none }
def fnExactTreeLinksOkRow : OpenClaim := { program := "ytafklggkpofgmaa", sum := "e9646b26e93ca4c1b7736ac0b44cb0fb3639fcb31402a8b29455b20aa471f25a", func := "loop.example/tern/laws.FnExactTreeLinksOk", spec := "fnExactTreeLinksOk", apart := false }
def FnExactTreeLinksOkSaid : Prop := fnExactTreeLinksOkRow.holds Try.pinned (OpenSpec.ofChange fnExactTreeLinksOkSpec)

/-- ITS FALSE NEIGHBOUR: 'it returns false'. Refute it at one input. -/
def fnExactTreeLinksOkWrong : ChangeSpec := { name := "fnExactTreeLinksOk", fn := fun _ => fun
  | [d1, d2] => { results := [.lit (.bool false)], args := [d1, d2] }
  | _ => none }
def FnExactTreeLinksOkWrongFalsely : Prop := fnExactTreeLinksOkRow.holds Try.pinned (OpenSpec.ofChange fnExactTreeLinksOkWrong)

/-- 'laws.FnExactAclSays': WHATEVER THE INPUT: true; the input reads as it did. -/
def fnExactAclSaysSpec : ChangeSpec := { name := "fnExactAclSays", fn := fun _ => fun
  | [d1, d2] => { results := [.lit (.bool true)], args := [d1, d2] }
  | _ => none }
def fnExactAclSaysRow : OpenClaim := { program := "ytafklggkpofgmaa", sum := "e9646b26e93ca4c1b7736ac0b44cb0fb3639fcb31402a8b29455b20aa471f25a", func := "loop.example/tern/laws.FnExactAclSays", spec := "fnExactAclSays", unfollowed := true, recurses := true, apart := false }
def FnExactAclSaysSaid : Prop := fnExactAclSaysRow.holds Try.pinned (OpenSpec.ofChange fnExactAclSaysSpec)

/-- ITS FALSE NEIGHBOUR: 'it returns false'. Refute it at one input. -/
def fnExactAclSaysWrong : ChangeSpec := { name := "fnExactAclSays", fn := fun _ => fun
  | [d1, d2] => { results := [.lit (.bool false)], args := [d1, d2] }
  | _ => none }
def FnExactAclSaysWrongFalsely : Prop := fnExactAclSaysRow.holds Try.pinned (OpenSpec.ofChange fnExactAclSaysWrong)

/-- 'laws.FnAclSays': WHATEVER THE INPUT: true; the input reads as it did. -/
def fnAclSaysSpec : ChangeSpec := { name := "fnAclSays", fn := fun _ => fun
  | [d] => { results := [.lit (.bool true)], args := [d] }
  | _ => none }
def fnAclSaysRow : OpenClaim := { program := "ytafklggkpofgmaa", sum := "e9646b26e93ca4c1b7736ac0b44cb0fb3639fcb31402a8b29455b20aa471f25a", func := "loop.example/tern/laws.FnAclSays", spec := "fnAclSays", unfollowed := true, recurses := true, apart := false }
def FnAclSaysSaid : Prop := fnAclSaysRow.holds Try.pinned (OpenSpec.ofChange fnAclSaysSpec)

/-- ITS FALSE NEIGHBOUR: 'it returns false'. Refute it at one input. -/
def fnAclSaysWrong : ChangeSpec := { name := "fnAclSays", fn := fun _ => fun
  | [d] => { results := [.lit (.bool false)], args := [d] }
  | _ => none }
def FnAclSaysWrongFalsely : Prop := fnAclSaysRow.holds Try.pinned (OpenSpec.ofChange fnAclSaysWrong)

/-- 'laws.FnExactNatBookOk': WHATEVER THE INPUT: true; the input reads as it did. -/
def fnExactNatBookOkSpec : ChangeSpec := { name := "fnExactNatBookOk", fn := fun _ => fun
  | [d] => { results := [.lit (.bool true)], args := [d] }
  | _ => none }
def fnExactNatBookOkRow : OpenClaim := { program := "ytafklggkpofgmaa", sum := "e9646b26e93ca4c1b7736ac0b44cb0fb3639fcb31402a8b29455b20aa471f25a", func := "loop.example/tern/laws.FnExactNatBookOk", spec := "fnExactNatBookOk", apart := false }
def FnExactNatBookOkSaid : Prop := fnExactNatBookOkRow.holds Try.pinned (OpenSpec.ofChange fnExactNatBookOkSpec)

/-- ITS FALSE NEIGHBOUR: 'it returns false'. Refute it at one input. -/
def fnExactNatBookOkWrong : ChangeSpec := { name := "fnExactNatBookOk", fn := fun _ => fun
  | [d] => { results := [.lit (.bool false)], args := [d] }
  | _ => none }
def FnExactNatBookOkWrongFalsely : Prop := fnExactNatBookOkRow.holds Try.pinned (OpenSpec.ofChange fnExactNatBookOkWrong)

/-- 'laws.FnExactNatInside': WHATEVER THE INPUT: true; the input reads as it did. -/
def fnExactNatInsideSpec : ChangeSpec := { name := "fnExactNatInside", fn := fun _ => fun
  | [d1, d2] => { results := [.lit (.bool true)], args := [d1, d2] }
  | _ => none }
def fnExactNatInsideRow : OpenClaim := { program := "ytafklggkpofgmaa", sum := "e9646b26e93ca4c1b7736ac0b44cb0fb3639fcb31402a8b29455b20aa471f25a", func := "loop.example/tern/laws.FnExactNatInside", spec := "fnExactNatInside", apart := false }
def FnExactNatInsideSaid : Prop := fnExactNatInsideRow.holds Try.pinned (OpenSpec.ofChange fnExactNatInsideSpec)

/-- ITS FALSE NEIGHBOUR: 'it returns false'. Refute it at one input. -/
def fnExactNatInsideWrong : ChangeSpec := { name := "fnExactNatInside", fn := fun _ => fun
  | [d1, d2] => { results := [.lit (.bool false)], args := [d1, d2] }
  | _ => none }
def FnExactNatInsideWrongFalsely : Prop := fnExactNatInsideRow.holds Try.pinned (OpenSpec.ofChange fnExactNatInsideWrong)

/-- 'laws.FnTreeOpen': WHATEVER THE INPUT: true; the input reads as it did. -/
def fnTreeOpenSpec : ChangeSpec := { name := "fnTreeOpen", fn := fun _ => fun
  | [d] => { results := [.lit (.bool true)], args := [d] }
  | _ => none }
def fnTreeOpenRow : OpenClaim := { program := "ytafklggkpofgmaa", sum := "e9646b26e93ca4c1b7736ac0b44cb0fb3639fcb31402a8b29455b20aa471f25a", func := "loop.example/tern/laws.FnTreeOpen", spec := "fnTreeOpen", unfollowed := true, recurses := true, apart := false }
def FnTreeOpenSaid : Prop := fnTreeOpenRow.holds Try.pinned (OpenSpec.ofChange fnTreeOpenSpec)

/-- ITS FALSE NEIGHBOUR: 'it returns false'. Refute it at one input. -/
def fnTreeOpenWrong : ChangeSpec := { name := "fnTreeOpen", fn := fun _ => fun
  | [d] => { results := [.lit (.bool false)], args := [d] }
  | _ => none }
def FnTreeOpenWrongFalsely : Prop := fnTreeOpenRow.holds Try.pinned (OpenSpec.ofChange fnTreeOpenWrong)

/- THE SECOND FORM. 'bulk': how many values and letters a reading holds, each counted each time it is reached (what is shared counts as often as it is met; a slice's spare places count too). A statement '..UptoSaid' is the law's where the arguments, and the package variables that the reading takes, are together of bulk at most 1048576: NARROWER than '..Said'. Prove '..Said' where nothing that the law and all that it calls make is longer than what came in: it says more and counts as full. Else prove '..UptoSaid'. A law counts once. -/
mutual
def uptoBulk {H : Type} : DataW H → Nat
  | .lit (.string bytes) => bytes.length + 1
  | .lit _ => 1
  | .nil => 1
  | .ptr d => uptoBulk d + 1
  | .slice elems spare => uptoBulkAll elems + uptoBulkAll spare + 1
  | .agg parts => uptoBulkAll parts + 1
  | .iface _ d => uptoBulk d + 1
  | .map entries => uptoBulkEntries entries + 1
  | .held _ => 1
def uptoBulkAll {H : Type} : List (DataW H) → Nat
  | [] => 0
  | d :: r => uptoBulk d + uptoBulkAll r
def uptoBulkEntries {H : Type} : List (Lit × DataW H) → Nat
  | [] => 0
  | x :: r => uptoBulkEntry x + uptoBulkEntries r
def uptoBulkEntry {H : Type} : Lit × DataW H → Nat
  | (.string bytes, d) => bytes.length + uptoBulk d + 1
  | (_, d) => uptoBulk d + 1
 end
def uptoSmall : (H : Type) → List (DataW H) → Bool := fun _ ds => decide (uptoBulkAll ds ≤ 1048576)
def OpenSpec.upto (s : _root_.Go.ChangeSpec) : _root_.Go.OpenSpec := { _root_.Go.OpenSpec.ofChange s with cond := some uptoSmall }

/-- 'laws.FnExactTreeLinksOk', WHERE WHAT IT READS IS OF BULK AT MOST 1048576: true; the input reads as it did. -/
def fnExactTreeLinksOkUptoRow : OpenClaim := { program := "ytafklggkpofgmaa", sum := "e9646b26e93ca4c1b7736ac0b44cb0fb3639fcb31402a8b29455b20aa471f25a", func := "loop.example/tern/laws.FnExactTreeLinksOk", spec := "fnExactTreeLinksOk", apart := false, narrowed := true }
def FnExactTreeLinksOkUptoSaid : Prop := fnExactTreeLinksOkUptoRow.holds Try.pinned (OpenSpec.upto fnExactTreeLinksOkSpec)

/-- 'laws.FnExactAclSays', WHERE WHAT IT READS IS OF BULK AT MOST 1048576: true; the input reads as it did. -/
def fnExactAclSaysUptoRow : OpenClaim := { program := "ytafklggkpofgmaa", sum := "e9646b26e93ca4c1b7736ac0b44cb0fb3639fcb31402a8b29455b20aa471f25a", func := "loop.example/tern/laws.FnExactAclSays", spec := "fnExactAclSays", unfollowed := true, recurses := true, apart := false, narrowed := true }
def FnExactAclSaysUptoSaid : Prop := fnExactAclSaysUptoRow.holds Try.pinned (OpenSpec.upto fnExactAclSaysSpec)

/-- 'laws.FnAclSays', WHERE WHAT IT READS IS OF BULK AT MOST 1048576: true; the input reads as it did. -/
def fnAclSaysUptoRow : OpenClaim := { program := "ytafklggkpofgmaa", sum := "e9646b26e93ca4c1b7736ac0b44cb0fb3639fcb31402a8b29455b20aa471f25a", func := "loop.example/tern/laws.FnAclSays", spec := "fnAclSays", unfollowed := true, recurses := true, apart := false, narrowed := true }
def FnAclSaysUptoSaid : Prop := fnAclSaysUptoRow.holds Try.pinned (OpenSpec.upto fnAclSaysSpec)

/-- 'laws.FnExactNatBookOk', WHERE WHAT IT READS IS OF BULK AT MOST 1048576: true; the input reads as it did. -/
def fnExactNatBookOkUptoRow : OpenClaim := { program := "ytafklggkpofgmaa", sum := "e9646b26e93ca4c1b7736ac0b44cb0fb3639fcb31402a8b29455b20aa471f25a", func := "loop.example/tern/laws.FnExactNatBookOk", spec := "fnExactNatBookOk", apart := false, narrowed := true }
def FnExactNatBookOkUptoSaid : Prop := fnExactNatBookOkUptoRow.holds Try.pinned (OpenSpec.upto fnExactNatBookOkSpec)

/-- 'laws.FnExactNatInside', WHERE WHAT IT READS IS OF BULK AT MOST 1048576: true; the input reads as it did. -/
def fnExactNatInsideUptoRow : OpenClaim := { program := "ytafklggkpofgmaa", sum := "e9646b26e93ca4c1b7736ac0b44cb0fb3639fcb31402a8b29455b20aa471f25a", func := "loop.example/tern/laws.FnExactNatInside", spec := "fnExactNatInside", apart := false, narrowed := true }
def FnExactNatInsideUptoSaid : Prop := fnExactNatInsideUptoRow.holds Try.pinned (OpenSpec.upto fnExactNatInsideSpec)

/-- 'laws.FnTreeOpen', WHERE WHAT IT READS IS OF BULK AT MOST 1048576: true; the input reads as it did. -/
def fnTreeOpenUptoRow : OpenClaim := { program := "ytafklggkpofgmaa", sum := "e9646b26e93ca4c1b7736ac0b44cb0fb3639fcb31402a8b29455b20aa471f25a", func := "loop.example/tern/laws.FnTreeOpen", spec := "fnTreeOpen", unfollowed := true, recurses := true, apart := false, narrowed := true }
def FnTreeOpenUptoSaid : Prop := fnTreeOpenUptoRow.holds Try.pinned (OpenSpec.upto fnTreeOpenSpec)

end Rows
end Go.Proofs.Ytafklggkpofgmaa
