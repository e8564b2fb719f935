/-
  No cell of these rows narrows 'for every input' (looked for: loops, veiled, ifaces, maps, wideKeys, modest, calm, conditions, laid).
  DERIVED. THE GIVEN ROWS OF THIS SEAT. 6 by the template 'for every input the law returns true; each argument reads behind the call as it read before'; 0 by the template 'total and deterministic' (their statements: YtkcmmigdhkalnaaTotals.lean).
  GIVEN WITH THE SEED: the statements are not yours to turn. If you find one false, say at which input.
  Laid BY PROGRAM, IN A SANDBOX (cutbox-rows.mjs): the forced cells as the released guide's own fill.sh prints them over the translation 6fc1ac60978ca0e9… (all of the seat's roots in one cut). By AI agents, Wed Nov 11 2026. No macro, syntax, notation, axiom, sorry.
-/
import Derived.Test.YtkcmmigdhkalnaaChecked
import GoSem.Claim
import GoSem.ClaimJoined
import GoSem.ClaimMapViews
import Derived.JoinedTies
import Derived.KernelRfl
namespace Go.Proofs.Ytkcmmigdhkalnaa
/- THE CELL 'sum', in the pinned program and in every row, IS THE sha256 OF THE DUMP (.gsa) THAT YtkcmmigdhkalnaaProg.lean LOADS. Nothing in Lean hashes anything: it is a label: what it is worth is what the hold of that sum in a sandbox is worth. -/
noncomputable def Try.pinned : Pinned := { name := "ytkcmmigdhkalnaa", sum := "6fc1ac60978ca0e989e68d71ad802e2616f2b8187ff8c57f65168acf881614a8", checked := Try.checked }
namespace Rows
def none {H : Type} : Left H := { results := [], args := [] }

/-- 'laws.FnExactNatBookOk': WHATEVER THE INPUT: true; the input reads as it did. -/
def fnExactNatBookOkSpec : ChangeSpec := { name := "fnExactNatBookOk", fn := fun _ => fun
  | [d] => { results := [.lit (.bool true)], args := [d] }
  | _ => none }
def fnExactNatBookOkRow : OpenClaim := { program := "ytkcmmigdhkalnaa", sum := "6fc1ac60978ca0e989e68d71ad802e2616f2b8187ff8c57f65168acf881614a8", func := "loop.example/tern/laws.FnExactNatBookOk", spec := "fnExactNatBookOk", apart := false }
def FnExactNatBookOkSaid : Prop := fnExactNatBookOkRow.holds Try.pinned (OpenSpec.ofChange fnExactNatBookOkSpec)

/-- ITS FALSE NEIGHBOUR: 'it returns false'. Refute it at one input. -/
def fnExactNatBookOkWrong : ChangeSpec := { name := "fnExactNatBookOk", fn := fun _ => fun
  | [d] => { results := [.lit (.bool false)], args := [d] }
  | _ => none }
def FnExactNatBookOkWrongFalsely : Prop := fnExactNatBookOkRow.holds Try.pinned (OpenSpec.ofChange fnExactNatBookOkWrong)

/-- 'laws.FnExactNatInside': WHATEVER THE INPUT: true; the input reads as it did. -/
def fnExactNatInsideSpec : ChangeSpec := { name := "fnExactNatInside", fn := fun _ => fun
  | [d1, d2] => { results := [.lit (.bool true)], args := [d1, d2] }
  | _ => none }
def fnExactNatInsideRow : OpenClaim := { program := "ytkcmmigdhkalnaa", sum := "6fc1ac60978ca0e989e68d71ad802e2616f2b8187ff8c57f65168acf881614a8", func := "loop.example/tern/laws.FnExactNatInside", spec := "fnExactNatInside", apart := false }
def FnExactNatInsideSaid : Prop := fnExactNatInsideRow.holds Try.pinned (OpenSpec.ofChange fnExactNatInsideSpec)

/-- ITS FALSE NEIGHBOUR: 'it returns false'. Refute it at one input. -/
def fnExactNatInsideWrong : ChangeSpec := { name := "fnExactNatInside", fn := fun _ => fun
  | [d1, d2] => { results := [.lit (.bool false)], args := [d1, d2] }
  | _ => none }
def FnExactNatInsideWrongFalsely : Prop := fnExactNatInsideRow.holds Try.pinned (OpenSpec.ofChange fnExactNatInsideWrong)

/-- 'laws.FnExactNatIn': WHATEVER THE INPUT: true; the input reads as it did. -/
def fnExactNatInSpec : ChangeSpec := { name := "fnExactNatIn", fn := fun _ => fun
  | [d1, d2] => { results := [.lit (.bool true)], args := [d1, d2] }
  | _ => none }
def fnExactNatInRow : OpenClaim := { program := "ytkcmmigdhkalnaa", sum := "6fc1ac60978ca0e989e68d71ad802e2616f2b8187ff8c57f65168acf881614a8", func := "loop.example/tern/laws.FnExactNatIn", spec := "fnExactNatIn", apart := false }
def FnExactNatInSaid : Prop := fnExactNatInRow.holds Try.pinned (OpenSpec.ofChange fnExactNatInSpec)

/-- ITS FALSE NEIGHBOUR: 'it returns false'. Refute it at one input. -/
def fnExactNatInWrong : ChangeSpec := { name := "fnExactNatIn", fn := fun _ => fun
  | [d1, d2] => { results := [.lit (.bool false)], args := [d1, d2] }
  | _ => none }
def FnExactNatInWrongFalsely : Prop := fnExactNatInRow.holds Try.pinned (OpenSpec.ofChange fnExactNatInWrong)

/-- 'laws.FnExactNatTick': WHATEVER THE INPUT: true; the input reads as it did. -/
def fnExactNatTickSpec : ChangeSpec := { name := "fnExactNatTick", fn := fun _ => fun
  | [d] => { results := [.lit (.bool true)], args := [d] }
  | _ => none }
def fnExactNatTickRow : OpenClaim := { program := "ytkcmmigdhkalnaa", sum := "6fc1ac60978ca0e989e68d71ad802e2616f2b8187ff8c57f65168acf881614a8", func := "loop.example/tern/laws.FnExactNatTick", spec := "fnExactNatTick", unfollowed := true, recurses := true, apart := false }
def FnExactNatTickSaid : Prop := fnExactNatTickRow.holds Try.pinned (OpenSpec.ofChange fnExactNatTickSpec)

/-- ITS FALSE NEIGHBOUR: 'it returns false'. Refute it at one input. -/
def fnExactNatTickWrong : ChangeSpec := { name := "fnExactNatTick", fn := fun _ => fun
  | [d] => { results := [.lit (.bool false)], args := [d] }
  | _ => none }
def FnExactNatTickWrongFalsely : Prop := fnExactNatTickRow.holds Try.pinned (OpenSpec.ofChange fnExactNatTickWrong)

/-- 'laws.FnNatIn': WHATEVER THE INPUT: true; the input reads as it did. -/
def fnNatInSpec : ChangeSpec := { name := "fnNatIn", fn := fun _ => fun
  | [d] => { results := [.lit (.bool true)], args := [d] }
  | _ => none }
def fnNatInRow : OpenClaim := { program := "ytkcmmigdhkalnaa", sum := "6fc1ac60978ca0e989e68d71ad802e2616f2b8187ff8c57f65168acf881614a8", func := "loop.example/tern/laws.FnNatIn", spec := "fnNatIn", apart := false }
def FnNatInSaid : Prop := fnNatInRow.holds Try.pinned (OpenSpec.ofChange fnNatInSpec)

/-- ITS FALSE NEIGHBOUR: 'it returns false'. Refute it at one input. -/
def fnNatInWrong : ChangeSpec := { name := "fnNatIn", fn := fun _ => fun
  | [d] => { results := [.lit (.bool false)], args := [d] }
  | _ => none }
def FnNatInWrongFalsely : Prop := fnNatInRow.holds Try.pinned (OpenSpec.ofChange fnNatInWrong)

/-- 'laws.FnNatOver': WHATEVER THE INPUT: true; the input reads as it did. -/
def fnNatOverSpec : ChangeSpec := { name := "fnNatOver", fn := fun _ => fun
  | [d1, d2] => { results := [.lit (.bool true)], args := [d1, d2] }
  | _ => none }
def fnNatOverRow : OpenClaim := { program := "ytkcmmigdhkalnaa", sum := "6fc1ac60978ca0e989e68d71ad802e2616f2b8187ff8c57f65168acf881614a8", func := "loop.example/tern/laws.FnNatOver", spec := "fnNatOver", unfollowed := true, recurses := true, apart := false }
def FnNatOverSaid : Prop := fnNatOverRow.holds Try.pinned (OpenSpec.ofChange fnNatOverSpec)

/-- ITS FALSE NEIGHBOUR: 'it returns false'. Refute it at one input. -/
def fnNatOverWrong : ChangeSpec := { name := "fnNatOver", fn := fun _ => fun
  | [d1, d2] => { results := [.lit (.bool false)], args := [d1, d2] }
  | _ => none }
def FnNatOverWrongFalsely : Prop := fnNatOverRow.holds Try.pinned (OpenSpec.ofChange fnNatOverWrong)

/- THE SECOND FORM. 'bulk': how many values and letters a reading holds, each counted each time it is reached (what is shared counts as often as it is met; a slice's spare places count too). A statement '..UptoSaid' is the law's where the arguments, and the package variables that the reading takes, are together of bulk at most 1048576: NARROWER than '..Said'. Prove '..Said' where nothing that the law and all that it calls make is longer than what came in: it says more and counts as full. Else prove '..UptoSaid'. A law counts once. -/
mutual
def uptoBulk {H : Type} : DataW H → Nat
  | .lit (.string bytes) => bytes.length + 1
  | .lit _ => 1
  | .nil => 1
  | .ptr d => uptoBulk d + 1
  | .slice elems spare => uptoBulkAll elems + uptoBulkAll spare + 1
  | .agg parts => uptoBulkAll parts + 1
  | .iface _ d => uptoBulk d + 1
  | .map entries => uptoBulkEntries entries + 1
  | .held _ => 1
def uptoBulkAll {H : Type} : List (DataW H) → Nat
  | [] => 0
  | d :: r => uptoBulk d + uptoBulkAll r
def uptoBulkEntries {H : Type} : List (Lit × DataW H) → Nat
  | [] => 0
  | x :: r => uptoBulkEntry x + uptoBulkEntries r
def uptoBulkEntry {H : Type} : Lit × DataW H → Nat
  | (.string bytes, d) => bytes.length + uptoBulk d + 1
  | (_, d) => uptoBulk d + 1
 end
def uptoSmall : (H : Type) → List (DataW H) → Bool := fun _ ds => decide (uptoBulkAll ds ≤ 1048576)
def OpenSpec.upto (s : _root_.Go.ChangeSpec) : _root_.Go.OpenSpec := { _root_.Go.OpenSpec.ofChange s with cond := some uptoSmall }

/-- 'laws.FnExactNatBookOk', WHERE WHAT IT READS IS OF BULK AT MOST 1048576: true; the input reads as it did. -/
def fnExactNatBookOkUptoRow : OpenClaim := { program := "ytkcmmigdhkalnaa", sum := "6fc1ac60978ca0e989e68d71ad802e2616f2b8187ff8c57f65168acf881614a8", func := "loop.example/tern/laws.FnExactNatBookOk", spec := "fnExactNatBookOk", apart := false, narrowed := true }
def FnExactNatBookOkUptoSaid : Prop := fnExactNatBookOkUptoRow.holds Try.pinned (OpenSpec.upto fnExactNatBookOkSpec)

/-- 'laws.FnExactNatInside', WHERE WHAT IT READS IS OF BULK AT MOST 1048576: true; the input reads as it did. -/
def fnExactNatInsideUptoRow : OpenClaim := { program := "ytkcmmigdhkalnaa", sum := "6fc1ac60978ca0e989e68d71ad802e2616f2b8187ff8c57f65168acf881614a8", func := "loop.example/tern/laws.FnExactNatInside", spec := "fnExactNatInside", apart := false, narrowed := true }
def FnExactNatInsideUptoSaid : Prop := fnExactNatInsideUptoRow.holds Try.pinned (OpenSpec.upto fnExactNatInsideSpec)

/-- 'laws.FnExactNatIn', WHERE WHAT IT READS IS OF BULK AT MOST 1048576: true; the input reads as it did. -/
def fnExactNatInUptoRow : OpenClaim := { program := "ytkcmmigdhkalnaa", sum := "6fc1ac60978ca0e989e68d71ad802e2616f2b8187ff8c57f65168acf881614a8", func := "loop.example/tern/laws.FnExactNatIn", spec := "fnExactNatIn", apart := false, narrowed := true }
def FnExactNatInUptoSaid : Prop := fnExactNatInUptoRow.holds Try.pinned (OpenSpec.upto fnExactNatInSpec)

/-- 'laws.FnExactNatTick', WHERE WHAT IT READS IS OF BULK AT MOST 1048576: true; the input reads as it did. -/
def fnExactNatTickUptoRow : OpenClaim := { program := "ytkcmmigdhkalnaa", sum := "6fc1ac60978ca0e989e68d71ad802e2616f2b8187ff8c57f65168acf881614a8", func := "loop.example/tern/laws.FnExactNatTick", spec := "fnExactNatTick", unfollowed := true, recurses := true, apart := false, narrowed := true }
def FnExactNatTickUptoSaid : Prop := fnExactNatTickUptoRow.holds Try.pinned (OpenSpec.upto fnExactNatTickSpec)

/-- 'laws.FnNatIn', WHERE WHAT IT READS IS OF BULK AT MOST 1048576: true; the input reads as it did. -/
def fnNatInUptoRow : OpenClaim := { program := "ytkcmmigdhkalnaa", sum := "6fc1ac60978ca0e989e68d71ad802e2616f2b8187ff8c57f65168acf881614a8", func := "loop.example/tern/laws.FnNatIn", spec := "fnNatIn", apart := false, narrowed := true }
def FnNatInUptoSaid : Prop := fnNatInUptoRow.holds Try.pinned (OpenSpec.upto fnNatInSpec)

/-- 'laws.FnNatOver', WHERE WHAT IT READS IS OF BULK AT MOST 1048576: true; the input reads as it did. -/
def fnNatOverUptoRow : OpenClaim := { program := "ytkcmmigdhkalnaa", sum := "6fc1ac60978ca0e989e68d71ad802e2616f2b8187ff8c57f65168acf881614a8", func := "loop.example/tern/laws.FnNatOver", spec := "fnNatOver", unfollowed := true, recurses := true, apart := false, narrowed := true }
def FnNatOverUptoSaid : Prop := fnNatOverUptoRow.holds Try.pinned (OpenSpec.upto fnNatOverSpec)

end Rows
end Go.Proofs.Ytkcmmigdhkalnaa
