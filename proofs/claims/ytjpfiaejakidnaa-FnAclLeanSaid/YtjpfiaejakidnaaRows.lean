/-
  No cell of these rows narrows 'for every input' (looked for: loops, veiled, ifaces, maps, wideKeys, modest, calm, conditions, laid).
  DERIVED. THE GIVEN ROWS OF THIS SEAT. 6 by the template 'for every input the law returns true; each argument reads behind the call as it read before'; 0 by the template 'total and deterministic' (their statements: YtjpfiaejakidnaaTotals.lean).
  GIVEN WITH THE SEED: the statements are not yours to turn. If you find one false, say at which input.
  Laid BY PROGRAM, IN A SANDBOX (cutbox-rows.mjs): the forced cells as the released guide's own fill.sh prints them over the translation b684c7738ae4c975… (all of the seat's roots in one cut). By AI agents, Wed Nov 11 2026. No macro, syntax, notation, axiom, sorry.
-/
import Derived.Test.YtjpfiaejakidnaaChecked
import GoSem.Claim
import GoSem.ClaimJoined
import GoSem.ClaimMapViews
import Derived.JoinedTies
import Derived.KernelRfl
namespace Go.Proofs.Ytjpfiaejakidnaa
/- THE CELL 'sum', in the pinned program and in every row, IS THE sha256 OF THE DUMP (.gsa) THAT YtjpfiaejakidnaaProg.lean LOADS. Nothing in Lean hashes anything: it is a label: what it is worth is what the hold of that sum in a sandbox is worth. -/
noncomputable def Try.pinned : Pinned := { name := "ytjpfiaejakidnaa", sum := "b684c7738ae4c9759128d8a2db20305d6f450f64960f2c63dfd37893f0d7c230", checked := Try.checked }
namespace Rows
def none {H : Type} : Left H := { results := [], args := [] }

/-- 'laws.FnExactAclSays': WHATEVER THE INPUT: true; the input reads as it did. -/
def fnExactAclSaysSpec : ChangeSpec := { name := "fnExactAclSays", fn := fun _ => fun
  | [d1, d2] => { results := [.lit (.bool true)], args := [d1, d2] }
  | _ => none }
def fnExactAclSaysRow : OpenClaim := { program := "ytjpfiaejakidnaa", sum := "b684c7738ae4c9759128d8a2db20305d6f450f64960f2c63dfd37893f0d7c230", func := "loop.example/tern/laws.FnExactAclSays", spec := "fnExactAclSays", unfollowed := true, recurses := true, apart := false }
def FnExactAclSaysSaid : Prop := fnExactAclSaysRow.holds Try.pinned (OpenSpec.ofChange fnExactAclSaysSpec)

/-- ITS FALSE NEIGHBOUR: 'it returns false'. Refute it at one input. -/
def fnExactAclSaysWrong : ChangeSpec := { name := "fnExactAclSays", fn := fun _ => fun
  | [d1, d2] => { results := [.lit (.bool false)], args := [d1, d2] }
  | _ => none }
def FnExactAclSaysWrongFalsely : Prop := fnExactAclSaysRow.holds Try.pinned (OpenSpec.ofChange fnExactAclSaysWrong)

/-- 'laws.FnAclSays': WHATEVER THE INPUT: true; the input reads as it did. -/
def fnAclSaysSpec : ChangeSpec := { name := "fnAclSays", fn := fun _ => fun
  | [d] => { results := [.lit (.bool true)], args := [d] }
  | _ => none }
def fnAclSaysRow : OpenClaim := { program := "ytjpfiaejakidnaa", sum := "b684c7738ae4c9759128d8a2db20305d6f450f64960f2c63dfd37893f0d7c230", func := "loop.example/tern/laws.FnAclSays", spec := "fnAclSays", unfollowed := true, recurses := true, apart := false }
def FnAclSaysSaid : Prop := fnAclSaysRow.holds Try.pinned (OpenSpec.ofChange fnAclSaysSpec)

/-- ITS FALSE NEIGHBOUR: 'it returns false'. Refute it at one input. -/
def fnAclSaysWrong : ChangeSpec := { name := "fnAclSays", fn := fun _ => fun
  | [d] => { results := [.lit (.bool false)], args := [d] }
  | _ => none }
def FnAclSaysWrongFalsely : Prop := fnAclSaysRow.holds Try.pinned (OpenSpec.ofChange fnAclSaysWrong)

/-- 'laws.FnExactAclDiffer': WHATEVER THE INPUT: true; the input reads as it did. -/
def fnExactAclDifferSpec : ChangeSpec := { name := "fnExactAclDiffer", fn := fun _ => fun
  | [d1, d2] => { results := [.lit (.bool true)], args := [d1, d2] }
  | _ => none }
def fnExactAclDifferRow : OpenClaim := { program := "ytjpfiaejakidnaa", sum := "b684c7738ae4c9759128d8a2db20305d6f450f64960f2c63dfd37893f0d7c230", func := "loop.example/tern/laws.FnExactAclDiffer", spec := "fnExactAclDiffer", unfollowed := true, recurses := true, apart := false }
def FnExactAclDifferSaid : Prop := fnExactAclDifferRow.holds Try.pinned (OpenSpec.ofChange fnExactAclDifferSpec)

/-- ITS FALSE NEIGHBOUR: 'it returns false'. Refute it at one input. -/
def fnExactAclDifferWrong : ChangeSpec := { name := "fnExactAclDiffer", fn := fun _ => fun
  | [d1, d2] => { results := [.lit (.bool false)], args := [d1, d2] }
  | _ => none }
def FnExactAclDifferWrongFalsely : Prop := fnExactAclDifferRow.holds Try.pinned (OpenSpec.ofChange fnExactAclDifferWrong)

/-- 'laws.FnAclWitness': WHATEVER THE INPUT: true; the input reads as it did. -/
def fnAclWitnessSpec : ChangeSpec := { name := "fnAclWitness", fn := fun _ => fun
  | [d1, d2] => { results := [.lit (.bool true)], args := [d1, d2] }
  | _ => none }
def fnAclWitnessRow : OpenClaim := { program := "ytjpfiaejakidnaa", sum := "b684c7738ae4c9759128d8a2db20305d6f450f64960f2c63dfd37893f0d7c230", func := "loop.example/tern/laws.FnAclWitness", spec := "fnAclWitness", unfollowed := true, recurses := true, apart := false }
def FnAclWitnessSaid : Prop := fnAclWitnessRow.holds Try.pinned (OpenSpec.ofChange fnAclWitnessSpec)

/-- ITS FALSE NEIGHBOUR: 'it returns false'. Refute it at one input. -/
def fnAclWitnessWrong : ChangeSpec := { name := "fnAclWitness", fn := fun _ => fun
  | [d1, d2] => { results := [.lit (.bool false)], args := [d1, d2] }
  | _ => none }
def FnAclWitnessWrongFalsely : Prop := fnAclWitnessRow.holds Try.pinned (OpenSpec.ofChange fnAclWitnessWrong)

/-- 'laws.FnAclDiffer': WHATEVER THE INPUT: true; the input reads as it did. -/
def fnAclDifferSpec : ChangeSpec := { name := "fnAclDiffer", fn := fun _ => fun
  | [d1, d2] => { results := [.lit (.bool true)], args := [d1, d2] }
  | _ => none }
def fnAclDifferRow : OpenClaim := { program := "ytjpfiaejakidnaa", sum := "b684c7738ae4c9759128d8a2db20305d6f450f64960f2c63dfd37893f0d7c230", func := "loop.example/tern/laws.FnAclDiffer", spec := "fnAclDiffer", unfollowed := true, recurses := true, apart := false }
def FnAclDifferSaid : Prop := fnAclDifferRow.holds Try.pinned (OpenSpec.ofChange fnAclDifferSpec)

/-- ITS FALSE NEIGHBOUR: 'it returns false'. Refute it at one input. -/
def fnAclDifferWrong : ChangeSpec := { name := "fnAclDiffer", fn := fun _ => fun
  | [d1, d2] => { results := [.lit (.bool false)], args := [d1, d2] }
  | _ => none }
def FnAclDifferWrongFalsely : Prop := fnAclDifferRow.holds Try.pinned (OpenSpec.ofChange fnAclDifferWrong)

/-- 'laws.FnAclLean': WHATEVER THE INPUT: true; the input reads as it did. -/
def fnAclLeanSpec : ChangeSpec := { name := "fnAclLean", fn := fun _ => fun
  | [d1, d2] => { results := [.lit (.bool true)], args := [d1, d2] }
  | _ => none }
def fnAclLeanRow : OpenClaim := { program := "ytjpfiaejakidnaa", sum := "b684c7738ae4c9759128d8a2db20305d6f450f64960f2c63dfd37893f0d7c230", func := "loop.example/tern/laws.FnAclLean", spec := "fnAclLean", unfollowed := true, recurses := true, apart := false }
def FnAclLeanSaid : Prop := fnAclLeanRow.holds Try.pinned (OpenSpec.ofChange fnAclLeanSpec)

/-- ITS FALSE NEIGHBOUR: 'it returns false'. Refute it at one input. -/
def fnAclLeanWrong : ChangeSpec := { name := "fnAclLean", fn := fun _ => fun
  | [d1, d2] => { results := [.lit (.bool false)], args := [d1, d2] }
  | _ => none }
def FnAclLeanWrongFalsely : Prop := fnAclLeanRow.holds Try.pinned (OpenSpec.ofChange fnAclLeanWrong)

/- THE SECOND FORM. 'bulk': how many values and letters a reading holds, each counted each time it is reached (what is shared counts as often as it is met; a slice's spare places count too). A statement '..UptoSaid' is the law's where the arguments, and the package variables that the reading takes, are together of bulk at most 1048576: NARROWER than '..Said'. Prove '..Said' where nothing that the law and all that it calls make is longer than what came in: it says more and counts as full. Else prove '..UptoSaid'. A law counts once. -/
mutual
def uptoBulk {H : Type} : DataW H → Nat
  | .lit (.string bytes) => bytes.length + 1
  | .lit _ => 1
  | .nil => 1
  | .ptr d => uptoBulk d + 1
  | .slice elems spare => uptoBulkAll elems + uptoBulkAll spare + 1
  | .agg parts => uptoBulkAll parts + 1
  | .iface _ d => uptoBulk d + 1
  | .map entries => uptoBulkEntries entries + 1
  | .held _ => 1
def uptoBulkAll {H : Type} : List (DataW H) → Nat
  | [] => 0
  | d :: r => uptoBulk d + uptoBulkAll r
def uptoBulkEntries {H : Type} : List (Lit × DataW H) → Nat
  | [] => 0
  | x :: r => uptoBulkEntry x + uptoBulkEntries r
def uptoBulkEntry {H : Type} : Lit × DataW H → Nat
  | (.string bytes, d) => bytes.length + uptoBulk d + 1
  | (_, d) => uptoBulk d + 1
 end
def uptoSmall : (H : Type) → List (DataW H) → Bool := fun _ ds => decide (uptoBulkAll ds ≤ 1048576)
def OpenSpec.upto (s : _root_.Go.ChangeSpec) : _root_.Go.OpenSpec := { _root_.Go.OpenSpec.ofChange s with cond := some uptoSmall }

/-- 'laws.FnExactAclSays', WHERE WHAT IT READS IS OF BULK AT MOST 1048576: true; the input reads as it did. -/
def fnExactAclSaysUptoRow : OpenClaim := { program := "ytjpfiaejakidnaa", sum := "b684c7738ae4c9759128d8a2db20305d6f450f64960f2c63dfd37893f0d7c230", func := "loop.example/tern/laws.FnExactAclSays", spec := "fnExactAclSays", unfollowed := true, recurses := true, apart := false, narrowed := true }
def FnExactAclSaysUptoSaid : Prop := fnExactAclSaysUptoRow.holds Try.pinned (OpenSpec.upto fnExactAclSaysSpec)

/-- 'laws.FnAclSays', WHERE WHAT IT READS IS OF BULK AT MOST 1048576: true; the input reads as it did. -/
def fnAclSaysUptoRow : OpenClaim := { program := "ytjpfiaejakidnaa", sum := "b684c7738ae4c9759128d8a2db20305d6f450f64960f2c63dfd37893f0d7c230", func := "loop.example/tern/laws.FnAclSays", spec := "fnAclSays", unfollowed := true, recurses := true, apart := false, narrowed := true }
def FnAclSaysUptoSaid : Prop := fnAclSaysUptoRow.holds Try.pinned (OpenSpec.upto fnAclSaysSpec)

/-- 'laws.FnExactAclDiffer', WHERE WHAT IT READS IS OF BULK AT MOST 1048576: true; the input reads as it did. -/
def fnExactAclDifferUptoRow : OpenClaim := { program := "ytjpfiaejakidnaa", sum := "b684c7738ae4c9759128d8a2db20305d6f450f64960f2c63dfd37893f0d7c230", func := "loop.example/tern/laws.FnExactAclDiffer", spec := "fnExactAclDiffer", unfollowed := true, recurses := true, apart := false, narrowed := true }
def FnExactAclDifferUptoSaid : Prop := fnExactAclDifferUptoRow.holds Try.pinned (OpenSpec.upto fnExactAclDifferSpec)

/-- 'laws.FnAclWitness', WHERE WHAT IT READS IS OF BULK AT MOST 1048576: true; the input reads as it did. -/
def fnAclWitnessUptoRow : OpenClaim := { program := "ytjpfiaejakidnaa", sum := "b684c7738ae4c9759128d8a2db20305d6f450f64960f2c63dfd37893f0d7c230", func := "loop.example/tern/laws.FnAclWitness", spec := "fnAclWitness", unfollowed := true, recurses := true, apart := false, narrowed := true }
def FnAclWitnessUptoSaid : Prop := fnAclWitnessUptoRow.holds Try.pinned (OpenSpec.upto fnAclWitnessSpec)

/-- 'laws.FnAclDiffer', WHERE WHAT IT READS IS OF BULK AT MOST 1048576: true; the input reads as it did. -/
def fnAclDifferUptoRow : OpenClaim := { program := "ytjpfiaejakidnaa", sum := "b684c7738ae4c9759128d8a2db20305d6f450f64960f2c63dfd37893f0d7c230", func := "loop.example/tern/laws.FnAclDiffer", spec := "fnAclDiffer", unfollowed := true, recurses := true, apart := false, narrowed := true }
def FnAclDifferUptoSaid : Prop := fnAclDifferUptoRow.holds Try.pinned (OpenSpec.upto fnAclDifferSpec)

/-- 'laws.FnAclLean', WHERE WHAT IT READS IS OF BULK AT MOST 1048576: true; the input reads as it did. -/
def fnAclLeanUptoRow : OpenClaim := { program := "ytjpfiaejakidnaa", sum := "b684c7738ae4c9759128d8a2db20305d6f450f64960f2c63dfd37893f0d7c230", func := "loop.example/tern/laws.FnAclLean", spec := "fnAclLean", unfollowed := true, recurses := true, apart := false, narrowed := true }
def FnAclLeanUptoSaid : Prop := fnAclLeanUptoRow.holds Try.pinned (OpenSpec.upto fnAclLeanSpec)

end Rows
end Go.Proofs.Ytjpfiaejakidnaa
