/-
  No cell of these rows narrows 'for every input' (looked for: loops, veiled, ifaces, maps, wideKeys, modest, calm, conditions, laid).
  DERIVED. THE GIVEN ROWS OF THIS SEAT. 4 by the template 'for every input the law returns true; each argument reads behind the call as it read before'; 0 by the template 'total and deterministic' (their statements: YtaoeomoepefojaaGreatTotals.lean).
  GIVEN WITH THE SEED: the statements are not yours to turn. If you find one false, say at which input.
  Laid BY PROGRAM, IN A SANDBOX (cutbox-rows.mjs): the forced cells as the released guide's own fill.sh prints them over the translation 55476649cd867cbd… (all of the seat's roots in one cut). By AI agents, Wed Nov 11 2026. No macro, syntax, notation, axiom, sorry.
-/
import Derived.Test.YtaoeomoepefojaaGreatChecked
import GoSem.Claim
import GoSem.ClaimJoined
import GoSem.ClaimMapViews
import Derived.JoinedTies
import Derived.KernelRfl
namespace Go.Proofs.YtaoeomoepefojaaGreat
/- THE CELL 'sum', in the pinned program and in every row, IS THE sha256 OF THE DUMP (.gsa) THAT YtaoeomoepefojaaGreatProg.lean LOADS. Nothing in Lean hashes anything: it is a label: what it is worth is what the hold of that sum in a sandbox is worth. -/
noncomputable def Tryz.pinned : Pinned := { name := "ytaoeomoepefojaagreat", sum := "55476649cd867cbd6afa1a93da2cd7973da30f3de6cd66a392c2c539c034ecbd", checked := Tryz.checked }
namespace Rows
def none {H : Type} : Left H := { results := [], args := [] }

/-- 'laws.FnExactHelloHear': WHATEVER THE INPUT: true; the input reads as it did. -/
def fnExactHelloHearSpec : ChangeSpec := { name := "fnExactHelloHear", fn := fun _ => fun
  | [d1, d2] => { results := [.lit (.bool true)], args := [d1, d2] }
  | _ => none }
def fnExactHelloHearRow : OpenClaim := { program := "ytaoeomoepefojaagreat", sum := "55476649cd867cbd6afa1a93da2cd7973da30f3de6cd66a392c2c539c034ecbd", func := "loop.example/tern/laws.FnExactHelloHear", spec := "fnExactHelloHear", inPlace := ["slices.overlaps[loop.example/tern/impl.HelloEntry]", "slices.overlaps[loop.example/tern/impl.HelloRoute]"], unfollowed := true, recurses := true, apart := false }
def FnExactHelloHearSaid : Prop := fnExactHelloHearRow.holds Tryz.pinned (OpenSpec.ofChange fnExactHelloHearSpec)

/-- ITS FALSE NEIGHBOUR: 'it returns false'. Refute it at one input. -/
def fnExactHelloHearWrong : ChangeSpec := { name := "fnExactHelloHear", fn := fun _ => fun
  | [d1, d2] => { results := [.lit (.bool false)], args := [d1, d2] }
  | _ => none }
def FnExactHelloHearWrongFalsely : Prop := fnExactHelloHearRow.holds Tryz.pinned (OpenSpec.ofChange fnExactHelloHearWrong)

/-- 'laws.FnHelloForget': WHATEVER THE INPUT: true; the input reads as it did. -/
def fnHelloForgetSpec : ChangeSpec := { name := "fnHelloForget", fn := fun _ => fun
  | [d] => { results := [.lit (.bool true)], args := [d] }
  | _ => none }
def fnHelloForgetRow : OpenClaim := { program := "ytaoeomoepefojaagreat", sum := "55476649cd867cbd6afa1a93da2cd7973da30f3de6cd66a392c2c539c034ecbd", func := "loop.example/tern/laws.FnHelloForget", spec := "fnHelloForget", inPlace := ["slices.overlaps[loop.example/tern/impl.HelloEntry]"], unfollowed := true, recurses := true, apart := false }
def FnHelloForgetSaid : Prop := fnHelloForgetRow.holds Tryz.pinned (OpenSpec.ofChange fnHelloForgetSpec)

/-- ITS FALSE NEIGHBOUR: 'it returns false'. Refute it at one input. -/
def fnHelloForgetWrong : ChangeSpec := { name := "fnHelloForget", fn := fun _ => fun
  | [d] => { results := [.lit (.bool false)], args := [d] }
  | _ => none }
def FnHelloForgetWrongFalsely : Prop := fnHelloForgetRow.holds Tryz.pinned (OpenSpec.ofChange fnHelloForgetWrong)

/-- 'laws.FnHelloHear': WHATEVER THE INPUT: true; the input reads as it did. -/
def fnHelloHearSpec : ChangeSpec := { name := "fnHelloHear", fn := fun _ => fun
  | [d] => { results := [.lit (.bool true)], args := [d] }
  | _ => none }
def fnHelloHearRow : OpenClaim := { program := "ytaoeomoepefojaagreat", sum := "55476649cd867cbd6afa1a93da2cd7973da30f3de6cd66a392c2c539c034ecbd", func := "loop.example/tern/laws.FnHelloHear", spec := "fnHelloHear", inPlace := ["slices.overlaps[loop.example/tern/impl.HelloEntry]", "slices.overlaps[loop.example/tern/impl.HelloRoute]"], unfollowed := true, recurses := true, apart := false }
def FnHelloHearSaid : Prop := fnHelloHearRow.holds Tryz.pinned (OpenSpec.ofChange fnHelloHearSpec)

/-- ITS FALSE NEIGHBOUR: 'it returns false'. Refute it at one input. -/
def fnHelloHearWrong : ChangeSpec := { name := "fnHelloHear", fn := fun _ => fun
  | [d] => { results := [.lit (.bool false)], args := [d] }
  | _ => none }
def FnHelloHearWrongFalsely : Prop := fnHelloHearRow.holds Tryz.pinned (OpenSpec.ofChange fnHelloHearWrong)

/-- 'laws.FnHelloUse': WHATEVER THE INPUT: true; the input reads as it did. -/
def fnHelloUseSpec : ChangeSpec := { name := "fnHelloUse", fn := fun _ => fun
  | [d] => { results := [.lit (.bool true)], args := [d] }
  | _ => none }
def fnHelloUseRow : OpenClaim := { program := "ytaoeomoepefojaagreat", sum := "55476649cd867cbd6afa1a93da2cd7973da30f3de6cd66a392c2c539c034ecbd", func := "loop.example/tern/laws.FnHelloUse", spec := "fnHelloUse", inPlace := ["slices.overlaps[loop.example/tern/impl.HelloEntry]", "slices.overlaps[loop.example/tern/impl.HelloRoute]"], unfollowed := true, recurses := true, apart := false }
def FnHelloUseSaid : Prop := fnHelloUseRow.holds Tryz.pinned (OpenSpec.ofChange fnHelloUseSpec)

/-- ITS FALSE NEIGHBOUR: 'it returns false'. Refute it at one input. -/
def fnHelloUseWrong : ChangeSpec := { name := "fnHelloUse", fn := fun _ => fun
  | [d] => { results := [.lit (.bool false)], args := [d] }
  | _ => none }
def FnHelloUseWrongFalsely : Prop := fnHelloUseRow.holds Tryz.pinned (OpenSpec.ofChange fnHelloUseWrong)

/- THE SECOND FORM. 'bulk': how many values and letters a reading holds, each counted each time it is reached (what is shared counts as often as it is met; a slice's spare places count too). A statement '..UptoSaid' is the law's where the arguments, and the package variables that the reading takes, are together of bulk at most 1048576: NARROWER than '..Said'. Prove '..Said' where nothing that the law and all that it calls make is longer than what came in: it says more and counts as full. Else prove '..UptoSaid'. A law counts once. -/
mutual
def uptoBulk {H : Type} : DataW H → Nat
  | .lit (.string bytes) => bytes.length + 1
  | .lit _ => 1
  | .nil => 1
  | .ptr d => uptoBulk d + 1
  | .slice elems spare => uptoBulkAll elems + uptoBulkAll spare + 1
  | .agg parts => uptoBulkAll parts + 1
  | .iface _ d => uptoBulk d + 1
  | .map entries => uptoBulkEntries entries + 1
  | .held _ => 1
def uptoBulkAll {H : Type} : List (DataW H) → Nat
  | [] => 0
  | d :: r => uptoBulk d + uptoBulkAll r
def uptoBulkEntries {H : Type} : List (Lit × DataW H) → Nat
  | [] => 0
  | x :: r => uptoBulkEntry x + uptoBulkEntries r
def uptoBulkEntry {H : Type} : Lit × DataW H → Nat
  | (.string bytes, d) => bytes.length + uptoBulk d + 1
  | (_, d) => uptoBulk d + 1
 end
def uptoSmall : (H : Type) → List (DataW H) → Bool := fun _ ds => decide (uptoBulkAll ds ≤ 1048576)
def OpenSpec.upto (s : _root_.Go.ChangeSpec) : _root_.Go.OpenSpec := { _root_.Go.OpenSpec.ofChange s with cond := some uptoSmall }

/-- 'laws.FnExactHelloHear', WHERE WHAT IT READS IS OF BULK AT MOST 1048576: true; the input reads as it did. -/
def fnExactHelloHearUptoRow : OpenClaim := { program := "ytaoeomoepefojaagreat", sum := "55476649cd867cbd6afa1a93da2cd7973da30f3de6cd66a392c2c539c034ecbd", func := "loop.example/tern/laws.FnExactHelloHear", spec := "fnExactHelloHear", inPlace := ["slices.overlaps[loop.example/tern/impl.HelloEntry]", "slices.overlaps[loop.example/tern/impl.HelloRoute]"], unfollowed := true, recurses := true, apart := false, narrowed := true }
def FnExactHelloHearUptoSaid : Prop := fnExactHelloHearUptoRow.holds Tryz.pinned (OpenSpec.upto fnExactHelloHearSpec)

/-- 'laws.FnHelloForget', WHERE WHAT IT READS IS OF BULK AT MOST 1048576: true; the input reads as it did. -/
def fnHelloForgetUptoRow : OpenClaim := { program := "ytaoeomoepefojaagreat", sum := "55476649cd867cbd6afa1a93da2cd7973da30f3de6cd66a392c2c539c034ecbd", func := "loop.example/tern/laws.FnHelloForget", spec := "fnHelloForget", inPlace := ["slices.overlaps[loop.example/tern/impl.HelloEntry]"], unfollowed := true, recurses := true, apart := false, narrowed := true }
def FnHelloForgetUptoSaid : Prop := fnHelloForgetUptoRow.holds Tryz.pinned (OpenSpec.upto fnHelloForgetSpec)

/-- 'laws.FnHelloHear', WHERE WHAT IT READS IS OF BULK AT MOST 1048576: true; the input reads as it did. -/
def fnHelloHearUptoRow : OpenClaim := { program := "ytaoeomoepefojaagreat", sum := "55476649cd867cbd6afa1a93da2cd7973da30f3de6cd66a392c2c539c034ecbd", func := "loop.example/tern/laws.FnHelloHear", spec := "fnHelloHear", inPlace := ["slices.overlaps[loop.example/tern/impl.HelloEntry]", "slices.overlaps[loop.example/tern/impl.HelloRoute]"], unfollowed := true, recurses := true, apart := false, narrowed := true }
def FnHelloHearUptoSaid : Prop := fnHelloHearUptoRow.holds Tryz.pinned (OpenSpec.upto fnHelloHearSpec)

/-- 'laws.FnHelloUse', WHERE WHAT IT READS IS OF BULK AT MOST 1048576: true; the input reads as it did. -/
def fnHelloUseUptoRow : OpenClaim := { program := "ytaoeomoepefojaagreat", sum := "55476649cd867cbd6afa1a93da2cd7973da30f3de6cd66a392c2c539c034ecbd", func := "loop.example/tern/laws.FnHelloUse", spec := "fnHelloUse", inPlace := ["slices.overlaps[loop.example/tern/impl.HelloEntry]", "slices.overlaps[loop.example/tern/impl.HelloRoute]"], unfollowed := true, recurses := true, apart := false, narrowed := true }
def FnHelloUseUptoSaid : Prop := fnHelloUseUptoRow.holds Tryz.pinned (OpenSpec.upto fnHelloUseSpec)

end Rows
end Go.Proofs.YtaoeomoepefojaaGreat
