/-
  No cell of these rows narrows 'for every input' (looked for: loops, veiled, ifaces, maps, wideKeys, modest, calm, conditions, laid).
  DERIVED. THE GIVEN ROWS OF THIS SEAT. 4 by the template 'for every input the law returns true; each argument reads behind the call as it read before'; 0 by the template 'total and deterministic' (their statements: YtjgjdobkahdgfaaGreatTotals.lean).
  GIVEN WITH THE SEED: the statements are not yours to turn. If you find one false, say at which input.
  Laid BY PROGRAM, IN A SANDBOX (cutbox-rows.mjs): the forced cells as the released guide's own fill.sh prints them over the translation 476f61f180b94877… (all of the seat's roots in one cut). By AI agents, Wed Nov 11 2026. No macro, syntax, notation, axiom, sorry.
-/
import Derived.Test.YtjgjdobkahdgfaaGreatChecked
import GoSem.Claim
import GoSem.ClaimJoined
import GoSem.ClaimMapViews
import Derived.JoinedTies
import Derived.KernelRfl
namespace Go.Proofs.YtjgjdobkahdgfaaGreat
/- THE CELL 'sum', in the pinned program and in every row, IS THE sha256 OF THE DUMP (.gsa) THAT YtjgjdobkahdgfaaGreatProg.lean LOADS. Nothing in Lean hashes anything: it is a label: what it is worth is what the hold of that sum in a sandbox is worth. -/
noncomputable def Tryz.pinned : Pinned := { name := "ytjgjdobkahdgfaagreat", sum := "476f61f180b94877a4db2386bb775aada73572504c8f738f79aef4379ca3fdff", checked := Tryz.checked }
namespace Rows
def none {H : Type} : Left H := { results := [], args := [] }

/-- 'laws.FnHelloSame': WHATEVER THE INPUT: true; the input reads as it did. -/
def fnHelloSameSpec : ChangeSpec := { name := "fnHelloSame", fn := fun _ => fun
  | [d1, d2] => { results := [.lit (.bool true)], args := [d1, d2] }
  | _ => none }
def fnHelloSameRow : OpenClaim := { program := "ytjgjdobkahdgfaagreat", sum := "476f61f180b94877a4db2386bb775aada73572504c8f738f79aef4379ca3fdff", func := "loop.example/tern/laws.FnHelloSame", spec := "fnHelloSame", inPlace := ["slices.overlaps[loop.example/tern/impl.HelloEntry]", "slices.overlaps[loop.example/tern/impl.HelloRoute]"], unfollowed := true, recurses := true, apart := false }
def FnHelloSameSaid : Prop := fnHelloSameRow.holds Tryz.pinned (OpenSpec.ofChange fnHelloSameSpec)

/-- ITS FALSE NEIGHBOUR: 'it returns false'. Refute it at one input. -/
def fnHelloSameWrong : ChangeSpec := { name := "fnHelloSame", fn := fun _ => fun
  | [d1, d2] => { results := [.lit (.bool false)], args := [d1, d2] }
  | _ => none }
def FnHelloSameWrongFalsely : Prop := fnHelloSameRow.holds Tryz.pinned (OpenSpec.ofChange fnHelloSameWrong)

/-- 'laws.FnHelloTop': WHATEVER THE INPUT: true; the input reads as it did. -/
def fnHelloTopSpec : ChangeSpec := { name := "fnHelloTop", fn := fun _ => fun
  | [d] => { results := [.lit (.bool true)], args := [d] }
  | _ => none }
def fnHelloTopRow : OpenClaim := { program := "ytjgjdobkahdgfaagreat", sum := "476f61f180b94877a4db2386bb775aada73572504c8f738f79aef4379ca3fdff", func := "loop.example/tern/laws.FnHelloTop", spec := "fnHelloTop", inPlace := ["slices.overlaps[loop.example/tern/impl.HelloEntry]", "slices.overlaps[loop.example/tern/impl.HelloRoute]"], unfollowed := true, recurses := true, apart := false }
def FnHelloTopSaid : Prop := fnHelloTopRow.holds Tryz.pinned (OpenSpec.ofChange fnHelloTopSpec)

/-- ITS FALSE NEIGHBOUR: 'it returns false'. Refute it at one input. -/
def fnHelloTopWrong : ChangeSpec := { name := "fnHelloTop", fn := fun _ => fun
  | [d] => { results := [.lit (.bool false)], args := [d] }
  | _ => none }
def FnHelloTopWrongFalsely : Prop := fnHelloTopRow.holds Tryz.pinned (OpenSpec.ofChange fnHelloTopWrong)

/-- 'laws.FnHelloCalm': WHATEVER THE INPUT: true; the input reads as it did. -/
def fnHelloCalmSpec : ChangeSpec := { name := "fnHelloCalm", fn := fun _ => fun
  | [d1, d2] => { results := [.lit (.bool true)], args := [d1, d2] }
  | _ => none }
def fnHelloCalmRow : OpenClaim := { program := "ytjgjdobkahdgfaagreat", sum := "476f61f180b94877a4db2386bb775aada73572504c8f738f79aef4379ca3fdff", func := "loop.example/tern/laws.FnHelloCalm", spec := "fnHelloCalm", inPlace := ["slices.overlaps[loop.example/tern/impl.HelloEntry]", "slices.overlaps[loop.example/tern/impl.HelloRoute]"], unfollowed := true, recurses := true, apart := false }
def FnHelloCalmSaid : Prop := fnHelloCalmRow.holds Tryz.pinned (OpenSpec.ofChange fnHelloCalmSpec)

/-- ITS FALSE NEIGHBOUR: 'it returns false'. Refute it at one input. -/
def fnHelloCalmWrong : ChangeSpec := { name := "fnHelloCalm", fn := fun _ => fun
  | [d1, d2] => { results := [.lit (.bool false)], args := [d1, d2] }
  | _ => none }
def FnHelloCalmWrongFalsely : Prop := fnHelloCalmRow.holds Tryz.pinned (OpenSpec.ofChange fnHelloCalmWrong)

/-- 'laws.FnHelloRounds': WHATEVER THE INPUT: true; the input reads as it did. -/
def fnHelloRoundsSpec : ChangeSpec := { name := "fnHelloRounds", fn := fun _ => fun
  | [d1, d2] => { results := [.lit (.bool true)], args := [d1, d2] }
  | _ => none }
def fnHelloRoundsRow : OpenClaim := { program := "ytjgjdobkahdgfaagreat", sum := "476f61f180b94877a4db2386bb775aada73572504c8f738f79aef4379ca3fdff", func := "loop.example/tern/laws.FnHelloRounds", spec := "fnHelloRounds", inPlace := ["slices.overlaps[loop.example/tern/impl.HelloEntry]", "slices.overlaps[loop.example/tern/impl.HelloRoute]"], unfollowed := true, recurses := true, apart := false }
def FnHelloRoundsSaid : Prop := fnHelloRoundsRow.holds Tryz.pinned (OpenSpec.ofChange fnHelloRoundsSpec)

/-- ITS FALSE NEIGHBOUR: 'it returns false'. Refute it at one input. -/
def fnHelloRoundsWrong : ChangeSpec := { name := "fnHelloRounds", fn := fun _ => fun
  | [d1, d2] => { results := [.lit (.bool false)], args := [d1, d2] }
  | _ => none }
def FnHelloRoundsWrongFalsely : Prop := fnHelloRoundsRow.holds Tryz.pinned (OpenSpec.ofChange fnHelloRoundsWrong)

/- THE SECOND FORM. 'bulk': how many values and letters a reading holds, each counted each time it is reached (what is shared counts as often as it is met; a slice's spare places count too). A statement '..UptoSaid' is the law's where the arguments, and the package variables that the reading takes, are together of bulk at most 1048576: NARROWER than '..Said'. Prove '..Said' where nothing that the law and all that it calls make is longer than what came in: it says more and counts as full. Else prove '..UptoSaid'. A law counts once. -/
mutual
def uptoBulk {H : Type} : DataW H → Nat
  | .lit (.string bytes) => bytes.length + 1
  | .lit _ => 1
  | .nil => 1
  | .ptr d => uptoBulk d + 1
  | .slice elems spare => uptoBulkAll elems + uptoBulkAll spare + 1
  | .agg parts => uptoBulkAll parts + 1
  | .iface _ d => uptoBulk d + 1
  | .map entries => uptoBulkEntries entries + 1
  | .held _ => 1
def uptoBulkAll {H : Type} : List (DataW H) → Nat
  | [] => 0
  | d :: r => uptoBulk d + uptoBulkAll r
def uptoBulkEntries {H : Type} : List (Lit × DataW H) → Nat
  | [] => 0
  | x :: r => uptoBulkEntry x + uptoBulkEntries r
def uptoBulkEntry {H : Type} : Lit × DataW H → Nat
  | (.string bytes, d) => bytes.length + uptoBulk d + 1
  | (_, d) => uptoBulk d + 1
 end
def uptoSmall : (H : Type) → List (DataW H) → Bool := fun _ ds => decide (uptoBulkAll ds ≤ 1048576)
def OpenSpec.upto (s : _root_.Go.ChangeSpec) : _root_.Go.OpenSpec := { _root_.Go.OpenSpec.ofChange s with cond := some uptoSmall }

/-- 'laws.FnHelloSame', WHERE WHAT IT READS IS OF BULK AT MOST 1048576: true; the input reads as it did. -/
def fnHelloSameUptoRow : OpenClaim := { program := "ytjgjdobkahdgfaagreat", sum := "476f61f180b94877a4db2386bb775aada73572504c8f738f79aef4379ca3fdff", func := "loop.example/tern/laws.FnHelloSame", spec := "fnHelloSame", inPlace := ["slices.overlaps[loop.example/tern/impl.HelloEntry]", "slices.overlaps[loop.example/tern/impl.HelloRoute]"], unfollowed := true, recurses := true, apart := false, narrowed := true }
def FnHelloSameUptoSaid : Prop := fnHelloSameUptoRow.holds Tryz.pinned (OpenSpec.upto fnHelloSameSpec)

/-- 'laws.FnHelloTop', WHERE WHAT IT READS IS OF BULK AT MOST 1048576: true; the input reads as it did. -/
def fnHelloTopUptoRow : OpenClaim := { program := "ytjgjdobkahdgfaagreat", sum := "476f61f180b94877a4db2386bb775aada73572504c8f738f79aef4379ca3fdff", func := "loop.example/tern/laws.FnHelloTop", spec := "fnHelloTop", inPlace := ["slices.overlaps[loop.example/tern/impl.HelloEntry]", "slices.overlaps[loop.example/tern/impl.HelloRoute]"], unfollowed := true, recurses := true, apart := false, narrowed := true }
def FnHelloTopUptoSaid : Prop := fnHelloTopUptoRow.holds Tryz.pinned (OpenSpec.upto fnHelloTopSpec)

/-- 'laws.FnHelloCalm', WHERE WHAT IT READS IS OF BULK AT MOST 1048576: true; the input reads as it did. -/
def fnHelloCalmUptoRow : OpenClaim := { program := "ytjgjdobkahdgfaagreat", sum := "476f61f180b94877a4db2386bb775aada73572504c8f738f79aef4379ca3fdff", func := "loop.example/tern/laws.FnHelloCalm", spec := "fnHelloCalm", inPlace := ["slices.overlaps[loop.example/tern/impl.HelloEntry]", "slices.overlaps[loop.example/tern/impl.HelloRoute]"], unfollowed := true, recurses := true, apart := false, narrowed := true }
def FnHelloCalmUptoSaid : Prop := fnHelloCalmUptoRow.holds Tryz.pinned (OpenSpec.upto fnHelloCalmSpec)

/-- 'laws.FnHelloRounds', WHERE WHAT IT READS IS OF BULK AT MOST 1048576: true; the input reads as it did. -/
def fnHelloRoundsUptoRow : OpenClaim := { program := "ytjgjdobkahdgfaagreat", sum := "476f61f180b94877a4db2386bb775aada73572504c8f738f79aef4379ca3fdff", func := "loop.example/tern/laws.FnHelloRounds", spec := "fnHelloRounds", inPlace := ["slices.overlaps[loop.example/tern/impl.HelloEntry]", "slices.overlaps[loop.example/tern/impl.HelloRoute]"], unfollowed := true, recurses := true, apart := false, narrowed := true }
def FnHelloRoundsUptoSaid : Prop := fnHelloRoundsUptoRow.holds Tryz.pinned (OpenSpec.upto fnHelloRoundsSpec)

end Rows
end Go.Proofs.YtjgjdobkahdgfaaGreat
