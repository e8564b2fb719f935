/-
  Plain Lean: the laws' own helpers on books; the rows FnExactNatBookOk, FnExactNatInside, FnExactNatIn in plain Lean.
-/
import Derived.Test.YtjgjdobkahdgfaaDoorKz3
import Derived.Test.YtjgjdobkahdgfaaDoorNatP3z
set_option linter.all false
namespace Go.Proofs.YtjgjdobkahdgfaaDoor
open Go Go.Ab
set_option maxHeartbeats 400000

@[simp] theorem toNatDoor_p (a : NatDoor) : laws_toNatDoor_m a = some a := rfl
@[simp] theorem toNatEntry_p (a : NatEntry) : laws_toNatEntry_m a = some a := rfl
end Go.Proofs.YtjgjdobkahdgfaaDoor
