/-
  What the form asks of the program for the row of FnConfTrial, reckoned; no condition.
-/
import Derived.Test.YtoknnjiangjccaaGreatDoorRows
import Derived.JoinedOf
import Derived.SevenTiedAt
import Derived.KernelRfl
set_option linter.all false
namespace Go.Proofs.YtoknnjiangjccaaGreatDoor
open Go
set_option maxRecDepth 100000
theorem Qjw : Tryz.pinned.checked.prog.mainIs = some ((true, "a6ee764e5855492814ba278b888e76b6bb5c27f0c1bb2e9e06a81fc1e13a197e").1, (true, "a6ee764e5855492814ba278b888e76b6bb5c27f0c1bb2e9e06a81fc1e13a197e").2.toList) := by kernel_rfl
theorem QiL:true=Tryz.pinned.checked.prog.looks []:=by kernel_rfl
end Go.Proofs.YtoknnjiangjccaaGreatDoor
