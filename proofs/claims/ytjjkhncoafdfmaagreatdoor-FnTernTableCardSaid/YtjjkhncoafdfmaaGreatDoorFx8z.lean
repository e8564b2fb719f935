/-
  What the form asks of the program for the row of FnTernTable, reckoned; no condition.
-/
import Derived.Test.YtjjkhncoafdfmaaGreatDoorRows
import Derived.JoinedOf
import Derived.SevenTiedAt
import Derived.KernelRfl
set_option linter.all false
namespace Go.Proofs.YtjjkhncoafdfmaaGreatDoor
open Go
set_option maxRecDepth 100000
theorem Qkj : Tryz.pinned.checked.prog.mainIs = some ((true, "96ff43a1043456dde60c320c6100df2b1e5d11404120b6428d7d4dc9799a7e71").1, (true, "96ff43a1043456dde60c320c6100df2b1e5d11404120b6428d7d4dc9799a7e71").2.toList) := by kernel_rfl
theorem Qjv:true=Tryz.pinned.checked.prog.looks []:=by kernel_rfl
end Go.Proofs.YtjjkhncoafdfmaaGreatDoor
