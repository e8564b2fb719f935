/-
  What the form asks of the program for the row of FnConfOrder, reckoned; no condition.
-/
import Derived.Test.YtmnnglbioibmfaaGreatDoorRows
import Derived.JoinedOf
import Derived.SevenTiedAt
import Derived.KernelRfl
set_option linter.all false
namespace Go.Proofs.YtmnnglbioibmfaaGreatDoor
open Go
set_option maxRecDepth 100000
theorem Qis : Tryz.pinned.checked.prog.mainIs = some ((true, "daf361df1f1ffb3fee686faa60b1c2dcb4bc156c41630ad8438d93345dfe6e43").1, (true, "daf361df1f1ffb3fee686faa60b1c2dcb4bc156c41630ad8438d93345dfe6e43").2.toList) := by kernel_rfl
theorem QhH:true=Tryz.pinned.checked.prog.looks []:=by kernel_rfl
end Go.Proofs.YtmnnglbioibmfaaGreatDoor
