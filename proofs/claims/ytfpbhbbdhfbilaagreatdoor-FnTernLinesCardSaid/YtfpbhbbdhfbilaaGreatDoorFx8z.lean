/-
  What the form asks of the program for the row of FnTernLines, reckoned; no condition.
-/
import Derived.Test.YtfpbhbbdhfbilaaGreatDoorRows
import Derived.JoinedOf
import Derived.SevenTiedAt
import Derived.KernelRfl
set_option linter.all false
namespace Go.Proofs.YtfpbhbbdhfbilaaGreatDoor
open Go
set_option maxRecDepth 100000
theorem Qji : Tryz.pinned.checked.prog.mainIs = some ((true, "e98ba4c2138f7546ff9101fab8680302db18fd131ade7dc0232ed9b998d26969").1, (true, "e98ba4c2138f7546ff9101fab8680302db18fd131ade7dc0232ed9b998d26969").2.toList) := by kernel_rfl
theorem Qiy:true=Tryz.pinned.checked.prog.looks []:=by kernel_rfl
end Go.Proofs.YtfpbhbbdhfbilaaGreatDoor
