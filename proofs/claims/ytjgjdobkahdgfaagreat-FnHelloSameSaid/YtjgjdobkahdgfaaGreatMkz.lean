/-
  Plain Lean: loops that write numbers into rows, place after place, and loops that look whether they still stand there; no condition but those typed.
-/
import Derived.Test.YtjgjdobkahdgfaaGreatKz5
import Derived.Test.YtjgjdobkahdgfaaGreatHelSz
set_option linter.all false
namespace Go.Proofs.YtjgjdobkahdgfaaGreat
open Go Go.Ab
set_option maxHeartbeats 400000
theorem getD_set {α:Type} [Inhabited α] {xs:List α} {i:Nat} {v:α} (h:i < xs.length):(xs.set i v).getD i default=v:=by
  simp [List.getD_eq_getElem?_getD,h]
end Go.Proofs.YtjgjdobkahdgfaaGreat
