/-
  Plain Lean: the draws of books and flows always give something; books at last.
-/
import Derived.Test.YtaoeomoepefojabKz3
import Derived.Test.YtaoeomoepefojabNatPo2z
set_option linter.all false
namespace Go.Proofs.Ytaoeomoepefojab
open Go Go.Ab
set_option maxHeartbeats 400000

end Go.Proofs.Ytaoeomoepefojab
