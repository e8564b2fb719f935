/-
  Plain Lean: the draws of books and flows always give something; all of them.
-/
import Derived.Test.YtaoeomoepefojabKz3
import Derived.Test.YtaoeomoepefojabNatPo3z
set_option linter.all false
namespace Go.Proofs.Ytaoeomoepefojab
open Go Go.Ab
set_option maxHeartbeats 1000000

end Go.Proofs.Ytaoeomoepefojab
