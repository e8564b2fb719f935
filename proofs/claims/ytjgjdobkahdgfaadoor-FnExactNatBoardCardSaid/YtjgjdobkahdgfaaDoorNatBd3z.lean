/-
  The law of the exact board, for all books; no condition.
-/
import Derived.Test.YtjgjdobkahdgfaaDoorKz2
import Derived.Test.YtjgjdobkahdgfaaDoorNatBd2z
import Derived.Test.YtjgjdobkahdgfaaDoorArgz
set_option linter.all false
namespace Go.Proofs.YtjgjdobkahdgfaaDoor
open Go Go.Ab
theorem fnExactNatBoard_p {a0 : NatBook} (h : a0.Fit) : laws_FnExactNatBoard_m a0 = some true := fnExactNatBoard_q h.2.2.2.2.2.1.1 h.2.2.2.2.2.2.2.1.1
end Go.Proofs.YtjgjdobkahdgfaaDoor
