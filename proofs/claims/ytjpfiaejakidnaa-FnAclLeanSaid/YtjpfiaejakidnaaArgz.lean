/-
  How a law reads its arguments; no condition.
-/
import Derived.Test.YtjpfiaejakidnaaTyz
import Derived.Test.YtjpfiaejakidnaaTbz
set_option linter.all false
namespace Go.Proofs.Ytjpfiaejakidnaa
open Go Go.Ab
set_option maxRecDepth 100000

end Go.Proofs.Ytjpfiaejakidnaa
