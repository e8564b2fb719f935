/-
  How a law reads its arguments; no condition.
-/
import Derived.Test.YtjgjdobkahdgfaaDoorTyz
import Derived.Test.YtjgjdobkahdgfaaDoorTbz
set_option linter.all false
namespace Go.Proofs.YtjgjdobkahdgfaaDoor
open Go Go.Ab
set_option maxRecDepth 100000
end Go.Proofs.YtjgjdobkahdgfaaDoor
