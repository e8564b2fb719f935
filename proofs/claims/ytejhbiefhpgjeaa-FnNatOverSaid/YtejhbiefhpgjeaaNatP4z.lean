/-
  Plain Lean: the laws' own helpers on books; the rows FnExactNatBookOk, FnExactNatInside, FnExactNatIn in plain Lean.
-/
import Derived.Test.YtejhbiefhpgjeaaKz3
import Derived.Test.YtejhbiefhpgjeaaNatP3z
set_option linter.all false
namespace Go.Proofs.Ytejhbiefhpgjeaa
open Go Go.Ab
set_option maxHeartbeats 400000
end Go.Proofs.Ytejhbiefhpgjeaa
