/-
  Plain Lean: NatIn says what the reference says; the three rows by the arguments' facts.
-/
import Derived.Test.YtejhbiefhpgjeaaKz2
import Derived.Test.YtejhbiefhpgjeaaNatP4z
import Derived.Test.YtejhbiefhpgjeaaArgz
set_option linter.all false
namespace Go.Proofs.Ytejhbiefhpgjeaa
open Go Go.Ab
set_option maxHeartbeats 400000
theorem fit_len {b:NatBook} (h:b.Fit):b.Doors.length ≤ 9223372036854775807 ∧ b.Entries.length ≤ 9223372036854775807 := ⟨h.2.2.2.2.2.1.1,h.2.2.2.2.2.2.2.1.1⟩
end Go.Proofs.Ytejhbiefhpgjeaa
