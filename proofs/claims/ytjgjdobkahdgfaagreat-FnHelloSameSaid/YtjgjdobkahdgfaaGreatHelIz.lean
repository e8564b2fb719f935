/-
  Plain Lean: spoilt ends, drawn words.
-/
import Derived.Test.YtjgjdobkahdgfaaGreatKz5
import Derived.Test.YtjgjdobkahdgfaaGreatHelHz
set_option linter.all false
namespace Go.Proofs.YtjgjdobkahdgfaaGreat
open Go Go.Ab
set_option maxHeartbeats 4000000
set_option maxRecDepth 100000
theorem Qvu {b:List Int} (hb:b.length≤9223372036854775807) (h:∀ x ∈ b,Ql4 x):Post (Qbp b) fun r=>Rd 1000000 r:=(Qss hb h).mono fun r h=>h
end Go.Proofs.YtjgjdobkahdgfaaGreat
