/-
  Plain Lean: drawn words; the row FnHelloHear.
-/
import Derived.Test.YtjgjdobkahdgfaaGreatKz5
import Derived.Test.YtjgjdobkahdgfaaGreatHelWbz
import Derived.Test.YtjgjdobkahdgfaaGreatHelIz
import Derived.Test.YtjgjdobkahdgfaaGreatArgz
set_option linter.all false
namespace Go.Proofs.YtjgjdobkahdgfaaGreat
open Go Go.Ab
set_option maxHeartbeats 4000000
set_option maxRecDepth 100000
theorem QpI {e:Qxb} {w:Qxd} (h:QeT e=true) (hn:Qct e w=true):helloHear e w=listenY (Jy e w) w:=by
  unfold helloHear;rw [if_pos h,if_pos hn]
theorem QtS {e:Qxb} {w:Qxd} (h:QeT e=true) (hn:Qct e w=false):helloHear e w=e:=by
  unfold helloHear;rw [if_pos h,hn]; rfl
end Go.Proofs.YtjgjdobkahdgfaaGreat
