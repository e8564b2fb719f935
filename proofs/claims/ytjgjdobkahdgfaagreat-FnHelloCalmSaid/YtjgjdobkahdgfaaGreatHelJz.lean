/-
  Plain Lean: drawn words; the row FnHelloHear.
-/
import Derived.Test.YtjgjdobkahdgfaaGreatKz5
import Derived.Test.YtjgjdobkahdgfaaGreatHelWbz
import Derived.Test.YtjgjdobkahdgfaaGreatHelIz
import Derived.Test.YtjgjdobkahdgfaaGreatArgz
set_option linter.all false
namespace Go.Proofs.YtjgjdobkahdgfaaGreat
open Go Go.Ab
set_option maxHeartbeats 4000000
set_option maxRecDepth 100000
theorem QpX {e:Qxp} {w:Qxr} (h:QfN e=true) (hn:QcB e w=true):helloHear e w=listenY (JB e w) w:=by
  unfold helloHear;rw [if_pos h,if_pos hn]
theorem Qt3 {e:Qxp} {w:Qxr} (h:QfN e=true) (hn:QcB e w=false):helloHear e w=e:=by
  unfold helloHear;rw [if_pos h,hn]; rfl
end Go.Proofs.YtjgjdobkahdgfaaGreat
