/-
  Plain Lean: drawn words; the row FnHelloHear.
-/
import Derived.Test.YtjgjdobkahdgfaaGreatKz5
import Derived.Test.YtjgjdobkahdgfaaGreatHelWbz
import Derived.Test.YtjgjdobkahdgfaaGreatHelIz
import Derived.Test.YtjgjdobkahdgfaaGreatArgz
set_option linter.all false
namespace Go.Proofs.YtjgjdobkahdgfaaGreat
open Go Go.Ab
set_option maxHeartbeats 4000000
set_option maxRecDepth 100000
theorem Qs1 {e:Qwj} {w:Qwl} (h:Qfj e=true) (hn:QcJ e w=true):helloHear e w=Qan (QaS e w) w:=by
  unfold helloHear;rw [if_pos h,if_pos hn]
theorem Qs2 {e:Qwj} {w:Qwl} (h:Qfj e=true) (hn:QcJ e w=false):helloHear e w=e:=by
  unfold helloHear;rw [if_pos h,hn]; rfl
end Go.Proofs.YtjgjdobkahdgfaaGreat
