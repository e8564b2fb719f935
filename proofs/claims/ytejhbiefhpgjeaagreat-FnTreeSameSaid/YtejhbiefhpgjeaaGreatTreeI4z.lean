/-
  Plain Lean: a step leaves every bridge with what it thinks; the row FnTreeStep.
-/
import Derived.Test.YtejhbiefhpgjeaaGreatKz5
import Derived.Test.YtejhbiefhpgjeaaGreatTreeHz
import Derived.Test.YtejhbiefhpgjeaaGreatTreeI3z
import Derived.Test.YtejhbiefhpgjeaaGreatTreeOz
import Derived.Test.YtejhbiefhpgjeaaGreatTreeDz
set_option linter.all false
namespace Go.Proofs.YtejhbiefhpgjeaaGreat
open Go Go.Ab
set_option maxHeartbeats 400000
theorem th_tick {w:TreeWorld} (h:Good w):Th (ticked w):=by
  have g:=aged_good h;have key:∀ j,j≤w.Bridges.length→∀ c,c < j→(((List.range j).foldl thinks (aged w)).Bridges.getD c default).Up=true→(((List.range j).foldl thinks (aged w)).Bridges.getD c default).Mind=think ((List.range j).foldl thinks (aged w)) (c:Int):=by
    intro j
    induction j with
    | zero=>intro _ c hc; exact absurd hc (Nat.not_lt_zero _)
    | succ j ih =>
      intro hj c hc;obtain ⟨i1,i2⟩:=ticked_in h j (by omega);rw [List.range_succ,List.foldl_append];show ((thinks ((List.range j).foldl thinks (aged w)) j).Bridges.getD c default).Up=true→((thinks ((List.range j).foldl thinks (aged w)) j).Bridges.getD c default).Mind=think (thinks ((List.range j).foldl thinks (aged w)) j) c;have ih:=ih (by omega);generalize (List.range j).foldl thinks (aged w)=v at *;have hb:j < v.Bridges.length:=by rw [i2.n]; omega
      intro hu;rw [wok_thinks i1.wok hb];have up:=up_thinks (w:=v) hb (c:Int);unfold upAt at up;rw [Int.toNat_natCast] at up;rw [up] at hu
      by_cases e:c=j
      · subst e;unfold thinks;rw [if_pos hu,getD_setB hb,if_pos rfl]
      · rw [← ih c (by omega) hu];unfold thinks;split
        · rw [getD_setB hb,if_neg e]
        · rfl
  intro c hc hu;exact key _ (Nat.le_refl _) c (by rw [(same_ticked h).n] at hc; exact hc) hu
end Go.Proofs.YtejhbiefhpgjeaaGreat
