/-
  Plain Lean: ticks, words heard and entries used, over the program's first contracts; what the laws compare.
-/
import Derived.Test.YtaoeomoepefojaaGreatKz6
import Derived.Test.YtaoeomoepefojaaGreatHelIz
import Derived.Test.YtaoeomoepefojaaGreatHelWz
import Derived.Test.YtaoeomoepefojaaGreatHelBz
set_option linter.all false
namespace Go.Proofs.YtaoeomoepefojaaGreat
open Go Go.Ab
set_option maxHeartbeats 1000000
set_option maxRecDepth 100000
theorem iAnewb_p {e:HelloEnd} (h:e.Heard.length≤1048576):impl_HelloEnd_beginAnew_m e=some (anew e):=by
  unfold impl_HelloEnd_beginAnew_m anew;rw [lp_stales h,bd_val];dsimp only
  by_cases c:e.Heard.length > 0∧e.Keep=0
  · rw [if_pos (by simp; omega),if_pos c]
  · rw [if_neg (by simp; omega),if_neg c]
theorem whTable_p {xs:List HelloEntry} (h:xs.length≤1048576):laws_whTable_m xs xs=some true:=by
  unfold laws_whTable_m;rw [if_neg (by simp),lp_all xs.length (fun _=>true) (.inl ()) (.inr ()) (fun i hi _=>?_) (fun _=>by rw [if_neg (by simp)]),if_pos (allR_of fun _ _=>rfl),bd_val];rw [if_pos (by simp; omega),gd_pos (by omega),gd_pos (by omega),if_neg (by simp),if_pos rfl,wrap_succ hi (by omega)]
theorem whKeys_p {xs:List HelloKey} (h:xs.length≤1048576):laws_whKeys_m xs xs=some true:=by
  unfold laws_whKeys_m;rw [if_neg (by simp),lp_all xs.length (fun _=>true) (.inl ()) (.inr ()) (fun i hi _=>?_) (fun _=>by rw [if_neg (by simp)]),if_pos (allR_of fun _ _=>rfl),bd_val];rw [if_pos (by simp; omega),gd_pos (by omega),gd_pos (by omega),if_neg (by simp),if_pos rfl,wrap_succ hi (by omega)]
theorem whRoutes_p {xs:List HelloRoute} (h:xs.length≤1048576):laws_whRoutes_m xs xs=some true:=by
  unfold laws_whRoutes_m;rw [if_neg (by simp),lp_all xs.length (fun _=>true) (.inl ()) (.inr ()) (fun i hi _=>?_) (fun _=>by rw [if_neg (by simp)]),if_pos (allR_of fun _ _=>rfl),bd_val];rw [if_pos (by simp; omega),gd_pos (by omega),gd_pos (by omega),if_neg (by simp),if_pos rfl,wrap_succ hi (by omega)]
theorem whEnd_p {e:HelloEnd} (h:Lens e 1048576):laws_whEnd_m e e=some true:=by
  unfold laws_whEnd_m;rw [whKeys_p h.k,whTable_p h.w,whTable_p h.t,whRoutes_p h.h,gcall_val,bd_val,gcall_val,bd_val,gcall_val,bd_val,gcall_val,bd_val];simp
end Go.Proofs.YtaoeomoepefojaaGreat
