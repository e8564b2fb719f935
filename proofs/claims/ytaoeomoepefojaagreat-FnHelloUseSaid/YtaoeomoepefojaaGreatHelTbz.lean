/-
  Plain Lean: ticks, words heard and entries used, over the program's first contracts; what the laws compare.
-/
import Derived.Test.YtaoeomoepefojaaGreatKz6
import Derived.Test.YtaoeomoepefojaaGreatHelIz
import Derived.Test.YtaoeomoepefojaaGreatHelWz
import Derived.Test.YtaoeomoepefojaaGreatHelBz
set_option linter.all false
namespace Go.Proofs.YtaoeomoepefojaaGreat
open Go Go.Ab
set_option maxHeartbeats 1000000
set_option maxRecDepth 100000
theorem iAnewb_p {e:HelloEnd} (h:e.Heard.length≤1048576):impl_HelloEnd_beginAnew_m e=some (anew e):=by
  unfold impl_HelloEnd_beginAnew_m anew;rw [lp_stales h,bd_val];dsimp only
  by_cases c:e.Heard.length > 0∧e.Keep=0
  · rw [if_pos (by simp; omega),if_pos c]
  · rw [if_neg (by simp; omega),if_neg c]
def useE (e:HelloEnd):List HelloEntry:=if endOk e=true then e.Heard.map (fun r=>r.Entry) else []
theorem entries_p {t:List HelloRoute} (h:t.length≤1048576):lp (σ:=List HelloEntry × Int) (β:=(Nat × (List HelloEntry))) (fun s1 =>
    (if (decide (s1.2 < ((t.length:Nat):Int)))=true then
    gd ((0:Int)≤s1.2∧s1.2 < ((t.length:Nat):Int)) <|
    gd (((s1.1.length)+(([((t.getD s1.2.toNat default).Entry)]:List HelloEntry).length))*(32+1)≤70368744177664) <|
    some (.inl ((s1.1 ++ ([((t.getD s1.2.toNat default).Entry)]:List HelloEntry)),IntKind.i64.wrap (s1.2+1)))
    else
    some (.inr (s1.1.length,s1.1)))) (([]:List HelloEntry),0)=some (t.length,t.map fun r=>r.Entry):=by
  obtain ⟨e,inv⟩:=lp_fold (step:=(fun s1:List HelloEntry × Int =>
    (if (decide (s1.2 < ((t.length:Nat):Int)))=true then
    gd ((0:Int)≤s1.2∧s1.2 < ((t.length:Nat):Int)) <|
    gd (((s1.1.length)+(([((t.getD s1.2.toNat default).Entry)]:List HelloEntry).length))*(32+1)≤70368744177664) <|
    some (.inl ((s1.1 ++ ([((t.getD s1.2.toNat default).Entry)]:List HelloEntry)),IntKind.i64.wrap (s1.2+1)))
    else
    some (.inr (s1.1.length,s1.1)):Option ((List HelloEntry × Int) ⊕ (Nat × List HelloEntry))))) t.length (fun xs i=>xs ++ [(t.getD i default).Entry]) (fun xs=>(xs.length,xs)) []
    (fun i xs=>xs=(t.take i).map fun r=>r.Entry) (by simp) (fun i xs hi hx=>by
      have g1:t.getD i default=t[i]:=by rw [List.getD_eq_getElem?_getD,List.getElem?_eq_getElem hi]; rfl
      have e2:t.take (i+1)=t.take i ++ [t[i]]:=by rw [List.take_succ,List.getElem?_eq_getElem hi]; rfl
      rw [e2,List.map_append,hx,g1]
      rfl) (fun i xs hi hx=>by
      have hl:xs.length≤i:=by rw [hx]; simp; omega
      dsimp only;rw [if_pos (by simp; omega),gd_pos (by omega),Int.toNat_natCast,gd_pos (by simp; omega),wrap_succ hi (by omega)]) (fun xs _=>by
      dsimp only;rw [if_neg (by simp)])
  rw [e,inv,List.take_length];simp
theorem iUse_p {e:HelloEnd} (h:Lens e 1048576):impl_HelloUse_m e=some (useE e):=by
  unfold impl_HelloUse_m useE impl_entriesOf_m;rw [iEnd_p h.k h.w h.t h.h,bd_val]
  cases endOk e
  · rfl
  · rw [if_neg (by decide),entries_p h.h,bd_val,bd_val,if_pos rfl]
theorem sUse_p {e:HelloEnd} (h:Lens e 1048576):spec_HelloUse_m e=some (useE e):=by
  unfold spec_HelloUse_m useE;rw [sEnd_p h.k h.t,bd_val]
  cases endOk e
  · rfl
  · rw [if_neg (by decide),entries_p h.h,bd_val,if_pos rfl]
theorem whTable_p {xs:List HelloEntry} (h:xs.length≤1048576):laws_whTable_m xs xs=some true:=by
  unfold laws_whTable_m;rw [if_neg (by simp),lp_all xs.length (fun _=>true) (.inl ()) (.inr ()) (fun i hi _=>?_) (fun _=>by rw [if_neg (by simp)]),if_pos (allR_of fun _ _=>rfl),bd_val];rw [if_pos (by simp; omega),gd_pos (by omega),gd_pos (by omega),if_neg (by simp),if_pos rfl,wrap_succ hi (by omega)]
end Go.Proofs.YtaoeomoepefojaaGreat
