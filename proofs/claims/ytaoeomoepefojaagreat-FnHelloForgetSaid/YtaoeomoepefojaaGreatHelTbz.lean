/-
  Plain Lean: ticks, words heard and entries used, over the program's first contracts; what the laws compare.
-/
import Derived.Test.YtaoeomoepefojaaGreatKz5
import Derived.Test.YtaoeomoepefojaaGreatHelIz
import Derived.Test.YtaoeomoepefojaaGreatHelWz
import Derived.Test.YtaoeomoepefojaaGreatHelBz
set_option linter.all false
namespace Go.Proofs.YtaoeomoepefojaaGreat
open Go Go.Ab
set_option maxHeartbeats 1000000
set_option maxRecDepth 100000
theorem iAnewb_p {e:HelloEnd} (h:e.Heard.length ≤ 1048576):impl_HelloEnd_beginAnew_m e = some (anew e) := by
  unfold impl_HelloEnd_beginAnew_m anew;rw [lp_stales h,bd_val];dsimp only
  by_cases c:e.Heard.length > 0 ∧ e.Keep = 0
  · rw [if_pos (by simp; omega),if_pos c]
  · rw [if_neg (by simp; omega),if_neg c]
theorem iLifeb_p {e:HelloEnd} (h:e.Heard.length ≤ 1048576) (hb:1 ≤ e.Boot ∧ e.Boot ≤ 1000):impl_HelloEnd_nextLife_m e = some (lifeNext e) := by
  unfold impl_HelloEnd_nextLife_m lifeNext;rw [iAnewb_p (by exact h),bd_val,wrap_i64 (by omega) (by omega)];have:(if 1000 < e.Boot + 1 then 1000 else e.Boot + 1) = if e.Boot < 1000 then e.Boot + 1 else e.Boot := by
    split <;> split <;> omega
  rw [this]
  rfl
theorem iDropb_p {e:HelloEnd} (h:e.Heard.length ≤ 1048576):impl_HelloEnd_dropStale_m e = some { e with Heard := fresh e.Heard } := by
  unfold impl_HelloEnd_dropStale_m;rw [iDrop_p h,bd_val]
theorem iTickEb_p {e:HelloEnd} (h:e.Heard.length ≤ 1048576) (hb:1 ≤ e.Boot ∧ e.Boot ≤ 1000) (hl:0 ≤ e.Left ∧ e.Left ≤ 4) (hk:0 ≤ e.Keep ∧ e.Keep ≤ 6):impl_HelloEnd_tick_m e = some (tickE e) := by
  unfold impl_HelloEnd_tick_m;have fl:(fresh e.Heard).length ≤ e.Heard.length := List.length_filter_le _ _;have ek:(if (decide (e.Keep > 0)) = true then
      (if ((IntKind.i64.wrap (e.Keep - 1)) == 0) = true then
      bd (impl_HelloEnd_dropStale_m ({ e with Keep := IntKind.i64.wrap (e.Keep - 1) })) fun x4 =>
      some (x4.Heard,IntKind.i64.wrap (e.Keep - 1))
      else
      some (e.Heard,IntKind.i64.wrap (e.Keep - 1)))
      else
      some (e.Heard,e.Keep):Option (List HelloRoute × Int)) = some ((keepTick e).Heard,(keepTick e).Keep) := by
    unfold keepTick
    by_cases c:e.Keep > 0
    · rw [if_pos (by simpa using c),if_pos c,wrap_i64 (by omega) (by omega)];dsimp only
      by_cases c2:e.Keep - 1 = 0
      · rw [if_pos (by simpa using c2),if_pos c2,iDropb_p (by exact h),bd_val]
      · rw [if_neg (by simpa using c2),if_neg c2]
    · rw [if_neg (by simpa using c),if_neg c]
  rw [ek,bd_val];dsimp only;have ex:keepTick e = { e with Heard := (keepTick e).Heard,Keep := (keepTick e).Keep } := by
    unfold keepTick;split <;> rfl
  have hl':(keepTick e).Heard.length ≤ e.Heard.length := by
    unfold keepTick;split
    · dsimp only;split
      · exact fl
      · exact Nat.le_refl _
    · exact Nat.le_refl _
  unfold tickE leftTick;rw [ex];generalize (keepTick e).Heard = H at *;generalize (keepTick e).Keep = K at *;dsimp only at *
  by_cases c:e.Left > 0
  · rw [if_pos (by simpa using c),if_pos c,wrap_i64 (by omega) (by omega)]
    by_cases c2:e.Left - 1 = 0
    · rw [if_pos (by simpa using c2),if_pos c2,iLifeb_p (by dsimp only; omega) (by exact hb),bd_val]
      rfl
    · rw [if_neg (by simpa using c2),if_neg c2]
  · rw [if_neg (by simpa using c),if_neg c]
theorem iTickb_p {e:HelloEnd} (h:Lens e 1048576):impl_HelloTick_m e = some (helloTick e) := by
  have h1 := h.k;have h2 := h.w;have h3 := h.t;have h4 := h.h;unfold impl_HelloTick_m helloTick;rw [iEnd_p h1 h2 h3 h4,bd_val]
  cases hok:endOk e
  · rfl
  · obtain ⟨n1,n2,n3⟩ := endOk_nums hok;rw [if_neg (by decide),if_pos rfl,iCopy_p h,bd_val,iTickEb_p (by omega) n1 n2 n3,bd_val];have k:(keepTick e).Name = e.Name ∧ (keepTick e).Peer = e.Peer ∧ (keepTick e).Keys = e.Keys ∧ (keepTick e).Want = e.Want ∧ (keepTick e).PeerBoot = e.PeerBoot ∧ (keepTick e).PeerTurn = e.PeerTurn := by
      unfold keepTick;split <;> exact ⟨rfl,rfl,rfl,rfl,rfl,rfl⟩
    have:(tickE e).Name = e.Name ∧ (tickE e).Peer = e.Peer ∧ (tickE e).Keys = e.Keys ∧ (tickE e).Want = e.Want ∧ (tickE e).PeerBoot = e.PeerBoot ∧ (tickE e).PeerTurn = e.PeerTurn := by
      unfold tickE leftTick;generalize keepTick e = x at *;split
      · split <;> exact k
      · exact k
    obtain ⟨q1,q2,q3,q4,q5,q6⟩ := this;rw [← q1,← q2,← q3,← q4,← q5,← q6]
def useE (e:HelloEnd):List HelloEntry := if endOk e = true then e.Heard.map (fun r => r.Entry) else []
theorem entries_p {t:List HelloRoute} (h:t.length ≤ 1048576):lp (σ := List HelloEntry × Int) (β := (Nat × (List HelloEntry))) (fun s1 =>
    (if (decide (s1.2 < ((t.length:Nat):Int))) = true then
    gd ((0:Int) ≤ s1.2 ∧ s1.2 < ((t.length:Nat):Int)) <|
    gd (((s1.1.length) + (([((t.getD s1.2.toNat default).Entry)]:List HelloEntry).length)) * (32 + 1) ≤ 70368744177664) <|
    some (.inl ((s1.1 ++ ([((t.getD s1.2.toNat default).Entry)]:List HelloEntry)),IntKind.i64.wrap (s1.2 + 1)))
    else
    some (.inr (s1.1.length,s1.1)))) (([]:List HelloEntry),0) = some (t.length,t.map fun r => r.Entry) := by
  obtain ⟨e,inv⟩ := lp_fold (step := (fun s1:List HelloEntry × Int =>
    (if (decide (s1.2 < ((t.length:Nat):Int))) = true then
    gd ((0:Int) ≤ s1.2 ∧ s1.2 < ((t.length:Nat):Int)) <|
    gd (((s1.1.length) + (([((t.getD s1.2.toNat default).Entry)]:List HelloEntry).length)) * (32 + 1) ≤ 70368744177664) <|
    some (.inl ((s1.1 ++ ([((t.getD s1.2.toNat default).Entry)]:List HelloEntry)),IntKind.i64.wrap (s1.2 + 1)))
    else
    some (.inr (s1.1.length,s1.1)):Option ((List HelloEntry × Int) ⊕ (Nat × List HelloEntry))))) t.length (fun xs i => xs ++ [(t.getD i default).Entry]) (fun xs => (xs.length,xs)) []
    (fun i xs => xs = (t.take i).map fun r => r.Entry) (by simp) (fun i xs hi hx => by
      have g1:t.getD i default = t[i] := by rw [List.getD_eq_getElem?_getD,List.getElem?_eq_getElem hi]; rfl
      have e2:t.take (i + 1) = t.take i ++ [t[i]] := by rw [List.take_succ,List.getElem?_eq_getElem hi]; rfl
      rw [e2,List.map_append,hx,g1]
      rfl) (fun i xs hi hx => by
      have hl:xs.length ≤ i := by rw [hx]; simp; omega
      dsimp only;rw [if_pos (by simp; omega),gd_pos (by omega),Int.toNat_natCast,gd_pos (by simp; omega),wrap_succ hi (by omega)]) (fun xs _ => by
      dsimp only;rw [if_neg (by simp)])
  rw [e,inv,List.take_length];simp
theorem iUse_p {e:HelloEnd} (h:Lens e 1048576):impl_HelloUse_m e = some (useE e) := by
  unfold impl_HelloUse_m useE impl_entriesOf_m;rw [iEnd_p h.k h.w h.t h.h,bd_val]
  cases endOk e
  · rfl
  · rw [if_neg (by decide),entries_p h.h,bd_val,bd_val,if_pos rfl]
theorem iUseF_p {e:HelloEnd} (h:Lens e 1048576):impl_HelloUse_fz_m e = some (useE e) := iUse_p h
theorem whTable_p {xs:List HelloEntry} (h:xs.length ≤ 1048576):laws_whTable_m xs xs = some true := by
  unfold laws_whTable_m;rw [if_neg (by simp),lp_all xs.length (fun _ => true) (.inl ()) (.inr ()) (fun i hi _ => ?_) (fun _ => by rw [if_neg (by simp)]),if_pos (allR_of fun _ _ => rfl),bd_val];rw [if_pos (by simp; omega),gd_pos (by omega),gd_pos (by omega),if_neg (by simp),if_pos rfl,wrap_succ hi (by omega)]
theorem whKeys_p {xs:List HelloKey} (h:xs.length ≤ 1048576):laws_whKeys_m xs xs = some true := by
  unfold laws_whKeys_m;rw [if_neg (by simp),lp_all xs.length (fun _ => true) (.inl ()) (.inr ()) (fun i hi _ => ?_) (fun _ => by rw [if_neg (by simp)]),if_pos (allR_of fun _ _ => rfl),bd_val];rw [if_pos (by simp; omega),gd_pos (by omega),gd_pos (by omega),if_neg (by simp),if_pos rfl,wrap_succ hi (by omega)]
theorem whRoutes_p {xs:List HelloRoute} (h:xs.length ≤ 1048576):laws_whRoutes_m xs xs = some true := by
  unfold laws_whRoutes_m;rw [if_neg (by simp),lp_all xs.length (fun _ => true) (.inl ()) (.inr ()) (fun i hi _ => ?_) (fun _ => by rw [if_neg (by simp)]),if_pos (allR_of fun _ _ => rfl),bd_val];rw [if_pos (by simp; omega),gd_pos (by omega),gd_pos (by omega),if_neg (by simp),if_pos rfl,wrap_succ hi (by omega)]
theorem whEnd_p {e:HelloEnd} (h:Lens e 1048576):laws_whEnd_m e e = some true := by
  unfold laws_whEnd_m;rw [whKeys_p h.k,whTable_p h.w,whTable_p h.t,whRoutes_p h.h,gcall_val,bd_val,gcall_val,bd_val,gcall_val,bd_val,gcall_val,bd_val];simp
end Go.Proofs.YtaoeomoepefojaaGreat
