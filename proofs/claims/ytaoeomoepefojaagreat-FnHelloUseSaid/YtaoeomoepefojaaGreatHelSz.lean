/-
  Plain Lean: a tick at an end: the program's and the reference's are the same function.
-/
import Derived.Test.YtaoeomoepefojaaGreatKz6
import Derived.Test.YtaoeomoepefojaaGreatHelRz
set_option linter.all false
namespace Go.Proofs.YtaoeomoepefojaaGreat
open Go Go.Ab
set_option maxHeartbeats 1000000
set_option maxRecDepth 100000
def noEnd:HelloEnd:=⟨0,0,[],0,[],0,0,0,false,0,0,⟨0,⟨0,0,0,0⟩⟩,[],false,0,false,[],0⟩
def stales (t:List HelloRoute):List HelloRoute:=t.map fun r=>⟨r.Entry,true⟩
def fresh (t:List HelloRoute):List HelloRoute:=t.filter fun r=>!r.Stale
def anew (e:HelloEnd):HelloEnd:={ e with Up:=false,Num:=0,Under:=⟨0,⟨0,0,0,0⟩⟩,Told:=[],All:=false,Got:=0,Full:=false,Heard:=stales e.Heard,Keep:=if e.Heard.length > 0∧e.Keep=0 then 6 else e.Keep }
def lifeNext (e:HelloEnd):HelloEnd:=anew { e with Boot:=if e.Boot < 1000 then e.Boot+1 else e.Boot,Turn:=0,Left:=0 }
def keepTick (e:HelloEnd):HelloEnd:=if e.Keep > 0 then { e with Keep:=e.Keep - 1,Heard:=if e.Keep - 1=0 then fresh e.Heard else e.Heard } else e
def leftTick (e:HelloEnd):HelloEnd:=if e.Left > 0 then (if e.Left - 1=0 then lifeNext { e with Left:=e.Left - 1 } else { e with Left:=e.Left - 1 }) else e
def tickE (e:HelloEnd):HelloEnd:=leftTick (keepTick e)
def helloTick (e:HelloEnd):HelloEnd:=if endOk e=true then tickE e else noEnd
theorem lp_stalesG {t:List HelloRoute} (h:t.length≤1048576) (len:List HelloRoute→Nat) (hlen:∀ ys:List HelloRoute,ys.length=t.length→len ys=t.length):lp (σ:=List HelloRoute × Int) (β:=(Nat × (List HelloRoute))) (fun s1 =>
    (if (decide (s1.2 < ((len s1.1:Nat):Int)))=true then
    gd ((0:Int)≤s1.2∧s1.2 < ((s1.1.length:Nat):Int)) <|
    some (.inl (s1.1.set s1.2.toNat (⟨((s1.1.getD s1.2.toNat default).Entry),true⟩:HelloRoute),IntKind.i64.wrap (s1.2+1)))
    else
    some (.inr (s1.1.length,s1.1)))) (t,0)=some (t.length,stales t):=by
  obtain ⟨e1,e2,e3⟩:=lp_fold (step:=(fun s1:List HelloRoute × Int =>
    (if (decide (s1.2 < ((len s1.1:Nat):Int)))=true then
    gd ((0:Int)≤s1.2∧s1.2 < ((s1.1.length:Nat):Int)) <|
    some (.inl (s1.1.set s1.2.toNat (⟨((s1.1.getD s1.2.toNat default).Entry),true⟩:HelloRoute),IntKind.i64.wrap (s1.2+1)))
    else
    some (.inr (s1.1.length,s1.1)):Option ((List HelloRoute × Int) ⊕ (Nat × (List HelloRoute)))))) t.length (fun ys i=>ys.set i ⟨(ys.getD i default).Entry,true⟩) (fun ys=>(ys.length,ys)) t (fun i ys=>ys.length=t.length∧∀ k,k < t.length→ys.getD k default=if k < i then ⟨(t.getD k default).Entry,true⟩ else t.getD k default)
    ⟨rfl,fun k hk=>by rw [if_neg (by omega)]⟩ (fun i ys hi ⟨h3,h4⟩=>⟨by simpa using h3,fun k hk=>by
      rw [List.getD_eq_getElem?_getD,List.getElem?_set]
      by_cases c:i=k
      · subst c;rw [if_pos rfl,if_pos (by omega),if_pos (by omega),h4 i hi,if_neg (by omega)]; rfl
      · rw [if_neg c,← List.getD_eq_getElem?_getD,h4 k hk]
        by_cases c2:k < i
        · rw [if_pos c2,if_pos (by omega)]
        · rw [if_neg c2,if_neg (by omega)]⟩)
    (fun i ys hi ⟨h3,_⟩=>by
      dsimp only;rw [hlen ys h3,if_pos (by simp; omega),gd_pos (by omega),Int.toNat_natCast,wrap_succ hi (by omega)]) (fun ys hy=>by
      dsimp only;rw [hlen ys hy.1,if_neg (by simp)])
  have:(List.range t.length).foldl (fun ys i=>ys.set i ⟨(ys.getD i default).Entry,true⟩) t=stales t:=by
    apply List.ext_getElem
    · rw [e2]; simp [stales]
    · intro k h1 h2;have hk:k < t.length:=by omega
      have:=e3 k hk;rw [if_pos hk,List.getD_eq_getElem?_getD,List.getElem?_eq_getElem h1,List.getD_eq_getElem?_getD,List.getElem?_eq_getElem hk] at this;simpa [stales] using this
  rw [e1,this];simp [stales]
theorem lp_stales {t:List HelloRoute} (h:t.length≤1048576):lp (σ:=List HelloRoute × Int) (β:=(Nat × (List HelloRoute))) (fun s1 =>
    (if (decide (s1.2 < ((t.length:Nat):Int)))=true then
    gd ((0:Int)≤s1.2∧s1.2 < ((s1.1.length:Nat):Int)) <|
    some (.inl (s1.1.set s1.2.toNat (⟨((s1.1.getD s1.2.toNat default).Entry),true⟩:HelloRoute),IntKind.i64.wrap (s1.2+1)))
    else
    some (.inr (s1.1.length,s1.1)))) (t,0)=some (t.length,stales t):=lp_stalesG h (fun _=>t.length) fun _ _=>rfl
theorem lp_stalesS {t:List HelloRoute} (h:t.length≤1048576):lp (σ:=List HelloRoute × Int) (β:=(Nat × (List HelloRoute))) (fun s1 =>
    (if (decide (s1.2 < ((s1.1.length:Nat):Int)))=true then
    gd ((0:Int)≤s1.2∧s1.2 < ((s1.1.length:Nat):Int)) <|
    some (.inl (s1.1.set s1.2.toNat (⟨((s1.1.getD s1.2.toNat default).Entry),true⟩:HelloRoute),IntKind.i64.wrap (s1.2+1)))
    else
    some (.inr (s1.1.length,s1.1)))) (t,0)=some (t.length,stales t):=lp_stalesG h List.length fun _ q=>q
theorem sCopy_p {e:HelloEnd} (h1:e.Keys.length≤1048576) (h2:e.Want.length≤1048576) (h3:e.Told.length≤1048576) (h4:e.Heard.length≤1048576):spec_l42Copy_m e=some e:=by
  unfold spec_l42Copy_m spec_l42Keys_m spec_l42Routes_m;rw [sTab_p h2,sTab_p h3,gd_pos (by omega),bd_val,bd_val,bd_val,gd_pos (by omega),bd_val]
theorem sStale_p {e:HelloEnd} (h:e.Heard.length≤1048576):spec_l43Stale_m e=some { e with Heard:=stales e.Heard,Keep:=if e.Heard.length > 0∧e.Keep=0 then 6 else e.Keep }:=by
  unfold spec_l43Stale_m;rw [lp_stalesS h,bd_val];dsimp only
  by_cases c:e.Heard.length > 0∧e.Keep=0
  · rw [if_pos (by simp; omega),if_pos c]
  · rw [if_neg (by simp; omega),if_neg c]
theorem sAnew_p {e:HelloEnd} (h:e.Heard.length≤1048576):spec_l43Anew_m e=some (anew e):=by
  unfold spec_l43Anew_m;rw [sStale_p (by exact h),bd_val]
  rfl
theorem sLife_p {e:HelloEnd} (h:e.Heard.length≤1048576) (hb:1≤e.Boot∧e.Boot≤1000):spec_l43Life_m e=some (lifeNext e):=by
  unfold spec_l43Life_m lifeNext
  by_cases c:e.Boot < 1000
  · rw [if_pos (by simpa using c),if_pos c,sAnew_p (by exact h),bd_val,wrap_i64 (by omega) (by omega)]
  · rw [if_neg (by simpa using c),if_neg c,sAnew_p (by exact h),bd_val]
theorem sFresh_p {t:List HelloRoute} (h:t.length≤1048576):spec_l43Fresh_m t=some (fresh t):=by
  unfold spec_l43Fresh_m;obtain ⟨e,inv⟩:=lp_fold (step:=(fun s1:List HelloRoute × Int =>
    (if (decide (s1.2 < ((t.length:Nat):Int)))=true then
    gd ((0:Int)≤s1.2∧s1.2 < ((t.length:Nat):Int)) <|
    (if (!((t.getD s1.2.toNat default).Stale))=true then
    gd ((0:Int)≤s1.2∧s1.2 < ((t.length:Nat):Int)) <|
    gd (((s1.1.length)+(([(⟨((t.getD s1.2.toNat default).Entry),(t.getD s1.2.toNat default).Stale⟩:HelloRoute)]:List HelloRoute).length))*(40+1)≤70368744177664) <|
    some (.inl ((s1.1 ++ ([(⟨((t.getD s1.2.toNat default).Entry),(t.getD s1.2.toNat default).Stale⟩:HelloRoute)]:List HelloRoute)),IntKind.i64.wrap (s1.2+1)))
    else
    some (.inl (s1.1,IntKind.i64.wrap (s1.2+1))))
    else
    some (.inr (s1.1.length,s1.1)):Option ((List HelloRoute × Int) ⊕ (Nat × List HelloRoute))))) t.length (fun xs i=>if (!(t.getD i default).Stale)=true then xs ++ [t.getD i default] else xs) (fun xs=>(xs.length,xs)) []
    (fun i xs=>xs=fresh (t.take i)) (by simp [fresh]) (fun i xs hi hx=>by
      rw [hx,List.take_succ,List.getElem?_eq_getElem hi];unfold fresh;rw [List.filter_append];have g1:t.getD i default=t[i]:=by rw [List.getD_eq_getElem?_getD,List.getElem?_eq_getElem hi]; rfl
      rw [g1];show _=_ ++ ([t[i]]).filter (fun r=>!r.Stale);rw [List.filter_cons];split <;> simp) (fun i xs hi hx=>by
      have hl:xs.length≤i:=by
        rw [hx];exact Nat.le_trans (List.length_filter_le _ _) (by simp; omega)
      dsimp only;rw [if_pos (by simp; omega),gd_pos (by omega),Int.toNat_natCast,wrap_succ hi (by omega)];split
      · rw [gd_pos (by omega),gd_pos (by simp; omega)]
      · rfl) (fun xs _=>by
      dsimp only;rw [if_neg (by simp)])
  rw [e,bd_val];dsimp only;rw [inv,List.take_length]
theorem endOk_lens {e:HelloEnd} (h:endOk e=true):e.Keys.length≤3∧e.Want.length≤8∧e.Told.length≤8∧e.Heard.length≤16:=by
  simp only [endOk,Bool.and_eq_true,keysOk,tableOk,heardOk,inR_iff,decide_eq_true_eq] at h;omega
theorem endOk_nums {e:HelloEnd} (h:endOk e=true):(1≤e.Boot∧e.Boot≤1000)∧(0≤e.Left∧e.Left≤4)∧(0≤e.Keep∧e.Keep≤6):=by
  simp only [endOk,Bool.and_eq_true,heardOk,inR_iff] at h;omega
theorem tick_lens {e:HelloEnd}:(tickE e).Keys=e.Keys∧(tickE e).Want=e.Want∧(tickE e).Told.length≤e.Told.length∧(tickE e).Heard.length≤e.Heard.length:=by
  have k:(keepTick e).Keys=e.Keys∧(keepTick e).Want=e.Want∧(keepTick e).Told=e.Told∧(keepTick e).Heard.length≤e.Heard.length:=by
    unfold keepTick;split
    · refine ⟨rfl,rfl,rfl,?_⟩;dsimp only;split
      · exact List.length_filter_le _ _
      · exact Nat.le_refl _
    · exact ⟨rfl,rfl,rfl,Nat.le_refl _⟩
  unfold tickE leftTick;generalize keepTick e=x at *;split
  · split
    · refine ⟨k.1,k.2.1,by simp [lifeNext,anew],by simpa [lifeNext,anew,stales] using k.2.2.2⟩
    · exact ⟨k.1,k.2.1,by rw [← k.2.2.1]; exact Nat.le_refl _,k.2.2.2⟩
  · exact ⟨k.1,k.2.1,by rw [← k.2.2.1]; exact Nat.le_refl _,k.2.2.2⟩
theorem sTick_p {e:HelloEnd} (h1:e.Keys.length≤1048576) (h3:e.Told.length≤1048576):spec_HelloTick_m e=some (helloTick e):=by
  unfold spec_HelloTick_m helloTick;rw [sEnd_p h1 h3,bd_val]
  cases hok:endOk e
  · rfl
  · obtain ⟨l1,l2,l3,l4⟩:=endOk_lens hok;obtain ⟨n1,n2,n3⟩:=endOk_nums hok;obtain ⟨t1,t2,t3,t4⟩:=tick_lens (e:=e);rw [if_neg (by decide),if_pos rfl,sCopy_p (by omega) (by omega) (by omega) (by omega),bd_val,sFresh_p (by omega)];have fl:(fresh e.Heard).length≤e.Heard.length:=List.length_filter_le _ _;have ek:(if (decide (e.Keep > 0))=true then
        (if ((IntKind.i64.wrap (e.Keep - 1)) == 0)=true then
        bd (some (fresh e.Heard)) fun x6 =>
        some (x6,IntKind.i64.wrap (e.Keep - 1))
        else
        some (e.Heard,IntKind.i64.wrap (e.Keep - 1)))
        else
        some (e.Heard,e.Keep):Option (List HelloRoute × Int))=some ((keepTick e).Heard,(keepTick e).Keep):=by
      unfold keepTick
      by_cases c:e.Keep > 0
      · rw [if_pos (by simpa using c),if_pos c,wrap_i64 (by omega) (by omega)];dsimp only
        by_cases c2:e.Keep - 1=0
        · rw [if_pos (by simpa using c2),if_pos c2,bd_val]
        · rw [if_neg (by simpa using c2),if_neg c2]
      · rw [if_neg (by simpa using c),if_neg c]
    rw [ek,bd_val];dsimp only;have ex:keepTick e={ e with Heard:=(keepTick e).Heard,Keep:=(keepTick e).Keep }:=by
      unfold keepTick;split <;> rfl
    have hl:(keepTick e).Heard.length≤e.Heard.length:=by
      unfold keepTick;split
      · dsimp only;split
        · exact fl
        · exact Nat.le_refl _
      · exact Nat.le_refl _
    unfold tickE leftTick at *;rw [ex] at t1 t2 t3 t4 ⊢;generalize (keepTick e).Heard=H at *;generalize (keepTick e).Keep=K at *;dsimp only at *
    by_cases c:e.Left > 0
    · rw [if_pos c] at t1 t2 t3 t4;rw [if_pos (by simpa using c),if_pos c,wrap_i64 (by omega) (by omega)]
      by_cases c2:e.Left - 1=0
      · rw [if_pos c2] at t1 t2 t3 t4;rw [if_pos (by simpa using c2),if_pos c2,sLife_p (by dsimp only; omega) (by exact n1),bd_val,sCopy_p (by rw [t1]; omega) (by rw [t2]; omega) (by omega) (by omega),bd_val]
      · rw [if_neg (by simpa using c2),if_neg c2,sCopy_p (by dsimp only; omega) (by dsimp only; omega) (by dsimp only; omega) (by dsimp only; omega),bd_val]
    · rw [if_neg (by simpa using c),if_neg c,sCopy_p (by dsimp only; omega) (by dsimp only; omega) (by dsimp only; omega) (by dsimp only; omega),bd_val]
end Go.Proofs.YtaoeomoepefojaaGreat
