/-
  Plain Lean: a tick at an end: the program's and the reference's are the same function.
-/
import Derived.Test.YtjgjdobkahdgfaaGreatKz5
import Derived.Test.YtjgjdobkahdgfaaGreatHelRz
set_option linter.all false
namespace Go.Proofs.YtjgjdobkahdgfaaGreat
open Go Go.Ab
set_option maxHeartbeats 1000000
set_option maxRecDepth 100000
def Qvv:Qwj:=⟨0,0,[],0,[],0,0,0,false,0,0,⟨0,⟨0,0,0,0⟩⟩,[],false,0,false,[],0⟩
def Qdj (t:List Qwi):List Qwi:=t.map fun r=>⟨r.Entry,true⟩
def fresh (t:List Qwi):List Qwi:=t.filter fun r=>!r.Stale
def Qp1 (e:Qwj):Qwj:={ e with Up:=false,Num:=0,Under:=⟨0,⟨0,0,0,0⟩⟩,Told:=[],All:=false,Got:=0,Full:=false,Heard:=Qdj e.Heard,Keep:=if e.Heard.length > 0∧e.Keep=0 then 6 else e.Keep }
def ZE (e:Qwj):Qwj:=Qp1 { e with Boot:=if e.Boot < 1000 then e.Boot+1 else e.Boot,Turn:=0,Left:=0 }
def keepTick (e:Qwj):Qwj:=if e.Keep > 0 then { e with Keep:=e.Keep - 1,Heard:=if e.Keep - 1=0 then fresh e.Heard else e.Heard } else e
def Qc4 (e:Qwj):Qwj:=if e.Left > 0 then (if e.Left - 1=0 then ZE { e with Left:=e.Left - 1 } else { e with Left:=e.Left - 1 }) else e
def QcU (e:Qwj):Qwj:=Qc4 (keepTick e)
def Qhw (e:Qwj):Qwj:=if Qfj e=true then QcU e else Qvv
theorem Qk4 {t:List Qwi} (h:t.length≤1048576) (len:List Qwi→Nat) (hlen:∀ ys:List Qwi,ys.length=t.length→len ys=t.length):lp (σ:=List Qwi × Int) (β:=(Nat × (List Qwi))) (fun s1 =>
    (if (decide (s1.2 < ((len s1.1:Nat):Int)))=true then
    gd ((0:Int)≤s1.2∧s1.2 < ((s1.1.length:Nat):Int)) <|
    some (.inl (s1.1.set s1.2.toNat (⟨((s1.1.getD s1.2.toNat default).Entry),true⟩:Qwi),IntKind.i64.wrap (s1.2+1)))
    else
    some (.inr (s1.1.length,s1.1)))) (t,0)=some (t.length,Qdj t):=by
  obtain ⟨e1,e2,e3⟩:=QjG (step:=(fun s1:List Qwi × Int =>
    (if (decide (s1.2 < ((len s1.1:Nat):Int)))=true then
    gd ((0:Int)≤s1.2∧s1.2 < ((s1.1.length:Nat):Int)) <|
    some (.inl (s1.1.set s1.2.toNat (⟨((s1.1.getD s1.2.toNat default).Entry),true⟩:Qwi),IntKind.i64.wrap (s1.2+1)))
    else
    some (.inr (s1.1.length,s1.1)):Option ((List Qwi × Int) ⊕ (Nat × (List Qwi)))))) t.length (fun ys i=>ys.set i ⟨(ys.getD i default).Entry,true⟩) (fun ys=>(ys.length,ys)) t (fun i ys=>ys.length=t.length∧∀ k,k < t.length→ys.getD k default=if k < i then ⟨(t.getD k default).Entry,true⟩ else t.getD k default)
    ⟨rfl,fun k hk=>by rw [if_neg (by omega)]⟩ (fun i ys hi ⟨h3,h4⟩=>⟨by simpa using h3,fun k hk=>by
      rw [List.getD_eq_getElem?_getD,List.getElem?_set]
      by_cases c:i=k
      · subst c;rw [if_pos rfl,if_pos (by omega),if_pos (by omega),h4 i hi,if_neg (by omega)]; rfl
      · rw [if_neg c,← List.getD_eq_getElem?_getD,h4 k hk]
        by_cases c2:k < i
        · rw [if_pos c2,if_pos (by omega)]
        · rw [if_neg c2,if_neg (by omega)]⟩)
    (fun i ys hi ⟨h3,_⟩=>by
      dsimp only;rw [hlen ys h3,if_pos (by simp; omega),Qn (by omega),Int.toNat_natCast,QD hi (by omega)]) (fun ys hy=>by
      dsimp only;rw [hlen ys hy.1,if_neg (by simp)])
  have:(List.range t.length).foldl (fun ys i=>ys.set i ⟨(ys.getD i default).Entry,true⟩) t=Qdj t:=by
    apply List.ext_getElem
    · rw [e2]; simp [Qdj]
    · intro k h1 h2;have hk:k < t.length:=by omega
      have:=e3 k hk;rw [if_pos hk,List.getD_eq_getElem?_getD,List.getElem?_eq_getElem h1,List.getD_eq_getElem?_getD,List.getElem?_eq_getElem hk] at this;simpa [Qdj] using this
  rw [e1,this];simp [Qdj]
theorem Qq9 {t:List Qwi} (h:t.length≤1048576):lp (σ:=List Qwi × Int) (β:=(Nat × (List Qwi))) (fun s1 =>
    (if (decide (s1.2 < ((t.length:Nat):Int)))=true then
    gd ((0:Int)≤s1.2∧s1.2 < ((s1.1.length:Nat):Int)) <|
    some (.inl (s1.1.set s1.2.toNat (⟨((s1.1.getD s1.2.toNat default).Entry),true⟩:Qwi),IntKind.i64.wrap (s1.2+1)))
    else
    some (.inr (s1.1.length,s1.1)))) (t,0)=some (t.length,Qdj t):=Qk4 h (fun _=>t.length) fun _ _=>rfl
theorem Qp2 {t:List Qwi} (h:t.length≤1048576):lp (σ:=List Qwi × Int) (β:=(Nat × (List Qwi))) (fun s1 =>
    (if (decide (s1.2 < ((s1.1.length:Nat):Int)))=true then
    gd ((0:Int)≤s1.2∧s1.2 < ((s1.1.length:Nat):Int)) <|
    some (.inl (s1.1.set s1.2.toNat (⟨((s1.1.getD s1.2.toNat default).Entry),true⟩:Qwi),IntKind.i64.wrap (s1.2+1)))
    else
    some (.inr (s1.1.length,s1.1)))) (t,0)=some (t.length,Qdj t):=Qk4 h List.length fun _ q=>q
theorem QgU {e:Qwj} (h1:e.Keys.length≤1048576) (h2:e.Want.length≤1048576) (h3:e.Told.length≤1048576) (h4:e.Heard.length≤1048576):Zg e=some e:=by
  unfold Zg Qaw Q6;rw [Qin h2,Qin h3,Qn (by omega),Qb,Qb,Qb,Qn (by omega),Qb]
theorem QsR {e:Qwj} (h:e.Heard.length≤1048576):Qbx e=some { e with Heard:=Qdj e.Heard,Keep:=if e.Heard.length > 0∧e.Keep=0 then 6 else e.Keep }:=by
  unfold Qbx;rw [Qp2 h,Qb];dsimp only
  by_cases c:e.Heard.length > 0∧e.Keep=0
  · rw [if_pos (by simp; omega),if_pos c]
  · rw [if_neg (by simp; omega),if_neg c]
theorem QnH {e:Qwj} (h:e.Heard.length≤1048576):Qay e=some (Qp1 e):=by
  unfold Qay;rw [QsR (by exact h),Qb]
  rfl
theorem QnI {e:Qwj} (h:e.Heard.length≤1048576) (hb:1≤e.Boot∧e.Boot≤1000):Qbg e=some (ZE e):=by
  unfold Qbg ZE
  by_cases c:e.Boot < 1000
  · rw [if_pos (by simpa using c),if_pos c,QnH (by exact h),Qb,wrap_i64 (by omega) (by omega)]
  · rw [if_neg (by simpa using c),if_neg c,QnH (by exact h),Qb]
theorem QoK {t:List Qwi} (h:t.length≤1048576):QaM t=some (fresh t):=by
  unfold QaM;obtain ⟨e,inv⟩:=QjG (step:=(fun s1:List Qwi × Int =>
    (if (decide (s1.2 < ((t.length:Nat):Int)))=true then
    gd ((0:Int)≤s1.2∧s1.2 < ((t.length:Nat):Int)) <|
    (if (!((t.getD s1.2.toNat default).Stale))=true then
    gd ((0:Int)≤s1.2∧s1.2 < ((t.length:Nat):Int)) <|
    gd (((s1.1.length)+(([(⟨((t.getD s1.2.toNat default).Entry),(t.getD s1.2.toNat default).Stale⟩:Qwi)]:List Qwi).length))*(40+1)≤70368744177664) <|
    some (.inl ((s1.1 ++ ([(⟨((t.getD s1.2.toNat default).Entry),(t.getD s1.2.toNat default).Stale⟩:Qwi)]:List Qwi)),IntKind.i64.wrap (s1.2+1)))
    else
    some (.inl (s1.1,IntKind.i64.wrap (s1.2+1))))
    else
    some (.inr (s1.1.length,s1.1)):Option ((List Qwi × Int) ⊕ (Nat × List Qwi))))) t.length (fun xs i=>if (!(t.getD i default).Stale)=true then xs ++ [t.getD i default] else xs) (fun xs=>(xs.length,xs)) []
    (fun i xs=>xs=fresh (t.take i)) (by simp [fresh]) (fun i xs hi hx=>by
      rw [hx,List.take_succ,List.getElem?_eq_getElem hi];unfold fresh;rw [List.filter_append];have g1:t.getD i default=t[i]:=by rw [List.getD_eq_getElem?_getD,List.getElem?_eq_getElem hi]; rfl
      rw [g1];show _=_ ++ ([t[i]]).filter (fun r=>!r.Stale);rw [List.filter_cons];split <;> simp) (fun i xs hi hx=>by
      have hl:xs.length≤i:=by
        rw [hx];exact Nat.le_trans (List.length_filter_le _ _) (by simp; omega)
      dsimp only;rw [if_pos (by simp; omega),Qn (by omega),Int.toNat_natCast,QD hi (by omega)];split
      · rw [Qn (by omega),Qn (by simp; omega)]
      · rfl) (fun xs _=>by
      dsimp only;rw [if_neg (by simp)])
  rw [e,Qb];dsimp only;rw [inv,List.take_length]
theorem Qh3 {e:Qwj} (h:Qfj e=true):e.Keys.length≤3∧e.Want.length≤8∧e.Told.length≤8∧e.Heard.length≤16:=by
  simp only [Qfj,Bool.and_eq_true,Qbc,JG,QcH,Jy,decide_eq_true_eq] at h;omega
theorem Qk5 {e:Qwj} (h:Qfj e=true):(1≤e.Boot∧e.Boot≤1000)∧(0≤e.Left∧e.Left≤4)∧(0≤e.Keep∧e.Keep≤6):=by
  simp only [Qfj,Bool.and_eq_true,QcH,Jy] at h;omega
theorem Qra {e:Qwj}:(QcU e).Keys=e.Keys∧(QcU e).Want=e.Want∧(QcU e).Told.length≤e.Told.length∧(QcU e).Heard.length≤e.Heard.length:=by
  have k:(keepTick e).Keys=e.Keys∧(keepTick e).Want=e.Want∧(keepTick e).Told=e.Told∧(keepTick e).Heard.length≤e.Heard.length:=by
    unfold keepTick;split
    · refine ⟨rfl,rfl,rfl,?_⟩;dsimp only;split
      · exact List.length_filter_le _ _
      · exact Nat.le_refl _
    · exact ⟨rfl,rfl,rfl,Nat.le_refl _⟩
  unfold QcU Qc4;generalize keepTick e=x at *;split
  · split
    · refine ⟨k.1,k.2.1,by simp [ZE,Qp1],by simpa [ZE,Qp1,Qdj] using k.2.2.2⟩
    · exact ⟨k.1,k.2.1,by rw [← k.2.2.1]; exact Nat.le_refl _,k.2.2.2⟩
  · exact ⟨k.1,k.2.1,by rw [← k.2.2.1]; exact Nat.le_refl _,k.2.2.2⟩
theorem Quq {e:Qwj} (h1:e.Keys.length≤1048576) (h3:e.Told.length≤1048576):Qa6 e=some (Qhw e):=by
  unfold Qa6 Qhw;rw [Qk3 h1 h3,Qb]
  cases hok:Qfj e
  · rfl
  · obtain ⟨l1,l2,l3,l4⟩:=Qh3 hok;obtain ⟨n1,n2,n3⟩:=Qk5 hok;obtain ⟨t1,t2,t3,t4⟩:=Qra (e:=e);rw [if_neg (by decide),if_pos rfl,QgU (by omega) (by omega) (by omega) (by omega),Qb,QoK (by omega)];have fl:(fresh e.Heard).length≤e.Heard.length:=List.length_filter_le _ _;have ek:(if (decide (e.Keep > 0))=true then
        (if ((IntKind.i64.wrap (e.Keep - 1)) == 0)=true then
        bd (some (fresh e.Heard)) fun x6 =>
        some (x6,IntKind.i64.wrap (e.Keep - 1))
        else
        some (e.Heard,IntKind.i64.wrap (e.Keep - 1)))
        else
        some (e.Heard,e.Keep):Option (List Qwi × Int))=some ((keepTick e).Heard,(keepTick e).Keep):=by
      unfold keepTick
      by_cases c:e.Keep > 0
      · rw [if_pos (by simpa using c),if_pos c,wrap_i64 (by omega) (by omega)];dsimp only
        by_cases c2:e.Keep - 1=0
        · rw [if_pos (by simpa using c2),if_pos c2,Qb]
        · rw [if_neg (by simpa using c2),if_neg c2]
      · rw [if_neg (by simpa using c),if_neg c]
    rw [ek,Qb];dsimp only;have ex:keepTick e={ e with Heard:=(keepTick e).Heard,Keep:=(keepTick e).Keep }:=by
      unfold keepTick;split <;> rfl
    have hl:(keepTick e).Heard.length≤e.Heard.length:=by
      unfold keepTick;split
      · dsimp only;split
        · exact fl
        · exact Nat.le_refl _
      · exact Nat.le_refl _
    unfold QcU Qc4 at *;rw [ex] at t1 t2 t3 t4 ⊢;generalize (keepTick e).Heard=H at *;generalize (keepTick e).Keep=K at *;dsimp only at *
    by_cases c:e.Left > 0
    · rw [if_pos c] at t1 t2 t3 t4;rw [if_pos (by simpa using c),if_pos c,wrap_i64 (by omega) (by omega)]
      by_cases c2:e.Left - 1=0
      · rw [if_pos c2] at t1 t2 t3 t4;rw [if_pos (by simpa using c2),if_pos c2,QnI (by dsimp only; omega) (by exact n1),Qb,QgU (by rw [t1]; omega) (by rw [t2]; omega) (by omega) (by omega),Qb]
      · rw [if_neg (by simpa using c2),if_neg c2,QgU (by dsimp only; omega) (by dsimp only; omega) (by dsimp only; omega) (by dsimp only; omega),Qb]
    · rw [if_neg (by simpa using c),if_neg c,QgU (by dsimp only; omega) (by dsimp only; omega) (by dsimp only; omega) (by dsimp only; omega),Qb]
end Go.Proofs.YtjgjdobkahdgfaaGreat
