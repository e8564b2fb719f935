/-
  Plain Lean: a tick at an end: the program's and the reference's are the same function.
-/
import Derived.Test.YtjgjdobkahdgfaaGreatKz5
import Derived.Test.YtjgjdobkahdgfaaGreatHelRz
set_option linter.all false
namespace Go.Proofs.YtjgjdobkahdgfaaGreat
open Go Go.Ab
set_option maxHeartbeats 1000000
set_option maxRecDepth 100000
def Qwx:Qxp:=⟨0,0,[],0,[],0,0,0,false,0,0,⟨0,⟨0,0,0,0⟩⟩,[],false,0,false,[],0⟩
def QdG (t:List Qxo):List Qxo:=t.map fun r=>⟨r.Entry,true⟩
def fresh (t:List Qxo):List Qxo:=t.filter fun r=>!r.Stale
def Qq6 (e:Qxp):Qxp:={ e with Up:=false,Num:=0,Under:=⟨0,⟨0,0,0,0⟩⟩,Told:=[],All:=false,Got:=0,Full:=false,Heard:=QdG e.Heard,Keep:=if e.Heard.length > 0∧e.Keep=0 then 6 else e.Keep }
def ZM (e:Qxp):Qxp:=Qq6 { e with Boot:=if e.Boot < 1000 then e.Boot+1 else e.Boot,Turn:=0,Left:=0 }
def keepTick (e:Qxp):Qxp:=if e.Keep > 0 then { e with Keep:=e.Keep - 1,Heard:=if e.Keep - 1=0 then fresh e.Heard else e.Heard } else e
def Qc5 (e:Qxp):Qxp:=if e.Left > 0 then (if e.Left - 1=0 then ZM { e with Left:=e.Left - 1 } else { e with Left:=e.Left - 1 }) else e
def Qcl (e:Qxp):Qxp:=Qc5 (keepTick e)
def Qh3 (e:Qxp):Qxp:=if QfN e=true then Qcl e else Qwx
theorem QlI {t:List Qxo} (h:t.length≤1048576) (len:List Qxo→Nat) (hlen:∀ ys:List Qxo,ys.length=t.length→len ys=t.length):lp (σ:=List Qxo × Int) (β:=(Nat × (List Qxo))) (fun s1 =>
    (if (decide (s1.2 < ((len s1.1:Nat):Int)))=true then
    gd ((0:Int)≤s1.2∧s1.2 < ((s1.1.length:Nat):Int)) <|
    some (.inl (s1.1.set s1.2.toNat (⟨((s1.1.getD s1.2.toNat default).Entry),true⟩:Qxo),IntKind.i64.wrap (s1.2+1)))
    else
    some (.inr (s1.1.length,s1.1)))) (t,0)=some (t.length,QdG t):=by
  obtain ⟨e1,e2,e3⟩:=Qkj (step:=(fun s1:List Qxo × Int =>
    (if (decide (s1.2 < ((len s1.1:Nat):Int)))=true then
    gd ((0:Int)≤s1.2∧s1.2 < ((s1.1.length:Nat):Int)) <|
    some (.inl (s1.1.set s1.2.toNat (⟨((s1.1.getD s1.2.toNat default).Entry),true⟩:Qxo),IntKind.i64.wrap (s1.2+1)))
    else
    some (.inr (s1.1.length,s1.1)):Option ((List Qxo × Int) ⊕ (Nat × (List Qxo)))))) t.length (fun ys i=>ys.set i ⟨(ys.getD i default).Entry,true⟩) (fun ys=>(ys.length,ys)) t (fun i ys=>ys.length=t.length∧∀ k,k < t.length→ys.getD k default=if k < i then ⟨(t.getD k default).Entry,true⟩ else t.getD k default)
    ⟨rfl,fun k hk=>by rw [if_neg (by omega)]⟩ (fun i ys hi ⟨h3,h4⟩=>⟨by simpa using h3,fun k hk=>by
      rw [List.getD_eq_getElem?_getD,List.getElem?_set]
      by_cases c:i=k
      · subst c;rw [if_pos rfl,if_pos (by omega),if_pos (by omega),h4 i hi,if_neg (by omega)]; rfl
      · rw [if_neg c,← List.getD_eq_getElem?_getD,h4 k hk]
        by_cases c2:k < i
        · rw [if_pos c2,if_pos (by omega)]
        · rw [if_neg c2,if_neg (by omega)]⟩)
    (fun i ys hi ⟨h3,_⟩=>by
      dsimp only;rw [hlen ys h3,if_pos (by simp; omega),Qp (by omega),Int.toNat_natCast,QM hi (by omega)]) (fun ys hy=>by
      dsimp only;rw [hlen ys hy.1,if_neg (by simp)])
  have:(List.range t.length).foldl (fun ys i=>ys.set i ⟨(ys.getD i default).Entry,true⟩) t=QdG t:=by
    apply List.ext_getElem
    · rw [e2]; simp [QdG]
    · intro k h1 h2;have hk:k < t.length:=by omega
      have:=e3 k hk;rw [if_pos hk,List.getD_eq_getElem?_getD,List.getElem?_eq_getElem h1,List.getD_eq_getElem?_getD,List.getElem?_eq_getElem hk] at this;simpa [QdG] using this
  rw [e1,this];simp [QdG]
theorem Qsf {t:List Qxo} (h:t.length≤1048576):lp (σ:=List Qxo × Int) (β:=(Nat × (List Qxo))) (fun s1 =>
    (if (decide (s1.2 < ((t.length:Nat):Int)))=true then
    gd ((0:Int)≤s1.2∧s1.2 < ((s1.1.length:Nat):Int)) <|
    some (.inl (s1.1.set s1.2.toNat (⟨((s1.1.getD s1.2.toNat default).Entry),true⟩:Qxo),IntKind.i64.wrap (s1.2+1)))
    else
    some (.inr (s1.1.length,s1.1)))) (t,0)=some (t.length,QdG t):=QlI h (fun _=>t.length) fun _ _=>rfl
theorem Qq7 {t:List Qxo} (h:t.length≤1048576):lp (σ:=List Qxo × Int) (β:=(Nat × (List Qxo))) (fun s1 =>
    (if (decide (s1.2 < ((s1.1.length:Nat):Int)))=true then
    gd ((0:Int)≤s1.2∧s1.2 < ((s1.1.length:Nat):Int)) <|
    some (.inl (s1.1.set s1.2.toNat (⟨((s1.1.getD s1.2.toNat default).Entry),true⟩:Qxo),IntKind.i64.wrap (s1.2+1)))
    else
    some (.inr (s1.1.length,s1.1)))) (t,0)=some (t.length,QdG t):=QlI h List.length fun _ q=>q
theorem Qhq {e:Qxp} (h1:e.Keys.length≤1048576) (h2:e.Want.length≤1048576) (h3:e.Told.length≤1048576) (h4:e.Heard.length≤1048576):Zk e=some e:=by
  unfold Zk JT Q7;rw [Qh2 h2,Qh2 h3,Qp (by omega),Qb,Qb,Qb,Qp (by omega),Qb]
theorem QtV {e:Qxp} (h:e.Heard.length≤1048576):QbQ e=some { e with Heard:=QdG e.Heard,Keep:=if e.Heard.length > 0∧e.Keep=0 then 6 else e.Keep }:=by
  unfold QbQ;rw [Qq7 h,Qb];dsimp only
  by_cases c:e.Heard.length > 0∧e.Keep=0
  · rw [if_pos (by simp; omega),if_pos c]
  · rw [if_neg (by simp; omega),if_neg c]
theorem QoA {e:Qxp} (h:e.Heard.length≤1048576):QaS e=some (Qq6 e):=by
  unfold QaS;rw [QtV (by exact h),Qb]
  rfl
theorem QoB {e:Qxp} (h:e.Heard.length≤1048576) (hb:1≤e.Boot∧e.Boot≤1000):QbA e=some (ZM e):=by
  unfold QbA ZM
  by_cases c:e.Boot < 1000
  · rw [if_pos (by simpa using c),if_pos c,QoA (by exact h),Qb,wrap_i64 (by omega) (by omega)]
  · rw [if_neg (by simpa using c),if_neg c,QoA (by exact h),Qb]
theorem QpI {t:List Qxo} (h:t.length≤1048576):Qa6 t=some (fresh t):=by
  unfold Qa6;obtain ⟨e,inv⟩:=Qkj (step:=(fun s1:List Qxo × Int =>
    (if (decide (s1.2 < ((t.length:Nat):Int)))=true then
    gd ((0:Int)≤s1.2∧s1.2 < ((t.length:Nat):Int)) <|
    (if (!((t.getD s1.2.toNat default).Stale))=true then
    gd ((0:Int)≤s1.2∧s1.2 < ((t.length:Nat):Int)) <|
    gd (((s1.1.length)+(([(⟨((t.getD s1.2.toNat default).Entry),(t.getD s1.2.toNat default).Stale⟩:Qxo)]:List Qxo).length))*(40+1)≤70368744177664) <|
    some (.inl ((s1.1 ++ ([(⟨((t.getD s1.2.toNat default).Entry),(t.getD s1.2.toNat default).Stale⟩:Qxo)]:List Qxo)),IntKind.i64.wrap (s1.2+1)))
    else
    some (.inl (s1.1,IntKind.i64.wrap (s1.2+1))))
    else
    some (.inr (s1.1.length,s1.1)):Option ((List Qxo × Int) ⊕ (Nat × List Qxo))))) t.length (fun xs i=>if (!(t.getD i default).Stale)=true then xs ++ [t.getD i default] else xs) (fun xs=>(xs.length,xs)) []
    (fun i xs=>xs=fresh (t.take i)) (by simp [fresh]) (fun i xs hi hx=>by
      rw [hx,List.take_succ,List.getElem?_eq_getElem hi];unfold fresh;rw [List.filter_append];have g1:t.getD i default=t[i]:=by rw [List.getD_eq_getElem?_getD,List.getElem?_eq_getElem hi]; rfl
      rw [g1];show _=_ ++ ([t[i]]).filter (fun r=>!r.Stale);rw [List.filter_cons];split <;> simp) (fun i xs hi hx=>by
      have hl:xs.length≤i:=by
        rw [hx];exact Nat.le_trans (List.length_filter_le _ _) (by simp; omega)
      dsimp only;rw [if_pos (by simp; omega),Qp (by omega),Int.toNat_natCast,QM hi (by omega)];split
      · rw [Qp (by omega),Qp (by simp; omega)]
      · rfl) (fun xs _=>by
      dsimp only;rw [if_neg (by simp)])
  rw [e,Qb];dsimp only;rw [inv,List.take_length]
theorem QiA {e:Qxp} (h:QfN e=true):e.Keys.length≤3∧e.Want.length≤8∧e.Told.length≤8∧e.Heard.length≤16:=by
  simp only [QfN,Bool.and_eq_true,Qbb,J1,Qc4,Jz,decide_eq_true_eq] at h;omega
theorem QlJ {e:Qxp} (h:QfN e=true):(1≤e.Boot∧e.Boot≤1000)∧(0≤e.Left∧e.Left≤4)∧(0≤e.Keep∧e.Keep≤6):=by
  simp only [QfN,Bool.and_eq_true,Qc4,Jz] at h;omega
theorem Qsg {e:Qxp}:(Qcl e).Keys=e.Keys∧(Qcl e).Want=e.Want∧(Qcl e).Told.length≤e.Told.length∧(Qcl e).Heard.length≤e.Heard.length:=by
  have k:(keepTick e).Keys=e.Keys∧(keepTick e).Want=e.Want∧(keepTick e).Told=e.Told∧(keepTick e).Heard.length≤e.Heard.length:=by
    unfold keepTick;split
    · refine ⟨rfl,rfl,rfl,?_⟩;dsimp only;split
      · exact List.length_filter_le _ _
      · exact Nat.le_refl _
    · exact ⟨rfl,rfl,rfl,Nat.le_refl _⟩
  unfold Qcl Qc5;generalize keepTick e=x at *;split
  · split
    · refine ⟨k.1,k.2.1,by simp [ZM,Qq6],by simpa [ZM,Qq6,QdG] using k.2.2.2⟩
    · exact ⟨k.1,k.2.1,by rw [← k.2.2.1]; exact Nat.le_refl _,k.2.2.2⟩
  · exact ⟨k.1,k.2.1,by rw [← k.2.2.1]; exact Nat.le_refl _,k.2.2.2⟩
theorem Qsh {e:Qxp} (h1:e.Keys.length≤1048576) (h3:e.Told.length≤1048576):QaF e=some (Qh3 e):=by
  unfold QaF Qh3;rw [QlH h1 h3,Qb]
  cases hok:QfN e
  · rfl
  · obtain ⟨l1,l2,l3,l4⟩:=QiA hok;obtain ⟨n1,n2,n3⟩:=QlJ hok;obtain ⟨t1,t2,t3,t4⟩:=Qsg (e:=e);rw [if_neg (by decide),if_pos rfl,Qhq (by omega) (by omega) (by omega) (by omega),Qb,QpI (by omega)];have fl:(fresh e.Heard).length≤e.Heard.length:=List.length_filter_le _ _;have ek:(if (decide (e.Keep > 0))=true then
        (if ((IntKind.i64.wrap (e.Keep - 1)) == 0)=true then
        bd (some (fresh e.Heard)) fun x6 =>
        some (x6,IntKind.i64.wrap (e.Keep - 1))
        else
        some (e.Heard,IntKind.i64.wrap (e.Keep - 1)))
        else
        some (e.Heard,e.Keep):Option (List Qxo × Int))=some ((keepTick e).Heard,(keepTick e).Keep):=by
      unfold keepTick
      by_cases c:e.Keep > 0
      · rw [if_pos (by simpa using c),if_pos c,wrap_i64 (by omega) (by omega)];dsimp only
        by_cases c2:e.Keep - 1=0
        · rw [if_pos (by simpa using c2),if_pos c2,Qb]
        · rw [if_neg (by simpa using c2),if_neg c2]
      · rw [if_neg (by simpa using c),if_neg c]
    rw [ek,Qb];dsimp only;have ex:keepTick e={ e with Heard:=(keepTick e).Heard,Keep:=(keepTick e).Keep }:=by
      unfold keepTick;split <;> rfl
    have hl:(keepTick e).Heard.length≤e.Heard.length:=by
      unfold keepTick;split
      · dsimp only;split
        · exact fl
        · exact Nat.le_refl _
      · exact Nat.le_refl _
    unfold Qcl Qc5 at *;rw [ex] at t1 t2 t3 t4 ⊢;generalize (keepTick e).Heard=H at *;generalize (keepTick e).Keep=K at *;dsimp only at *
    by_cases c:e.Left > 0
    · rw [if_pos c] at t1 t2 t3 t4;rw [if_pos (by simpa using c),if_pos c,wrap_i64 (by omega) (by omega)]
      by_cases c2:e.Left - 1=0
      · rw [if_pos c2] at t1 t2 t3 t4;rw [if_pos (by simpa using c2),if_pos c2,QoB (by dsimp only; omega) (by exact n1),Qb,Qhq (by rw [t1]; omega) (by rw [t2]; omega) (by omega) (by omega),Qb]
      · rw [if_neg (by simpa using c2),if_neg c2,Qhq (by dsimp only; omega) (by dsimp only; omega) (by dsimp only; omega) (by dsimp only; omega),Qb]
    · rw [if_neg (by simpa using c),if_neg c,Qhq (by dsimp only; omega) (by dsimp only; omega) (by dsimp only; omega) (by dsimp only; omega),Qb]
end Go.Proofs.YtjgjdobkahdgfaaGreat
