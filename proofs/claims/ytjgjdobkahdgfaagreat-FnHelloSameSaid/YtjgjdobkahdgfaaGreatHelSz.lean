/-
  Plain Lean: a tick at an end: the program's and the reference's are the same function.
-/
import Derived.Test.YtjgjdobkahdgfaaGreatKz5
import Derived.Test.YtjgjdobkahdgfaaGreatHelRz
set_option linter.all false
namespace Go.Proofs.YtjgjdobkahdgfaaGreat
open Go Go.Ab
set_option maxHeartbeats 1000000
set_option maxRecDepth 100000
def Qwj:Qxb:=⟨0,0,[],0,[],0,0,0,false,0,0,⟨0,⟨0,0,0,0⟩⟩,[],false,0,false,[],0⟩
def Qdv (t:List Qxa):List Qxa:=t.map fun r=>⟨r.Entry,true⟩
def fresh (t:List Qxa):List Qxa:=t.filter fun r=>!r.Stale
def QqQ (e:Qxb):Qxb:={ e with Up:=false,Num:=0,Under:=⟨0,⟨0,0,0,0⟩⟩,Told:=[],All:=false,Got:=0,Full:=false,Heard:=Qdv e.Heard,Keep:=if e.Heard.length > 0∧e.Keep=0 then 6 else e.Keep }
def ZH (e:Qxb):Qxb:=QqQ { e with Boot:=if e.Boot < 1000 then e.Boot+1 else e.Boot,Turn:=0,Left:=0 }
def keepTick (e:Qxb):Qxb:=if e.Keep > 0 then { e with Keep:=e.Keep - 1,Heard:=if e.Keep - 1=0 then fresh e.Heard else e.Heard } else e
def QcT (e:Qxb):Qxb:=if e.Left > 0 then (if e.Left - 1=0 then ZH { e with Left:=e.Left - 1 } else { e with Left:=e.Left - 1 }) else e
def Qce (e:Qxb):Qxb:=QcT (keepTick e)
def QhU (e:Qxb):Qxb:=if QeT e=true then Qce e else Qwj
theorem Qlv {t:List Qxa} (h:t.length≤1048576) (len:List Qxa→Nat) (hlen:∀ ys:List Qxa,ys.length=t.length→len ys=t.length):lp (σ:=List Qxa × Int) (β:=(Nat × (List Qxa))) (fun s1 =>
    (if (decide (s1.2 < ((len s1.1:Nat):Int)))=true then
    gd ((0:Int)≤s1.2∧s1.2 < ((s1.1.length:Nat):Int)) <|
    some (.inl (s1.1.set s1.2.toNat (⟨((s1.1.getD s1.2.toNat default).Entry),true⟩:Qxa),IntKind.i64.wrap (s1.2+1)))
    else
    some (.inr (s1.1.length,s1.1)))) (t,0)=some (t.length,Qdv t):=by
  obtain ⟨e1,e2,e3⟩:=Qj7 (step:=(fun s1:List Qxa × Int =>
    (if (decide (s1.2 < ((len s1.1:Nat):Int)))=true then
    gd ((0:Int)≤s1.2∧s1.2 < ((s1.1.length:Nat):Int)) <|
    some (.inl (s1.1.set s1.2.toNat (⟨((s1.1.getD s1.2.toNat default).Entry),true⟩:Qxa),IntKind.i64.wrap (s1.2+1)))
    else
    some (.inr (s1.1.length,s1.1)):Option ((List Qxa × Int) ⊕ (Nat × (List Qxa)))))) t.length (fun ys i=>ys.set i ⟨(ys.getD i default).Entry,true⟩) (fun ys=>(ys.length,ys)) t (fun i ys=>ys.length=t.length∧∀ k,k < t.length→ys.getD k default=if k < i then ⟨(t.getD k default).Entry,true⟩ else t.getD k default)
    ⟨rfl,fun k hk=>by rw [if_neg (by omega)]⟩ (fun i ys hi ⟨h3,h4⟩=>⟨by simpa using h3,fun k hk=>by
      rw [List.getD_eq_getElem?_getD,List.getElem?_set]
      by_cases c:i=k
      · subst c;rw [if_pos rfl,if_pos (by omega),if_pos (by omega),h4 i hi,if_neg (by omega)]; rfl
      · rw [if_neg c,← List.getD_eq_getElem?_getD,h4 k hk]
        by_cases c2:k < i
        · rw [if_pos c2,if_pos (by omega)]
        · rw [if_neg c2,if_neg (by omega)]⟩)
    (fun i ys hi ⟨h3,_⟩=>by
      dsimp only;rw [hlen ys h3,if_pos (by simp; omega),Qp (by omega),Int.toNat_natCast,QK hi (by omega)]) (fun ys hy=>by
      dsimp only;rw [hlen ys hy.1,if_neg (by simp)])
  have:(List.range t.length).foldl (fun ys i=>ys.set i ⟨(ys.getD i default).Entry,true⟩) t=Qdv t:=by
    apply List.ext_getElem
    · rw [e2]; simp [Qdv]
    · intro k h1 h2;have hk:k < t.length:=by omega
      have:=e3 k hk;rw [if_pos hk,List.getD_eq_getElem?_getD,List.getElem?_eq_getElem h1,List.getD_eq_getElem?_getD,List.getElem?_eq_getElem hk] at this;simpa [Qdv] using this
  rw [e1,this];simp [Qdv]
theorem Qr0 {t:List Qxa} (h:t.length≤1048576):lp (σ:=List Qxa × Int) (β:=(Nat × (List Qxa))) (fun s1 =>
    (if (decide (s1.2 < ((t.length:Nat):Int)))=true then
    gd ((0:Int)≤s1.2∧s1.2 < ((s1.1.length:Nat):Int)) <|
    some (.inl (s1.1.set s1.2.toNat (⟨((s1.1.getD s1.2.toNat default).Entry),true⟩:Qxa),IntKind.i64.wrap (s1.2+1)))
    else
    some (.inr (s1.1.length,s1.1)))) (t,0)=some (t.length,Qdv t):=Qlv h (fun _=>t.length) fun _ _=>rfl
theorem QqR {t:List Qxa} (h:t.length≤1048576):lp (σ:=List Qxa × Int) (β:=(Nat × (List Qxa))) (fun s1 =>
    (if (decide (s1.2 < ((s1.1.length:Nat):Int)))=true then
    gd ((0:Int)≤s1.2∧s1.2 < ((s1.1.length:Nat):Int)) <|
    some (.inl (s1.1.set s1.2.toNat (⟨((s1.1.getD s1.2.toNat default).Entry),true⟩:Qxa),IntKind.i64.wrap (s1.2+1)))
    else
    some (.inr (s1.1.length,s1.1)))) (t,0)=some (t.length,Qdv t):=Qlv h List.length fun _ q=>q
theorem Qhe {e:Qxb} (h1:e.Keys.length≤1048576) (h2:e.Want.length≤1048576) (h3:e.Told.length≤1048576) (h4:e.Heard.length≤1048576):Zg e=some e:=by
  unfold Zg JO Q5;rw [QhT h2,QhT h3,Qp (by omega),Qb,Qb,Qb,Qp (by omega),Qb]
theorem QtK {e:Qxb} (h:e.Heard.length≤1048576):QbJ e=some { e with Heard:=Qdv e.Heard,Keep:=if e.Heard.length > 0∧e.Keep=0 then 6 else e.Keep }:=by
  unfold QbJ;rw [QqR h,Qb];dsimp only
  by_cases c:e.Heard.length > 0∧e.Keep=0
  · rw [if_pos (by simp; omega),if_pos c]
  · rw [if_neg (by simp; omega),if_neg c]
theorem Qom {e:Qxb} (h:e.Heard.length≤1048576):QaK e=some (QqQ e):=by
  unfold QaK;rw [QtK (by exact h),Qb]
  rfl
theorem Qon {e:Qxb} (h:e.Heard.length≤1048576) (hb:1≤e.Boot∧e.Boot≤1000):Qbs e=some (ZH e):=by
  unfold Qbs ZH
  by_cases c:e.Boot < 1000
  · rw [if_pos (by simpa using c),if_pos c,Qom (by exact h),Qb,wrap_i64 (by omega) (by omega)]
  · rw [if_neg (by simpa using c),if_neg c,Qom (by exact h),Qb]
theorem Qpt {t:List Qxa} (h:t.length≤1048576):Qa0 t=some (fresh t):=by
  unfold Qa0;obtain ⟨e,inv⟩:=Qj7 (step:=(fun s1:List Qxa × Int =>
    (if (decide (s1.2 < ((t.length:Nat):Int)))=true then
    gd ((0:Int)≤s1.2∧s1.2 < ((t.length:Nat):Int)) <|
    (if (!((t.getD s1.2.toNat default).Stale))=true then
    gd ((0:Int)≤s1.2∧s1.2 < ((t.length:Nat):Int)) <|
    gd (((s1.1.length)+(([(⟨((t.getD s1.2.toNat default).Entry),(t.getD s1.2.toNat default).Stale⟩:Qxa)]:List Qxa).length))*(40+1)≤70368744177664) <|
    some (.inl ((s1.1 ++ ([(⟨((t.getD s1.2.toNat default).Entry),(t.getD s1.2.toNat default).Stale⟩:Qxa)]:List Qxa)),IntKind.i64.wrap (s1.2+1)))
    else
    some (.inl (s1.1,IntKind.i64.wrap (s1.2+1))))
    else
    some (.inr (s1.1.length,s1.1)):Option ((List Qxa × Int) ⊕ (Nat × List Qxa))))) t.length (fun xs i=>if (!(t.getD i default).Stale)=true then xs ++ [t.getD i default] else xs) (fun xs=>(xs.length,xs)) []
    (fun i xs=>xs=fresh (t.take i)) (by simp [fresh]) (fun i xs hi hx=>by
      rw [hx,List.take_succ,List.getElem?_eq_getElem hi];unfold fresh;rw [List.filter_append];have g1:t.getD i default=t[i]:=by rw [List.getD_eq_getElem?_getD,List.getElem?_eq_getElem hi]; rfl
      rw [g1];show _=_ ++ ([t[i]]).filter (fun r=>!r.Stale);rw [List.filter_cons];split <;> simp) (fun i xs hi hx=>by
      have hl:xs.length≤i:=by
        rw [hx];exact Nat.le_trans (List.length_filter_le _ _) (by simp; omega)
      dsimp only;rw [if_pos (by simp; omega),Qp (by omega),Int.toNat_natCast,QK hi (by omega)];split
      · rw [Qp (by omega),Qp (by simp; omega)]
      · rfl) (fun xs _=>by
      dsimp only;rw [if_neg (by simp)])
  rw [e,Qb];dsimp only;rw [inv,List.take_length]
theorem Qir {e:Qxb} (h:QeT e=true):e.Keys.length≤3∧e.Want.length≤8∧e.Told.length≤8∧e.Heard.length≤16:=by
  simp only [QeT,Bool.and_eq_true,Qa5,JY,QcS,Jv,decide_eq_true_eq] at h;omega
theorem Qlw {e:Qxb} (h:QeT e=true):(1≤e.Boot∧e.Boot≤1000)∧(0≤e.Left∧e.Left≤4)∧(0≤e.Keep∧e.Keep≤6):=by
  simp only [QeT,Bool.and_eq_true,QcS,Jv] at h;omega
theorem Qr1 {e:Qxb}:(Qce e).Keys=e.Keys∧(Qce e).Want=e.Want∧(Qce e).Told.length≤e.Told.length∧(Qce e).Heard.length≤e.Heard.length:=by
  have k:(keepTick e).Keys=e.Keys∧(keepTick e).Want=e.Want∧(keepTick e).Told=e.Told∧(keepTick e).Heard.length≤e.Heard.length:=by
    unfold keepTick;split
    · refine ⟨rfl,rfl,rfl,?_⟩;dsimp only;split
      · exact List.length_filter_le _ _
      · exact Nat.le_refl _
    · exact ⟨rfl,rfl,rfl,Nat.le_refl _⟩
  unfold Qce QcT;generalize keepTick e=x at *;split
  · split
    · refine ⟨k.1,k.2.1,by simp [ZH,QqQ],by simpa [ZH,QqQ,Qdv] using k.2.2.2⟩
    · exact ⟨k.1,k.2.1,by rw [← k.2.2.1]; exact Nat.le_refl _,k.2.2.2⟩
  · exact ⟨k.1,k.2.1,by rw [← k.2.2.1]; exact Nat.le_refl _,k.2.2.2⟩
theorem Qr2 {e:Qxb} (h1:e.Keys.length≤1048576) (h3:e.Told.length≤1048576):Qaz e=some (QhU e):=by
  unfold Qaz QhU;rw [Qlu h1 h3,Qb]
  cases hok:QeT e
  · rfl
  · obtain ⟨l1,l2,l3,l4⟩:=Qir hok;obtain ⟨n1,n2,n3⟩:=Qlw hok;obtain ⟨t1,t2,t3,t4⟩:=Qr1 (e:=e);rw [if_neg (by decide),if_pos rfl,Qhe (by omega) (by omega) (by omega) (by omega),Qb,Qpt (by omega)];have fl:(fresh e.Heard).length≤e.Heard.length:=List.length_filter_le _ _;have ek:(if (decide (e.Keep > 0))=true then
        (if ((IntKind.i64.wrap (e.Keep - 1)) == 0)=true then
        bd (some (fresh e.Heard)) fun x6 =>
        some (x6,IntKind.i64.wrap (e.Keep - 1))
        else
        some (e.Heard,IntKind.i64.wrap (e.Keep - 1)))
        else
        some (e.Heard,e.Keep):Option (List Qxa × Int))=some ((keepTick e).Heard,(keepTick e).Keep):=by
      unfold keepTick
      by_cases c:e.Keep > 0
      · rw [if_pos (by simpa using c),if_pos c,wrap_i64 (by omega) (by omega)];dsimp only
        by_cases c2:e.Keep - 1=0
        · rw [if_pos (by simpa using c2),if_pos c2,Qb]
        · rw [if_neg (by simpa using c2),if_neg c2]
      · rw [if_neg (by simpa using c),if_neg c]
    rw [ek,Qb];dsimp only;have ex:keepTick e={ e with Heard:=(keepTick e).Heard,Keep:=(keepTick e).Keep }:=by
      unfold keepTick;split <;> rfl
    have hl:(keepTick e).Heard.length≤e.Heard.length:=by
      unfold keepTick;split
      · dsimp only;split
        · exact fl
        · exact Nat.le_refl _
      · exact Nat.le_refl _
    unfold Qce QcT at *;rw [ex] at t1 t2 t3 t4 ⊢;generalize (keepTick e).Heard=H at *;generalize (keepTick e).Keep=K at *;dsimp only at *
    by_cases c:e.Left > 0
    · rw [if_pos c] at t1 t2 t3 t4;rw [if_pos (by simpa using c),if_pos c,wrap_i64 (by omega) (by omega)]
      by_cases c2:e.Left - 1=0
      · rw [if_pos c2] at t1 t2 t3 t4;rw [if_pos (by simpa using c2),if_pos c2,Qon (by dsimp only; omega) (by exact n1),Qb,Qhe (by rw [t1]; omega) (by rw [t2]; omega) (by omega) (by omega),Qb]
      · rw [if_neg (by simpa using c2),if_neg c2,Qhe (by dsimp only; omega) (by dsimp only; omega) (by dsimp only; omega) (by dsimp only; omega),Qb]
    · rw [if_neg (by simpa using c),if_neg c,Qhe (by dsimp only; omega) (by dsimp only; omega) (by dsimp only; omega) (by dsimp only; omega),Qb]
end Go.Proofs.YtjgjdobkahdgfaaGreat
