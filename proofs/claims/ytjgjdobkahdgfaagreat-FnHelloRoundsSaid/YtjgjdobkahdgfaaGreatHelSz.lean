/-
  Plain Lean: a tick at an end: the program's and the reference's are the same function.
-/
import Derived.Test.YtjgjdobkahdgfaaGreatKz6
import Derived.Test.YtjgjdobkahdgfaaGreatHelRz
set_option linter.all false
namespace Go.Proofs.YtjgjdobkahdgfaaGreat
open Go Go.Ab
set_option maxHeartbeats 1000000
set_option maxRecDepth 100000
def Qva:Qv5:=⟨0,0,[],0,[],0,0,0,false,0,0,⟨0,⟨0,0,0,0⟩⟩,[],false,0,false,[],0⟩
def Qd5 (t:List Qv4):List Qv4:=t.map fun r=>⟨r.Entry,true⟩
def fresh (t:List Qv4):List Qv4:=t.filter fun r=>!r.Stale
def Qqv (e:Qv5):Qv5:={ e with Up:=false,Num:=0,Under:=⟨0,⟨0,0,0,0⟩⟩,Told:=[],All:=false,Got:=0,Full:=false,Heard:=Qd5 e.Heard,Keep:=if e.Heard.length > 0∧e.Keep=0 then 6 else e.Keep }
def Qaw (e:Qv5):Qv5:=Qqv { e with Boot:=if e.Boot < 1000 then e.Boot+1 else e.Boot,Turn:=0,Left:=0 }
def keepTick (e:Qv5):Qv5:=if e.Keep > 0 then { e with Keep:=e.Keep - 1,Heard:=if e.Keep - 1=0 then fresh e.Heard else e.Heard } else e
def Qej (e:Qv5):Qv5:=if e.Left > 0 then (if e.Left - 1=0 then Qaw { e with Left:=e.Left - 1 } else { e with Left:=e.Left - 1 }) else e
def Qd8 (e:Qv5):Qv5:=Qej (keepTick e)
def QhQ (e:Qv5):Qv5:=if Qa8 e=true then Qd8 e else Qva
theorem Qlp {t:List Qv4} (h:t.length≤1048576) (len:List Qv4→Nat) (hlen:∀ ys:List Qv4,ys.length=t.length→len ys=t.length):lp (σ:=List Qv4 × Int) (β:=(Nat × (List Qv4))) (fun s1 =>
    (if (decide (s1.2 < ((len s1.1:Nat):Int)))=true then
    gd ((0:Int)≤s1.2∧s1.2 < ((s1.1.length:Nat):Int)) <|
    some (.inl (s1.1.set s1.2.toNat (⟨((s1.1.getD s1.2.toNat default).Entry),true⟩:Qv4),IntKind.i64.wrap (s1.2+1)))
    else
    some (.inr (s1.1.length,s1.1)))) (t,0)=some (t.length,Qd5 t):=by
  obtain ⟨e1,e2,e3⟩:=Qmd (step:=(fun s1:List Qv4 × Int =>
    (if (decide (s1.2 < ((len s1.1:Nat):Int)))=true then
    gd ((0:Int)≤s1.2∧s1.2 < ((s1.1.length:Nat):Int)) <|
    some (.inl (s1.1.set s1.2.toNat (⟨((s1.1.getD s1.2.toNat default).Entry),true⟩:Qv4),IntKind.i64.wrap (s1.2+1)))
    else
    some (.inr (s1.1.length,s1.1)):Option ((List Qv4 × Int) ⊕ (Nat × (List Qv4)))))) t.length (fun ys i=>ys.set i ⟨(ys.getD i default).Entry,true⟩) (fun ys=>(ys.length,ys)) t (fun i ys=>ys.length=t.length∧∀ k,k < t.length→ys.getD k default=if k < i then ⟨(t.getD k default).Entry,true⟩ else t.getD k default)
    ⟨rfl,fun k hk=>by rw [if_neg (by omega)]⟩ (fun i ys hi ⟨h3,h4⟩=>⟨by simpa using h3,fun k hk=>by
      rw [List.getD_eq_getElem?_getD,List.getElem?_set]
      by_cases c:i=k
      · subst c;rw [if_pos rfl,if_pos (by omega),if_pos (by omega),h4 i hi,if_neg (by omega)]; rfl
      · rw [if_neg c,← List.getD_eq_getElem?_getD,h4 k hk]
        by_cases c2:k < i
        · rw [if_pos c2,if_pos (by omega)]
        · rw [if_neg c2,if_neg (by omega)]⟩)
    (fun i ys hi ⟨h3,_⟩=>by
      dsimp only;rw [hlen ys h3,if_pos (by simp; omega),Qn (by omega),Int.toNat_natCast,QE hi (by omega)]) (fun ys hy=>by
      dsimp only;rw [hlen ys hy.1,if_neg (by simp)])
  have:(List.range t.length).foldl (fun ys i=>ys.set i ⟨(ys.getD i default).Entry,true⟩) t=Qd5 t:=by
    apply List.ext_getElem
    · rw [e2]; simp [Qd5]
    · intro k h1 h2;have hk:k < t.length:=by omega
      have:=e3 k hk;rw [if_pos hk,List.getD_eq_getElem?_getD,List.getElem?_eq_getElem h1,List.getD_eq_getElem?_getD,List.getElem?_eq_getElem hk] at this;simpa [Qd5] using this
  rw [e1,this];simp [Qd5]
theorem Qrt {t:List Qv4} (h:t.length≤1048576):lp (σ:=List Qv4 × Int) (β:=(Nat × (List Qv4))) (fun s1 =>
    (if (decide (s1.2 < ((t.length:Nat):Int)))=true then
    gd ((0:Int)≤s1.2∧s1.2 < ((s1.1.length:Nat):Int)) <|
    some (.inl (s1.1.set s1.2.toNat (⟨((s1.1.getD s1.2.toNat default).Entry),true⟩:Qv4),IntKind.i64.wrap (s1.2+1)))
    else
    some (.inr (s1.1.length,s1.1)))) (t,0)=some (t.length,Qd5 t):=Qlp h (fun _=>t.length) fun _ _=>rfl
theorem Qqd {t:List Qv4} (h:t.length≤1048576):lp (σ:=List Qv4 × Int) (β:=(Nat × (List Qv4))) (fun s1 =>
    (if (decide (s1.2 < ((s1.1.length:Nat):Int)))=true then
    gd ((0:Int)≤s1.2∧s1.2 < ((s1.1.length:Nat):Int)) <|
    some (.inl (s1.1.set s1.2.toNat (⟨((s1.1.getD s1.2.toNat default).Entry),true⟩:Qv4),IntKind.i64.wrap (s1.2+1)))
    else
    some (.inr (s1.1.length,s1.1)))) (t,0)=some (t.length,Qd5 t):=Qlp h List.length fun _ q=>q
theorem Qhg {e:Qv5} (h1:e.Keys.length≤1048576) (h2:e.Want.length≤1048576) (h3:e.Told.length≤1048576) (h4:e.Heard.length≤1048576):Za e=some e:=by
  unfold Za ZL Q6;rw [Qf2 h2,Qf2 h3,Qn (by omega),Qb,Qb,Qb,Qn (by omega),Qb]
theorem QsU {e:Qv5} (h:e.Heard.length≤1048576):QbC e=some { e with Heard:=Qd5 e.Heard,Keep:=if e.Heard.length > 0∧e.Keep=0 then 6 else e.Keep }:=by
  unfold QbC;rw [Qqd h,Qb];dsimp only
  by_cases c:e.Heard.length > 0∧e.Keep=0
  · rw [if_pos (by simp; omega),if_pos c]
  · rw [if_neg (by simp; omega),if_neg c]
theorem Qn7 {e:Qv5} (h:e.Heard.length≤1048576):QaG e=some (Qqv e):=by
  unfold QaG;rw [QsU (by exact h),Qb]
  rfl
theorem Qn8 {e:Qv5} (h:e.Heard.length≤1048576) (hb:1≤e.Boot∧e.Boot≤1000):Qbm e=some (Qaw e):=by
  unfold Qbm Qaw
  by_cases c:e.Boot < 1000
  · rw [if_pos (by simpa using c),if_pos c,Qn7 (by exact h),Qb,wrap_i64 (by omega) (by omega)]
  · rw [if_neg (by simpa using c),if_neg c,Qn7 (by exact h),Qb]
theorem Qo9 {t:List Qv4} (h:t.length≤1048576):QaX t=some (fresh t):=by
  unfold QaX;obtain ⟨e,inv⟩:=Qmd (step:=(fun s1:List Qv4 × Int =>
    (if (decide (s1.2 < ((t.length:Nat):Int)))=true then
    gd ((0:Int)≤s1.2∧s1.2 < ((t.length:Nat):Int)) <|
    (if (!((t.getD s1.2.toNat default).Stale))=true then
    gd ((0:Int)≤s1.2∧s1.2 < ((t.length:Nat):Int)) <|
    gd (((s1.1.length)+(([(⟨((t.getD s1.2.toNat default).Entry),(t.getD s1.2.toNat default).Stale⟩:Qv4)]:List Qv4).length))*(40+1)≤70368744177664) <|
    some (.inl ((s1.1 ++ ([(⟨((t.getD s1.2.toNat default).Entry),(t.getD s1.2.toNat default).Stale⟩:Qv4)]:List Qv4)),IntKind.i64.wrap (s1.2+1)))
    else
    some (.inl (s1.1,IntKind.i64.wrap (s1.2+1))))
    else
    some (.inr (s1.1.length,s1.1)):Option ((List Qv4 × Int) ⊕ (Nat × List Qv4))))) t.length (fun xs i=>if (!(t.getD i default).Stale)=true then xs ++ [t.getD i default] else xs) (fun xs=>(xs.length,xs)) []
    (fun i xs=>xs=fresh (t.take i)) (by simp [fresh]) (fun i xs hi hx=>by
      rw [hx,List.take_succ,List.getElem?_eq_getElem hi];unfold fresh;rw [List.filter_append];have g1:t.getD i default=t[i]:=by rw [List.getD_eq_getElem?_getD,List.getElem?_eq_getElem hi]; rfl
      rw [g1];show _=_ ++ ([t[i]]).filter (fun r=>!r.Stale);rw [List.filter_cons];split <;> simp) (fun i xs hi hx=>by
      have hl:xs.length≤i:=by
        rw [hx];exact Nat.le_trans (List.length_filter_le _ _) (by simp; omega)
      dsimp only;rw [if_pos (by simp; omega),Qn (by omega),Int.toNat_natCast,QE hi (by omega)];split
      · rw [Qn (by omega),Qn (by simp; omega)]
      · rfl) (fun xs _=>by
      dsimp only;rw [if_neg (by simp)])
  rw [e,Qb];dsimp only;rw [inv,List.take_length]
theorem Qiq {e:Qv5} (h:Qa8 e=true):e.Keys.length≤3∧e.Want.length≤8∧e.Told.length≤8∧e.Heard.length≤16:=by
  simp only [Qa8,Bool.and_eq_true,Qbx,JW,QcP,JV,decide_eq_true_eq] at h;omega
theorem Qlq {e:Qv5} (h:Qa8 e=true):(1≤e.Boot∧e.Boot≤1000)∧(0≤e.Left∧e.Left≤4)∧(0≤e.Keep∧e.Keep≤6):=by
  simp only [Qa8,Bool.and_eq_true,QcP,JV] at h;omega
theorem Qru {e:Qv5}:(Qd8 e).Keys=e.Keys∧(Qd8 e).Want=e.Want∧(Qd8 e).Told.length≤e.Told.length∧(Qd8 e).Heard.length≤e.Heard.length:=by
  have k:(keepTick e).Keys=e.Keys∧(keepTick e).Want=e.Want∧(keepTick e).Told=e.Told∧(keepTick e).Heard.length≤e.Heard.length:=by
    unfold keepTick;split
    · refine ⟨rfl,rfl,rfl,?_⟩;dsimp only;split
      · exact List.length_filter_le _ _
      · exact Nat.le_refl _
    · exact ⟨rfl,rfl,rfl,Nat.le_refl _⟩
  unfold Qd8 Qej;generalize keepTick e=x at *;split
  · split
    · refine ⟨k.1,k.2.1,by simp [Qaw,Qqv],by simpa [Qaw,Qqv,Qd5] using k.2.2.2⟩
    · exact ⟨k.1,k.2.1,by rw [← k.2.2.1]; exact Nat.le_refl _,k.2.2.2⟩
  · exact ⟨k.1,k.2.1,by rw [← k.2.2.1]; exact Nat.le_refl _,k.2.2.2⟩
theorem Qn9 {e:Qv5} (h1:e.Keys.length≤1048576) (h3:e.Told.length≤1048576):Qay e=some (QhQ e):=by
  unfold Qay QhQ;rw [Qkd h1 h3,Qb]
  cases hok:Qa8 e
  · rfl
  · obtain ⟨l1,l2,l3,l4⟩:=Qiq hok;obtain ⟨n1,n2,n3⟩:=Qlq hok;obtain ⟨t1,t2,t3,t4⟩:=Qru (e:=e);rw [if_neg (by decide),if_pos rfl,Qhg (by omega) (by omega) (by omega) (by omega),Qb,Qo9 (by omega)];have fl:(fresh e.Heard).length≤e.Heard.length:=List.length_filter_le _ _;have ek:(if (decide (e.Keep > 0))=true then
        (if ((IntKind.i64.wrap (e.Keep - 1)) == 0)=true then
        bd (some (fresh e.Heard)) fun x6 =>
        some (x6,IntKind.i64.wrap (e.Keep - 1))
        else
        some (e.Heard,IntKind.i64.wrap (e.Keep - 1)))
        else
        some (e.Heard,e.Keep):Option (List Qv4 × Int))=some ((keepTick e).Heard,(keepTick e).Keep):=by
      unfold keepTick
      by_cases c:e.Keep > 0
      · rw [if_pos (by simpa using c),if_pos c,wrap_i64 (by omega) (by omega)];dsimp only
        by_cases c2:e.Keep - 1=0
        · rw [if_pos (by simpa using c2),if_pos c2,Qb]
        · rw [if_neg (by simpa using c2),if_neg c2]
      · rw [if_neg (by simpa using c),if_neg c]
    rw [ek,Qb];dsimp only;have ex:keepTick e={ e with Heard:=(keepTick e).Heard,Keep:=(keepTick e).Keep }:=by
      unfold keepTick;split <;> rfl
    have hl:(keepTick e).Heard.length≤e.Heard.length:=by
      unfold keepTick;split
      · dsimp only;split
        · exact fl
        · exact Nat.le_refl _
      · exact Nat.le_refl _
    unfold Qd8 Qej at *;rw [ex] at t1 t2 t3 t4 ⊢;generalize (keepTick e).Heard=H at *;generalize (keepTick e).Keep=K at *;dsimp only at *
    by_cases c:e.Left > 0
    · rw [if_pos c] at t1 t2 t3 t4;rw [if_pos (by simpa using c),if_pos c,wrap_i64 (by omega) (by omega)]
      by_cases c2:e.Left - 1=0
      · rw [if_pos c2] at t1 t2 t3 t4;rw [if_pos (by simpa using c2),if_pos c2,Qn8 (by dsimp only; omega) (by exact n1),Qb,Qhg (by rw [t1]; omega) (by rw [t2]; omega) (by omega) (by omega),Qb]
      · rw [if_neg (by simpa using c2),if_neg c2,Qhg (by dsimp only; omega) (by dsimp only; omega) (by dsimp only; omega) (by dsimp only; omega),Qb]
    · rw [if_neg (by simpa using c),if_neg c,Qhg (by dsimp only; omega) (by dsimp only; omega) (by dsimp only; omega) (by dsimp only; omega),Qb]
end Go.Proofs.YtjgjdobkahdgfaaGreat
