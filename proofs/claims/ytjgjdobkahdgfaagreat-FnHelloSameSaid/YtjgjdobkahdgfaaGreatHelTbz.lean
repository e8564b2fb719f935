/-
  Plain Lean: ticks, words heard and entries used, over the program's first contracts; what the laws compare.
-/
import Derived.Test.YtjgjdobkahdgfaaGreatKz5
import Derived.Test.YtjgjdobkahdgfaaGreatHelIz
import Derived.Test.YtjgjdobkahdgfaaGreatHelWz
import Derived.Test.YtjgjdobkahdgfaaGreatHelBz
set_option linter.all false
namespace Go.Proofs.YtjgjdobkahdgfaaGreat
open Go Go.Ab
set_option maxHeartbeats 1000000
set_option maxRecDepth 100000
theorem QpG {e:Qxb} (h:e.Heard.length≤1048576):Zz e=some (QqQ e):=by
  unfold Zz QqQ;rw [Qr0 h,Qb];dsimp only
  by_cases c:e.Heard.length > 0∧e.Keep=0
  · rw [if_pos (by simp; omega),if_pos c]
  · rw [if_neg (by simp; omega),if_neg c]
theorem Qjj {e:Qxb} (h:e.Heard.length≤1048576) (hb:1≤e.Boot∧e.Boot≤1000):Q8 e=some (ZH e):=by
  unfold Q8 ZH;rw [QpG (by exact h),Qb,wrap_i64 (by omega) (by omega)];have:(if 1000 < e.Boot+1 then 1000 else e.Boot+1)=if e.Boot < 1000 then e.Boot+1 else e.Boot:=by
    split <;> split <;> omega
  rw [this]
  rfl
theorem QtQ {e:Qxb} (h:e.Heard.length≤1048576):Q1 e=some { e with Heard:=fresh e.Heard }:=by
  unfold Q1;rw [Qr3 h,Qb]
theorem Qsw {e:Qxb} (h:e.Heard.length≤1048576) (hb:1≤e.Boot∧e.Boot≤1000) (hl:0≤e.Left∧e.Left≤4) (hk:0≤e.Keep∧e.Keep≤6):Z0 e=some (Qce e):=by
  unfold Z0;have fl:(fresh e.Heard).length≤e.Heard.length:=List.length_filter_le _ _;have ek:(if (decide (e.Keep > 0))=true then
      (if ((IntKind.i64.wrap (e.Keep - 1)) == 0)=true then
      bd (Q1 ({ e with Keep:=IntKind.i64.wrap (e.Keep - 1) })) fun x4 =>
      some (x4.Heard,IntKind.i64.wrap (e.Keep - 1))
      else
      some (e.Heard,IntKind.i64.wrap (e.Keep - 1)))
      else
      some (e.Heard,e.Keep):Option (List Qxa × Int))=some ((keepTick e).Heard,(keepTick e).Keep):=by
    unfold keepTick
    by_cases c:e.Keep > 0
    · rw [if_pos (by simpa using c),if_pos c,wrap_i64 (by omega) (by omega)];dsimp only
      by_cases c2:e.Keep - 1=0
      · rw [if_pos (by simpa using c2),if_pos c2,QtQ (by exact h),Qb]
      · rw [if_neg (by simpa using c2),if_neg c2]
    · rw [if_neg (by simpa using c),if_neg c]
  rw [ek,Qb];dsimp only;have ex:keepTick e={ e with Heard:=(keepTick e).Heard,Keep:=(keepTick e).Keep }:=by
    unfold keepTick;split <;> rfl
  have hl':(keepTick e).Heard.length≤e.Heard.length:=by
    unfold keepTick;split
    · dsimp only;split
      · exact fl
      · exact Nat.le_refl _
    · exact Nat.le_refl _
  unfold Qce QcT;rw [ex];generalize (keepTick e).Heard=H at *;generalize (keepTick e).Keep=K at *;dsimp only at *
  by_cases c:e.Left > 0
  · rw [if_pos (by simpa using c),if_pos c,wrap_i64 (by omega) (by omega)]
    by_cases c2:e.Left - 1=0
    · rw [if_pos (by simpa using c2),if_pos c2,Qjj (by dsimp only; omega) (by exact hb),Qb]
      rfl
    · rw [if_neg (by simpa using c2),if_neg c2]
  · rw [if_neg (by simpa using c),if_neg c]
def Qwq (e:Qxb):List Qw8:=if QeT e=true then e.Heard.map (fun r=>r.Entry) else []
theorem Qsx {t:List Qxa} (h:t.length≤1048576):lp (σ:=List Qw8 × Int) (β:=(Nat × (List Qw8))) (fun s1 =>
    (if (decide (s1.2 < ((t.length:Nat):Int)))=true then
    gd ((0:Int)≤s1.2∧s1.2 < ((t.length:Nat):Int)) <|
    gd (((s1.1.length)+(([((t.getD s1.2.toNat default).Entry)]:List Qw8).length))*(32+1)≤70368744177664) <|
    some (.inl ((s1.1 ++ ([((t.getD s1.2.toNat default).Entry)]:List Qw8)),IntKind.i64.wrap (s1.2+1)))
    else
    some (.inr (s1.1.length,s1.1)))) (([]:List Qw8),0)=some (t.length,t.map fun r=>r.Entry):=by
  obtain ⟨e,inv⟩:=Qj7 (step:=(fun s1:List Qw8 × Int =>
    (if (decide (s1.2 < ((t.length:Nat):Int)))=true then
    gd ((0:Int)≤s1.2∧s1.2 < ((t.length:Nat):Int)) <|
    gd (((s1.1.length)+(([((t.getD s1.2.toNat default).Entry)]:List Qw8).length))*(32+1)≤70368744177664) <|
    some (.inl ((s1.1 ++ ([((t.getD s1.2.toNat default).Entry)]:List Qw8)),IntKind.i64.wrap (s1.2+1)))
    else
    some (.inr (s1.1.length,s1.1)):Option ((List Qw8 × Int) ⊕ (Nat × List Qw8))))) t.length (fun xs i=>xs ++ [(t.getD i default).Entry]) (fun xs=>(xs.length,xs)) []
    (fun i xs=>xs=(t.take i).map fun r=>r.Entry) (by simp) (fun i xs hi hx=>by
      have g1:t.getD i default=t[i]:=by rw [List.getD_eq_getElem?_getD,List.getElem?_eq_getElem hi]; rfl
      have e2:t.take (i+1)=t.take i ++ [t[i]]:=by rw [List.take_succ,List.getElem?_eq_getElem hi]; rfl
      rw [e2,List.map_append,hx,g1]
      rfl) (fun i xs hi hx=>by
      have hl:xs.length≤i:=by rw [hx]; simp; omega
      dsimp only;rw [if_pos (by simp; omega),Qp (by omega),Int.toNat_natCast,Qp (by simp; omega),QK hi (by omega)]) (fun xs _=>by
      dsimp only;rw [if_neg (by simp)])
  rw [e,inv,List.take_length];simp
theorem Qnw {e:Qxb} (h:Lens e 1048576):JX e=some (Qwq e):=by
  unfold JX Qwq Qbl;rw [Qus h.k h.w h.t h.h,Qb]
  cases QeT e
  · rfl
  · rw [if_neg (by decide),Qsx h.h,Qb,Qb,if_pos rfl]
theorem Qsy {e:Qxb} (h:Lens e 1048576):QaH e=some (Qwq e):=Qnw h
theorem QhZ {xs:List Qw8} (h:xs.length≤1048576):Jm xs xs=some true:=by
  unfold Jm;rw [if_neg (by simp),QgL xs.length (fun _=>true) (.inl ()) (.inr ()) (fun i hi _=>?_) (fun _=>by rw [if_neg (by simp)]),if_pos (Qfj fun _ _=>rfl),Qb];rw [if_pos (by simp; omega),Qp (by omega),Qp (by omega),if_neg (by simp),if_pos rfl,QK hi (by omega)]
end Go.Proofs.YtjgjdobkahdgfaaGreat
