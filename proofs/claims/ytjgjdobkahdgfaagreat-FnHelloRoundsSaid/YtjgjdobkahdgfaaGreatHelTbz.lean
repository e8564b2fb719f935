/-
  Plain Lean: ticks, words heard and entries used, over the program's first contracts; what the laws compare.
-/
import Derived.Test.YtjgjdobkahdgfaaGreatKz6
import Derived.Test.YtjgjdobkahdgfaaGreatHelIz
import Derived.Test.YtjgjdobkahdgfaaGreatHelWz
import Derived.Test.YtjgjdobkahdgfaaGreatHelBz
set_option linter.all false
namespace Go.Proofs.YtjgjdobkahdgfaaGreat
open Go Go.Ab
set_option maxHeartbeats 1000000
set_option maxRecDepth 100000
theorem Qpl {e:Qv5} (h:e.Heard.length≤1048576):Zy e=some (Qqv e):=by
  unfold Zy Qqv;rw [Qrt h,Qb];dsimp only
  by_cases c:e.Heard.length > 0∧e.Keep=0
  · rw [if_pos (by simp; omega),if_pos c]
  · rw [if_neg (by simp; omega),if_neg c]
theorem Qji {e:Qv5} (h:e.Heard.length≤1048576) (hb:1≤e.Boot∧e.Boot≤1000):Q9 e=some (Qaw e):=by
  unfold Q9 Qaw;rw [Qpl (by exact h),Qb,wrap_i64 (by omega) (by omega)];have:(if 1000 < e.Boot+1 then 1000 else e.Boot+1)=if e.Boot < 1000 then e.Boot+1 else e.Boot:=by
    split <;> split <;> omega
  rw [this]
  rfl
theorem QsZ {e:Qv5} (h:e.Heard.length≤1048576):Q2 e=some { e with Heard:=fresh e.Heard }:=by
  unfold Q2;rw [Qrv h,Qb]
theorem QrX {e:Qv5} (h:e.Heard.length≤1048576) (hb:1≤e.Boot∧e.Boot≤1000) (hl:0≤e.Left∧e.Left≤4) (hk:0≤e.Keep∧e.Keep≤6):Z1 e=some (Qd8 e):=by
  unfold Z1;have fl:(fresh e.Heard).length≤e.Heard.length:=List.length_filter_le _ _;have ek:(if (decide (e.Keep > 0))=true then
      (if ((IntKind.i64.wrap (e.Keep - 1)) == 0)=true then
      bd (Q2 ({ e with Keep:=IntKind.i64.wrap (e.Keep - 1) })) fun x4 =>
      some (x4.Heard,IntKind.i64.wrap (e.Keep - 1))
      else
      some (e.Heard,IntKind.i64.wrap (e.Keep - 1)))
      else
      some (e.Heard,e.Keep):Option (List Qv4 × Int))=some ((keepTick e).Heard,(keepTick e).Keep):=by
    unfold keepTick
    by_cases c:e.Keep > 0
    · rw [if_pos (by simpa using c),if_pos c,wrap_i64 (by omega) (by omega)];dsimp only
      by_cases c2:e.Keep - 1=0
      · rw [if_pos (by simpa using c2),if_pos c2,QsZ (by exact h),Qb]
      · rw [if_neg (by simpa using c2),if_neg c2]
    · rw [if_neg (by simpa using c),if_neg c]
  rw [ek,Qb];dsimp only;have ex:keepTick e={ e with Heard:=(keepTick e).Heard,Keep:=(keepTick e).Keep }:=by
    unfold keepTick;split <;> rfl
  have hl':(keepTick e).Heard.length≤e.Heard.length:=by
    unfold keepTick;split
    · dsimp only;split
      · exact fl
      · exact Nat.le_refl _
    · exact Nat.le_refl _
  unfold Qd8 Qej;rw [ex];generalize (keepTick e).Heard=H at *;generalize (keepTick e).Keep=K at *;dsimp only at *
  by_cases c:e.Left > 0
  · rw [if_pos (by simpa using c),if_pos c,wrap_i64 (by omega) (by omega)]
    by_cases c2:e.Left - 1=0
    · rw [if_pos (by simpa using c2),if_pos c2,Qji (by dsimp only; omega) (by exact hb),Qb]
      rfl
    · rw [if_neg (by simpa using c2),if_neg c2]
  · rw [if_neg (by simpa using c),if_neg c]
theorem Qnu {xs:List Qv2} (h:xs.length≤1048576):Qbn xs xs=some true:=by
  unfold Qbn;rw [if_neg (by simp),QdB xs.length (fun _=>true) (.inl ()) (.inr ()) (fun i hi _=>?_) (fun _=>by rw [if_neg (by simp)]),if_pos (QcN fun _ _=>rfl),Qb];rw [if_pos (by simp; omega),Qn (by omega),Qn (by omega),if_neg (by simp),if_pos rfl,QE hi (by omega)]
theorem Qs0 {xs:List Qv1} (h:xs.length≤1048576):QcH xs xs=some true:=by
  unfold QcH;rw [if_neg (by simp),QdB xs.length (fun _=>true) (.inl ()) (.inr ()) (fun i hi _=>?_) (fun _=>by rw [if_neg (by simp)]),if_pos (QcN fun _ _=>rfl),Qb];rw [if_pos (by simp; omega),Qn (by omega),Qn (by omega),if_neg (by simp),if_pos rfl,QE hi (by omega)]
theorem Qqp {xs:List Qv4} (h:xs.length≤1048576):QbM xs xs=some true:=by
  unfold QbM;rw [if_neg (by simp),QdB xs.length (fun _=>true) (.inl ()) (.inr ()) (fun i hi _=>?_) (fun _=>by rw [if_neg (by simp)]),if_pos (QcN fun _ _=>rfl),Qb];rw [if_pos (by simp; omega),Qn (by omega),Qn (by omega),if_neg (by simp),if_pos rfl,QE hi (by omega)]
theorem Qux {e:Qv5} (h:Lens e 1048576):Qcw e e=some true:=by
  unfold Qcw;rw [Qs0 h.k,Qnu h.w,Qnu h.t,Qqp h.h,JU,Qb,JU,Qb,JU,Qb,JU,Qb];simp
end Go.Proofs.YtjgjdobkahdgfaaGreat
