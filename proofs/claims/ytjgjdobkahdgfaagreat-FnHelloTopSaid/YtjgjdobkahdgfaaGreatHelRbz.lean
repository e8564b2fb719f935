/-
  Plain Lean: worlds compared with themselves.
-/
import Derived.Test.YtjgjdobkahdgfaaGreatKz5
import Derived.Test.YtjgjdobkahdgfaaGreatHelRaz
set_option linter.all false
namespace Go.Proofs.YtjgjdobkahdgfaaGreat
open Go Go.Ab
set_option maxHeartbeats 400000
set_option maxRecDepth 100000
theorem Qr0 {w:Qwm} (h1:w.Sides.length≤1048576) (h2:∀ s ∈ w.Sides,Lens s.End 1048576) (h3:w.Radio.length≤1048576):Qbk w w=some true:=by
  unfold Qbk;rw [if_neg (by simp),QdZ w.Sides.length (fun _=>true) (.inl ()) (.inr ()) (fun i hi _=>?_) (fun _=>by rw [if_neg (by simp)]),if_pos (QcF fun _ _=>rfl),Qb]
  · dsimp only;rw [QdZ w.Radio.length (fun _=>true) (.inl ()) (.inr ()) (fun i hi _=>?_) (fun _=>by rw [if_neg (by simp)]),if_pos (QcF fun _ _=>rfl),Qb];rw [if_pos (by simp; omega),Qn (by omega),Qn (by omega),if_neg (by simp),if_pos rfl,QD hi (by omega)]
  · have E:Qcm (w.Sides.getD i default).End (w.Sides.getD i default).End=some true:=QuC (h2 _ (Zo hi));rw [if_pos (by simp; omega),Qn (by omega),Qn (by omega),Qn (fun _=>by omega),Qn (fun _=>by omega),Int.toNat_natCast,QD hi (by omega)];generalize w.Sides.getD i default=X at *;refine (congrArg (fun m=>bd (gcall _ m) _) E).trans ?_;simp [gcall]
theorem Qwd {s:W3} (h:Gs s):Qbk (toW s) (toW s)=some true:=by
  have hl:=h.len;refine Qr0 (by show 2≤1048576; decide) (fun x hx=>?_) (by show s.2.2.length≤1048576; omega);have hx:x ∈ [s.1,s.2.1]:=hx;rcases List.mem_cons.1 hx with q | q
  · rw [q]; exact (Jd h.two.a.eo).mono (by decide)
  · rw [List.mem_singleton.1 q]; exact (Jd h.two.b.eo).mono (by decide)
end Go.Proofs.YtjgjdobkahdgfaaGreat
