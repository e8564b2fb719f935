/-
  The row of FnHelloSame is proved: for all arguments the law returns true; no condition.
-/
import Derived.Test.YtjgjdobkahdgfaaGreatKz5
import Derived.Test.YtjgjdobkahdgfaaGreatHelCsz
import Derived.Test.YtjgjdobkahdgfaaGreatArgz
import Derived.Test.YtjgjdobkahdgfaaGreatCmz
set_option linter.all false
namespace Go.Proofs.YtjgjdobkahdgfaaGreat
open Go Go.Ab Go.ChangeShapes Go.WideShapes Go.ChangeAt Go.RowKit
set_option maxRecDepth 100000
theorem fnHelloSame_lifted (os:Os) (started:os.Started) (H:Type) (enc:TypeId × Value→H) :
    ReturnsInHanded {} Tryz.checked os 3 .any (Rows.fnHelloSameSpec.pre6 enc Tryz.prog Tryz.f3 Rows.fnHelloSameRow.domain false) (Rows.fnHelloSameSpec.post enc Tryz.prog Tryz.f3 false true false false):=by
  refine QuW (C:=Tryz.checked) (fn:=Tryz.f3) (fu:=6) (rt:=4) tOk (by kernel_rfl) Tryz.own started (by kernel_rfl) Tryz.func3
    (ChangeSpec.witness6 (enc:=enc) (C:=Tryz.checked) false ⟨#[],#[.slice none 0 0,.slice none 0 0],[]⟩ 8 (by kernel_rfl) (by kernel_rfl) (by kernel_rfl) (by kernel_rfl))
    Tryz.laidOut (by kernel_rfl) (by kernel_rfl) rfl rfl (by kernel_rfl) ?_ ?_
  · intro ds hds;have hds:ds.length=2:=hds;obtain ⟨a,b,rfl⟩:=QuZ hds
    rfl
  · have hp:Tryz.f3.params.toList=[22,22]:=by kernel_rfl
    rw [hp];intro dss h;obtain ⟨x1,r,rfl,h1,h⟩:=QhI h;obtain ⟨x2,r,rfl,h2,h⟩:=QhI h;obtain rfl:=Qm7 h;obtain ⟨n1,a1,_,b1,e1⟩:=Qpb (enc:=QL) (ok:=Ql4) (by rfl) (by rfl) (fun _ hd=>Qlf (by rfl) hd) h1;have f1:=And.intro b1 a1;obtain ⟨n2,a2,_,b2,e2⟩:=Qpb (enc:=QL) (ok:=Ql4) (by rfl) (by rfl) (fun _ hd=>Qlf (by rfl) hd) h2;have f2:=And.intro b2 a2;exact PureC.le (vs:=[.d (slD QL n1),.d (slD QL n2)]) (And.intro (Qpc (by rfl) e1) (And.intro (Qpc (by rfl) e2) (trivial))) (Qht (QmE f1 f2))
theorem fnHelloSame_holds:Rows.FnHelloSameSaid :=
  OpenClaim.holds_of_wide 3 Tryz.f3 rfl rfl rfl rfl rfl rfl rfl ⟨rfl,rfl,rfl,rfl,rfl⟩ rfl rfl rfl rfl rfl (by kernel_rfl) Tryz.func3 (by kernel_rfl)
    (of_decide_eq_true (by kernel_rfl)) (by unfold Func.isWrapper; first | (rw [if_pos (by decide +kernel)]; kernel_rfl) | (rw [if_neg (by decide +kernel)]; exact ⟨rfl,rfl⟩))
    (fun os started H enc _=>fnHelloSame_lifted os started H enc)
end Go.Proofs.YtjgjdobkahdgfaaGreat
