/-
  The row of FnHelloTop is proved: for all arguments the law returns true; no condition.
-/
import Derived.Test.YtjgjdobkahdgfaaGreatKz5
import Derived.Test.YtjgjdobkahdgfaaGreatHelToz
import Derived.Test.YtjgjdobkahdgfaaGreatArgz
import Derived.Test.YtjgjdobkahdgfaaGreatCmz
set_option linter.all false
namespace Go.Proofs.YtjgjdobkahdgfaaGreat
open Go Go.Ab Go.ChangeShapes Go.WideShapes Go.ChangeAt Go.RowKit
set_option maxRecDepth 100000
theorem fnHelloTop_lifted (os:Os) (started:os.Started) (H:Type) (enc:TypeId × Value→H) :
    ReturnsInHanded {} Tryz.checked os 4 .any (Rows.fnHelloTopSpec.pre6 enc Tryz.prog Tryz.f4 Rows.fnHelloTopRow.domain false) (Rows.fnHelloTopSpec.post enc Tryz.prog Tryz.f4 false true false false):=by
  refine Qt3 (C:=Tryz.checked) (fn:=Tryz.f4) (fu:=6) (rt:=4) tOk (by kernel_rfl) Tryz.own started (by kernel_rfl) Tryz.func4
    (ChangeSpec.witness6 (enc:=enc) (C:=Tryz.checked) false ⟨#[],#[.slice none 0 0],[]⟩ 8 (by kernel_rfl) (by kernel_rfl) (by kernel_rfl) (by kernel_rfl))
    Tryz.laidOut (by kernel_rfl) (by kernel_rfl) rfl rfl (by kernel_rfl) ?_ ?_
  · intro ds hds;have hds:ds.length=1:=hds;obtain ⟨a,rfl⟩:=QqM hds
    rfl
  · have hp:Tryz.f4.params.toList=[22]:=by kernel_rfl
    rw [hp];intro dss h;obtain ⟨x1,r,rfl,h1,h⟩:=QlD h;obtain rfl:=Qmy h;obtain ⟨n1,a1,_,b1,e1⟩:=Qsq (enc:=QR) (ok:=Qnt) (by rfl) (by rfl) (fun _ hd=>QpI (by rfl) hd) h1;have f1:=And.intro b1 a1;exact PureC.le (vs:=[.d (slD QR n1)]) (And.intro (Qss (by rfl) e1) (trivial)) (QhI (Qm6 f1))
theorem fnHelloTop_holds:Rows.FnHelloTopSaid :=
  OpenClaim.holds_of_wide 4 Tryz.f4 rfl rfl rfl rfl rfl rfl rfl ⟨rfl,rfl,rfl,rfl,rfl⟩ rfl rfl rfl rfl rfl (by kernel_rfl) Tryz.func4 (by kernel_rfl)
    (of_decide_eq_true (by kernel_rfl)) (by unfold Func.isWrapper; first | (rw [if_pos (by decide +kernel)]; kernel_rfl) | (rw [if_neg (by decide +kernel)]; exact ⟨rfl,rfl⟩))
    (fun os started H enc _=>fnHelloTop_lifted os started H enc)
end Go.Proofs.YtjgjdobkahdgfaaGreat
