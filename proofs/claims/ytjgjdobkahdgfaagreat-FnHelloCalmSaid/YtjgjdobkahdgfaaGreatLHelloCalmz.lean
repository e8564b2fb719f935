/-
  The row of FnHelloCalm is proved: for all arguments the law returns true; no condition.
-/
import Derived.Test.YtjgjdobkahdgfaaGreatKz5
import Derived.Test.YtjgjdobkahdgfaaGreatHelCrz
import Derived.Test.YtjgjdobkahdgfaaGreatArgz
import Derived.Test.YtjgjdobkahdgfaaGreatCmz
set_option linter.all false
namespace Go.Proofs.YtjgjdobkahdgfaaGreat
open Go Go.Ab Go.ChangeShapes Go.WideShapes Go.ChangeAt Go.RowKit
set_option maxRecDepth 100000
theorem fnHelloCalm_lifted (os:Os) (started:os.Started) (H:Type) (enc:TypeId × Value→H) :
    ReturnsInHanded {} Tryz.checked os 5 .any (Rows.fnHelloCalmSpec.pre6 enc Tryz.prog Tryz.f5 Rows.fnHelloCalmRow.domain false) (Rows.fnHelloCalmSpec.post enc Tryz.prog Tryz.f5 false true false false):=by
  refine Qu6 (C:=Tryz.checked) (fn:=Tryz.f5) (fu:=6) (rt:=4) tOk (by kernel_rfl) Tryz.own started (by kernel_rfl) Tryz.func5
    (ChangeSpec.witness6 (enc:=enc) (C:=Tryz.checked) false ⟨#[],#[.slice none 0 0,.slice none 0 0],[]⟩ 8 (by kernel_rfl) (by kernel_rfl) (by kernel_rfl) (by kernel_rfl))
    Tryz.laidOut (by kernel_rfl) (by kernel_rfl) rfl rfl (by kernel_rfl) ?_ ?_
  · intro ds hds;have hds:ds.length=2:=hds;obtain ⟨a,b,rfl⟩:=Qu9 hds
    rfl
  · have hp:Tryz.f5.params.toList=[22,22]:=by kernel_rfl
    rw [hp];intro dss h;obtain ⟨x1,r,rfl,h1,h⟩:=QhR h;obtain ⟨x2,r,rfl,h2,h⟩:=QhR h;obtain rfl:=Qno h;obtain ⟨n1,a1,_,b1,e1⟩:=Qpq (enc:=QN) (ok:=Qmj) (by rfl) (by rfl) (fun _ hd=>Qlt (by rfl) hd) h1;have f1:=And.intro b1 a1;obtain ⟨n2,a2,_,b2,e2⟩:=Qpq (enc:=QN) (ok:=Qmj) (by rfl) (by rfl) (fun _ hd=>Qlt (by rfl) hd) h2;have f2:=And.intro b2 a2;exact PureC.le (vs:=[.d (slD QN n1),.d (slD QN n2)]) (And.intro (Qpr (by rfl) e1) (And.intro (Qpr (by rfl) e2) (trivial))) (QhC (QmU f1 f2))
theorem fnHelloCalm_holds:Rows.FnHelloCalmSaid :=
  OpenClaim.holds_of_wide 5 Tryz.f5 rfl rfl rfl rfl rfl rfl rfl ⟨rfl,rfl,rfl,rfl,rfl⟩ rfl rfl rfl rfl rfl (by kernel_rfl) Tryz.func5 (by kernel_rfl)
    (of_decide_eq_true (by kernel_rfl)) (by unfold Func.isWrapper; first | (rw [if_pos (by decide +kernel)]; kernel_rfl) | (rw [if_neg (by decide +kernel)]; exact ⟨rfl,rfl⟩))
    (fun os started H enc _=>fnHelloCalm_lifted os started H enc)
end Go.Proofs.YtjgjdobkahdgfaaGreat
