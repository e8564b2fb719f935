/-
  The row of FnHelloUse is proved: for all arguments the law returns true; no condition.
-/
import Derived.Test.YtaoeomoepefojaaGreatKz6
import Derived.Test.YtaoeomoepefojaaGreatHelKz
import Derived.Test.YtaoeomoepefojaaGreatArgz
import Derived.Test.YtaoeomoepefojaaGreatCmz
set_option linter.all false
namespace Go.Proofs.YtaoeomoepefojaaGreat
open Go Go.Ab Go.ChangeShapes Go.WideShapes Go.ChangeAt Go.RowKit
set_option maxRecDepth 100000
theorem fnHelloUse_lifted (os:Os) (started:os.Started) (H:Type) (enc:TypeId × Value→H) :
    ReturnsInHanded {} Tryz.checked os 6 .any (Rows.fnHelloUseSpec.pre6 enc Tryz.prog Tryz.f6 Rows.fnHelloUseRow.domain false) (Rows.fnHelloUseSpec.post enc Tryz.prog Tryz.f6 false true false false):=by
  refine law_any (C:=Tryz.checked) (fn:=Tryz.f6) (fu:=6) (rt:=4) tOk Tryz.own started (by kernel_rfl) Tryz.func6
    (ChangeSpec.witness6 (enc:=enc) (C:=Tryz.checked) false ⟨#[],#[.slice none 0 0],[]⟩ 8 (by kernel_rfl) (by kernel_rfl) (by kernel_rfl) (by kernel_rfl))
    Tryz.laidOut (by kernel_rfl) (by kernel_rfl) rfl rfl (by kernel_rfl) ?_ ?_
  · intro ds hds;have hds:ds.length=1:=hds;obtain ⟨a,rfl⟩:=len_one hds
    rfl
  · have hp:Tryz.f6.params.toList=[50]:=by kernel_rfl
    rw [hp];intro dss h;obtain ⟨x1,r,rfl,h1,h⟩:=typedAll_cons h;obtain rfl:=typedAll_nil h;obtain ⟨n1,a1,_,b1,e1⟩:=typed_sl (enc:=encByte) (ok:=FitsB) (by rfl) (by rfl) (fun _ hd=>typed_byte (by rfl) hd) h1;have f1:=And.intro b1 a1;exact PureC.le (vs:=[.d (slD encByte n1)]) (And.intro (argV_le1 (by rfl) e1) (trivial)) (laws_FnHelloUse_c (fnHelloUse_p f1))
theorem fnHelloUse_holds:Rows.FnHelloUseSaid :=
  OpenClaim.holds_of_wide 6 Tryz.f6 rfl rfl rfl rfl rfl rfl rfl ⟨rfl,rfl,rfl,rfl,rfl⟩ rfl rfl rfl rfl rfl (by kernel_rfl) Tryz.func6 (by kernel_rfl)
    (of_decide_eq_true (by kernel_rfl)) (by unfold Func.isWrapper; first | (rw [if_pos (by decide +kernel)]; kernel_rfl) | (rw [if_neg (by decide +kernel)]; exact ⟨rfl,rfl⟩))
    (fun os started H enc _=>fnHelloUse_lifted os started H enc)
end Go.Proofs.YtaoeomoepefojaaGreat
