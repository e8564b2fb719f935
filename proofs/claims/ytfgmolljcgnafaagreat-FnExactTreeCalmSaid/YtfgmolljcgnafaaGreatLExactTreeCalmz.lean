/-
  The row of FnExactTreeCalm is proved: for all arguments the law returns true; no condition.
-/
import Derived.Test.YtfgmolljcgnafaaGreatKz4
import Derived.Test.YtfgmolljcgnafaaGreatTreeEz
import Derived.Test.YtfgmolljcgnafaaGreatArgz
import Derived.Test.YtfgmolljcgnafaaGreatCmz
set_option linter.all false
namespace Go.Proofs.YtfgmolljcgnafaaGreat
open Go Go.Ab Go.ChangeShapes Go.WideShapes Go.ChangeAt Go.RowKit
set_option maxRecDepth 100000
theorem fnExactTreeCalm_lifted (os:Os) (started:os.Started) (H:Type) (enc:TypeId × Value → H) :
    ReturnsInHanded {} Tryz.checked os 3 .any (Rows.fnExactTreeCalmSpec.pre6 enc Tryz.prog Tryz.f3 Rows.fnExactTreeCalmRow.domain false) (Rows.fnExactTreeCalmSpec.post enc Tryz.prog Tryz.f3 false true false false) := by
  refine law_any (C := Tryz.checked) (fn := Tryz.f3) (fu := 6) (rt := 4) tOk Tryz.own started (by kernel_rfl) Tryz.func3
    (ChangeSpec.witness6 (enc := enc) (C := Tryz.checked) false ⟨#[],#[.agg #[.slice none 0 0,.slice none 0 0,.slice none 0 0,.slice none 0 0,.slice none 0 0,.slice none 0 0],.int .i64 0,.int .i64 0],[]⟩ 8 (by kernel_rfl) (by kernel_rfl) (by kernel_rfl) (by kernel_rfl))
    Tryz.laidOut (by kernel_rfl) (by kernel_rfl) rfl rfl (by kernel_rfl) ?_ ?_
  · intro ds hds;have hds:ds.length = 3 := hds;obtain ⟨a,b,c,rfl⟩ := len_three hds
    rfl
  · have hp:Tryz.f3.params.toList = [28,3,3] := by kernel_rfl
    rw [hp];intro dss h;obtain ⟨x1,r,rfl,h1,h⟩ := typedAll_cons h;obtain ⟨x2,r,rfl,h2,h⟩ := typedAll_cons h;obtain ⟨x3,r,rfl,h3,h⟩ := typedAll_cons h;obtain rfl := typedAll_nil h;obtain ⟨n1,f1,e1⟩ := typed_TreeWorld h1;obtain ⟨n2,f2,e2⟩ := typed_int (by rfl) h2;obtain ⟨n3,f3,e3⟩ := typed_int (by rfl) h3;exact PureC.le (vs := [.agg [.d (slD TreeBridge.enc n1.Bridges),.d (slD TreeLink.enc n1.Links),.d (slD encInt n1.Down),.d (slD TreeSlot.enc n1.AtA),.d (slD TreeSlot.enc n1.AtB),.d (slD TreeWord.enc n1.Radio)],.d (.int .i64 n2),.d (.int .i64 n3)]) (And.intro (argV_leS (by rfl) e1) (And.intro (argV_le1 (by rfl) e2) (And.intro (argV_le1 (by rfl) e3) (trivial)))) (laws_FnExactTreeCalm_c (fnExactTreeCalm_p f1 f2 f3))
theorem fnExactTreeCalm_holds:Rows.FnExactTreeCalmSaid :=
  OpenClaim.holds_of_wide 3 Tryz.f3 rfl rfl rfl rfl rfl rfl rfl ⟨rfl,rfl,rfl,rfl,rfl⟩ rfl rfl rfl rfl rfl (by kernel_rfl) Tryz.func3 (by kernel_rfl)
    (of_decide_eq_true (by kernel_rfl)) (by unfold Func.isWrapper; first | (rw [if_pos (by decide +kernel)]; kernel_rfl) | (rw [if_neg (by decide +kernel)]; exact ⟨rfl,rfl⟩))
    (fun os started H enc _ => fnExactTreeCalm_lifted os started H enc)
end Go.Proofs.YtfgmolljcgnafaaGreat
