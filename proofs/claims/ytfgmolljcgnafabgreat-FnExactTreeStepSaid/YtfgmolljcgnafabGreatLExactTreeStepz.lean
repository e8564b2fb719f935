/-
  The row of FnExactTreeStep is proved: for all arguments the law returns true; no condition.
-/
import Derived.Test.YtfgmolljcgnafabGreatKz4
import Derived.Test.YtfgmolljcgnafabGreatTreeE2z
import Derived.Test.YtfgmolljcgnafabGreatArgz
import Derived.Test.YtfgmolljcgnafabGreatCmz
set_option linter.all false
namespace Go.Proofs.YtfgmolljcgnafabGreat
open Go Go.Ab Go.ChangeShapes Go.WideShapes Go.ChangeAt Go.RowKit
set_option maxRecDepth 100000
theorem fnExactTreeStep_lifted (os:Os) (started:os.Started) (H:Type) (enc:TypeId × Value → H) :
    ReturnsInHanded {} Tryz.checked os 4 .any (Rows.fnExactTreeStepSpec.pre6 enc Tryz.prog Tryz.f4 Rows.fnExactTreeStepRow.domain false) (Rows.fnExactTreeStepSpec.post enc Tryz.prog Tryz.f4 false true false false) := by
  refine law_any (C := Tryz.checked) (fn := Tryz.f4) (fu := 6) (rt := 4) tOk Tryz.own started (by kernel_rfl) Tryz.func4
    (ChangeSpec.witness6 (enc := enc) (C := Tryz.checked) false ⟨#[],#[.agg #[.slice none 0 0,.slice none 0 0,.slice none 0 0,.slice none 0 0,.slice none 0 0,.slice none 0 0],.agg #[.int .i64 0,.int .i64 0,.int .i64 0]],[]⟩ 8 (by kernel_rfl) (by kernel_rfl) (by kernel_rfl) (by kernel_rfl))
    Tryz.laidOut (by kernel_rfl) (by kernel_rfl) rfl rfl (by kernel_rfl) ?_ ?_
  · intro ds hds;have hds:ds.length = 2 := hds;obtain ⟨a,b,rfl⟩ := len_two hds
    rfl
  · have hp:Tryz.f4.params.toList = [52,53] := by kernel_rfl
    rw [hp];intro dss h;obtain ⟨x1,r,rfl,h1,h⟩ := typedAll_cons h;obtain ⟨x2,r,rfl,h2,h⟩ := typedAll_cons h;obtain rfl := typedAll_nil h;obtain ⟨n1,f1,e1⟩ := typed_TreeWorld h1;obtain ⟨n2,f2,e2⟩ := typed_TreeEvent h2;exact PureC.le (vs := [.agg [.d (slD TreeBridge.enc n1.Bridges),.d (slD TreeLink.enc n1.Links),.d (slD encInt n1.Down),.d (slD TreeSlot.enc n1.AtA),.d (slD TreeSlot.enc n1.AtB),.d (slD TreeWord.enc n1.Radio)],.agg [.d (.int .i64 n2.Kind),.d (.int .i64 n2.At),.d (.int .i64 n2.End)]]) (And.intro (argV_leS (by rfl) e1) (And.intro (argV_leS (by rfl) e2) (trivial))) (laws_FnExactTreeStep_c (fnExactTreeStep_p f1 f2))
theorem fnExactTreeStep_holds:Rows.FnExactTreeStepSaid :=
  OpenClaim.holds_of_wide 4 Tryz.f4 rfl rfl rfl rfl rfl rfl rfl ⟨rfl,rfl,rfl,rfl,rfl⟩ rfl rfl rfl rfl rfl (by kernel_rfl) Tryz.func4 (by kernel_rfl)
    (of_decide_eq_true (by kernel_rfl)) (by unfold Func.isWrapper; first | (rw [if_pos (by decide +kernel)]; kernel_rfl) | (rw [if_neg (by decide +kernel)]; exact ⟨rfl,rfl⟩))
    (fun os started H enc _ => fnExactTreeStep_lifted os started H enc)
end Go.Proofs.YtfgmolljcgnafabGreat
