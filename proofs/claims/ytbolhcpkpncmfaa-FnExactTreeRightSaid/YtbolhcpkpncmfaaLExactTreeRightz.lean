/-
  The row of FnExactTreeRight is proved: for all arguments the law returns true; no condition.
-/
import Derived.Test.YtbolhcpkpncmfaaKz4
import Derived.Test.YtbolhcpkpncmfaaTreeB3z
import Derived.Test.YtbolhcpkpncmfaaArgz
import Derived.Test.YtbolhcpkpncmfaaCmz
set_option linter.all false
namespace Go.Proofs.Ytbolhcpkpncmfaa
open Go Go.Ab Go.ChangeShapes Go.WideShapes Go.ChangeAt Go.RowKit
set_option maxRecDepth 100000
theorem fnExactTreeRight_lifted (os : Os) (started : os.Started) (H : Type) (enc : TypeId × Value → H) :
    ReturnsInHanded {} Try.checked os 8 .any (Rows.fnExactTreeRightSpec.pre6 enc Try.prog Try.f8 Rows.fnExactTreeRightRow.domain false) (Rows.fnExactTreeRightSpec.post enc Try.prog Try.f8 false true false false) := by
  refine law_any (C := Try.checked) (fn := Try.f8) (fu := 6) (rt := 4) tOk Try.own started (by kernel_rfl) Try.func8
    (ChangeSpec.witness6 (enc := enc) (C := Try.checked) false ⟨#[], #[.agg #[.slice none 0 0, .slice none 0 0, .slice none 0 0, .slice none 0 0, .slice none 0 0, .slice none 0 0]], []⟩ 8 (by kernel_rfl) (by kernel_rfl) (by kernel_rfl) (by kernel_rfl))
    Try.laidOut (by kernel_rfl) (by kernel_rfl) rfl rfl (by kernel_rfl) ?_ ?_
  · intro ds hds
    have hds : ds.length = 1 := hds
    obtain ⟨a, rfl⟩ := len_one hds
    rfl
  · have hp : Try.f8.params.toList = [43] := by kernel_rfl
    rw [hp]
    intro dss h
    obtain ⟨x1, r, rfl, h1, h⟩ := typedAll_cons h
    obtain rfl := typedAll_nil h
    obtain ⟨n1, f1, e1⟩ := typed_TreeWorld h1
    exact PureC.le (vs := [.agg [.d (slD TreeBridge.enc n1.Bridges), .d (slD TreeLink.enc n1.Links), .d (slD encInt n1.Down), .d (slD TreeSlot.enc n1.AtA), .d (slD TreeSlot.enc n1.AtB), .d (slD TreeWord.enc n1.Radio)]]) (And.intro (argV_leS (by rfl) e1) (trivial)) (laws_FnExactTreeRight_c (fnExactTreeRight_p f1))

theorem fnExactTreeRight_holds : Rows.FnExactTreeRightSaid :=
  OpenClaim.holds_of_wide 8 Try.f8 rfl rfl rfl rfl rfl rfl rfl ⟨rfl, rfl, rfl, rfl, rfl⟩ rfl rfl rfl rfl rfl (by kernel_rfl) Try.func8 (by kernel_rfl)
    (of_decide_eq_true (by kernel_rfl)) (by unfold Func.isWrapper; first | (rw [if_pos (by decide +kernel)]; kernel_rfl) | (rw [if_neg (by decide +kernel)]; exact ⟨rfl, rfl⟩))
    (fun os started H enc _ => fnExactTreeRight_lifted os started H enc)

end Go.Proofs.Ytbolhcpkpncmfaa
