/-
  The row of FnExactTreeThink is proved: for all arguments the law returns true; no condition.
-/
import Derived.Test.YtbolhcpkpncmfaaKz4
import Derived.Test.YtbolhcpkpncmfaaArgz
import Derived.Test.YtbolhcpkpncmfaaCmz
import Derived.Test.YtbolhcpkpncmfaaTreeP5z
set_option linter.all false
namespace Go.Proofs.Ytbolhcpkpncmfaa
open Go Go.Ab Go.ChangeShapes Go.WideShapes Go.ChangeAt Go.RowKit
set_option maxRecDepth 100000
theorem fnExactTreeThink_lifted (os : Os) (started : os.Started) (H : Type) (enc : TypeId × Value → H) :
    ReturnsInHanded {} Try.checked os 5 .any (Rows.fnExactTreeThinkSpec.pre6 enc Try.prog Try.f5 Rows.fnExactTreeThinkRow.domain false) (Rows.fnExactTreeThinkSpec.post enc Try.prog Try.f5 false true false false) := by
  refine law_any (C := Try.checked) (fn := Try.f5) (fu := 6) (rt := 4) tOk Try.own started (by kernel_rfl) Try.func5
    (ChangeSpec.witness6 (enc := enc) (C := Try.checked) false ⟨#[], #[.agg #[.slice none 0 0, .slice none 0 0, .slice none 0 0, .slice none 0 0, .slice none 0 0, .slice none 0 0], .int .i64 0], []⟩ 8 (by kernel_rfl) (by kernel_rfl) (by kernel_rfl) (by kernel_rfl))
    Try.laidOut (by kernel_rfl) (by kernel_rfl) rfl rfl (by kernel_rfl) ?_ ?_
  · intro ds hds
    have hds : ds.length = 2 := hds
    obtain ⟨a, b, rfl⟩ := len_two hds
    rfl
  · have hp : Try.f5.params.toList = [43, 3] := by kernel_rfl
    rw [hp]
    intro dss h
    obtain ⟨x1, r, rfl, h1, h⟩ := typedAll_cons h
    obtain ⟨x2, r, rfl, h2, h⟩ := typedAll_cons h
    obtain rfl := typedAll_nil h
    obtain ⟨n1, f1, e1⟩ := typed_TreeWorld h1
    obtain ⟨n2, f2, e2⟩ := typed_int (by rfl) h2
    exact PureC.le (vs := [.agg [.d (slD TreeBridge.enc n1.Bridges), .d (slD TreeLink.enc n1.Links), .d (slD encInt n1.Down), .d (slD TreeSlot.enc n1.AtA), .d (slD TreeSlot.enc n1.AtB), .d (slD TreeWord.enc n1.Radio)], .d (.int .i64 n2)]) (And.intro (argV_leS (by rfl) e1) (And.intro (argV_le1 (by rfl) e2) (trivial))) (laws_FnExactTreeThink_c (fnExactTreeThink_p f1 f2))

theorem fnExactTreeThink_holds : Rows.FnExactTreeThinkSaid :=
  OpenClaim.holds_of_wide 5 Try.f5 rfl rfl rfl rfl rfl rfl rfl ⟨rfl, rfl, rfl, rfl, rfl⟩ rfl rfl rfl rfl rfl (by kernel_rfl) Try.func5 (by kernel_rfl)
    (of_decide_eq_true (by kernel_rfl)) (by unfold Func.isWrapper; first | (rw [if_pos (by decide +kernel)]; kernel_rfl) | (rw [if_neg (by decide +kernel)]; exact ⟨rfl, rfl⟩))
    (fun os started H enc _ => fnExactTreeThink_lifted os started H enc)

end Go.Proofs.Ytbolhcpkpncmfaa
