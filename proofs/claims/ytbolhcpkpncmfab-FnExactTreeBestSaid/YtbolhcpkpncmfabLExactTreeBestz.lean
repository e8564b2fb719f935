/-
  The row of FnExactTreeBest is proved: for all arguments the law returns true; no condition.
-/
import Derived.Test.YtbolhcpkpncmfabKz5
import Derived.Test.YtbolhcpkpncmfabTreeB3z
import Derived.Test.YtbolhcpkpncmfabArgz
import Derived.Test.YtbolhcpkpncmfabCmz
set_option linter.all false
namespace Go.Proofs.Ytbolhcpkpncmfab
open Go Go.Ab Go.ChangeShapes Go.WideShapes Go.ChangeAt Go.RowKit
set_option maxRecDepth 100000
theorem fnExactTreeBest_lifted (os : Os) (started : os.Started) (H : Type) (enc : TypeId × Value → H) :
    ReturnsInHanded {} Try.checked os 4 .any (Rows.fnExactTreeBestSpec.pre6 enc Try.prog Try.f4 Rows.fnExactTreeBestRow.domain false) (Rows.fnExactTreeBestSpec.post enc Try.prog Try.f4 false true false false) := by
  refine law_any (C := Try.checked) (fn := Try.f4) (fu := 6) (rt := 4) tOk Try.own started (by kernel_rfl) Try.func4
    (ChangeSpec.witness6 (enc := enc) (C := Try.checked) false ⟨#[], #[.agg #[.slice none 0 0, .slice none 0 0, .slice none 0 0, .slice none 0 0, .slice none 0 0, .slice none 0 0]], []⟩ 8 (by kernel_rfl) (by kernel_rfl) (by kernel_rfl) (by kernel_rfl))
    Try.laidOut (by kernel_rfl) (by kernel_rfl) rfl rfl (by kernel_rfl) ?_ ?_
  · intro ds hds
    have hds : ds.length = 1 := hds
    obtain ⟨a, rfl⟩ := len_one hds
    rfl
  · have hp : Try.f4.params.toList = [28] := by kernel_rfl
    rw [hp]
    intro dss h
    obtain ⟨x1, r, rfl, h1, h⟩ := typedAll_cons h
    obtain rfl := typedAll_nil h
    obtain ⟨n1, f1, e1⟩ := typed_TreeWorld h1
    exact PureC.le (vs := [.agg [.d (slD TreeBridge.enc n1.Bridges), .d (slD TreeLink.enc n1.Links), .d (slD encInt n1.Down), .d (slD TreeSlot.enc n1.AtA), .d (slD TreeSlot.enc n1.AtB), .d (slD TreeWord.enc n1.Radio)]]) (And.intro (argV_leS (by rfl) e1) (trivial)) (laws_FnExactTreeBest_c (fnExactTreeBest_p f1))

theorem fnExactTreeBest_holds : Rows.FnExactTreeBestSaid :=
  OpenClaim.holds_of_wide 4 Try.f4 rfl rfl rfl rfl rfl rfl rfl ⟨rfl, rfl, rfl, rfl, rfl⟩ rfl rfl rfl rfl rfl (by kernel_rfl) Try.func4 (by kernel_rfl)
    (of_decide_eq_true (by kernel_rfl)) (by unfold Func.isWrapper; first | (rw [if_pos (by decide +kernel)]; kernel_rfl) | (rw [if_neg (by decide +kernel)]; exact ⟨rfl, rfl⟩))
    (fun os started H enc _ => fnExactTreeBest_lifted os started H enc)

end Go.Proofs.Ytbolhcpkpncmfab
