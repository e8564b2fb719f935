/-
  The row of FnExactTreeLinksOk is proved: for every number and every list of links the law returns true, and its arguments read as before; no condition.
-/
import Derived.Test.YtafklggkpofgmaaTreeLinks
import Derived.Test.YtafklggkpofgmaaCm
namespace Go.Proofs.Ytafklggkpofgmaa
open Go Go.Ab Go.ChangeShapes Go.WideShapes Go.ChangeAt Go.RowKit
set_option maxRecDepth 100000

theorem fnExactTreeLinksOk_c (n : Int) (xs : List TreeLink) (h : xs.length ≤ 9223372036854775807) : PureC Try.prog 3 [i64 n, .d (slD TreeLink.enc xs)] (bl true) [] := by
  refine pureC_of tOk (fn := Try.f3) (c := codeOf Try.f3) rfl rfl (by kernel_rfl) rfl rfl (by simp) (by simp) (by simp [V.mentions]) ?_
  conv => whnf
  refine callC 0 (szTreeLinkS_c _ h) rfl rfl ?_
  conv => whnf
  refine And.intro ?_ ?_ <;> intro h1 <;> simp only [decide_eq_true_eq, decide_eq_false_iff_not] at h1 <;> conv => whnf
  · exact ⟨rfl, trivial⟩
  have hl : xs.length ≤ 1048576 := by
    split at h1 <;> omega
  refine callC 100 (toTreeLinkS_c _ hl) rfl rfl ?_
  conv => whnf
  refine callC 0 (specLinksOk_c _ _ hl) rfl rfl ?_
  conv => whnf
  refine callC 200 (toTreeLinkS_c _ hl) rfl rfl ?_
  conv => whnf
  refine callC 0 (implLinksOk_c _ _ hl) rfl rfl ?_
  conv => whnf
  refine And.intro ?_ ?_ <;> intro h2 <;> conv => whnf
  · simp at h2
  refine callC 300 (toTreeLinkS_c _ hl) rfl rfl ?_
  conv => whnf
  refine callC 0 (eqTreeLinkS_c _ _ hl rfl) rfl rfl ?_
  conv => whnf
  refine And.intro ?_ ?_ <;> intro h3 <;> conv => whnf
  · cases h3
  exact ⟨rfl, trivial⟩
theorem fnExactTreeLinksOk_lifted (os : Os) (started : os.Started) (H : Type) (enc : TypeId × Value → H) :
    ReturnsInHanded {} Try.checked os 3 .any (Rows.fnExactTreeLinksOkSpec.pre6 enc Try.prog Try.f3 Rows.fnExactTreeLinksOkRow.domain false) (Rows.fnExactTreeLinksOkSpec.post enc Try.prog Try.f3 false true false false) := by
  refine law_any (C := Try.checked) (fn := Try.f3) (fu := 6) (rt := 4) tOk Try.own started (by kernel_rfl) Try.func3
    (ChangeSpec.witness6 (enc := enc) (C := Try.checked) false ⟨#[], #[.int .i64 0, .slice none 0 0], []⟩ 8 (by kernel_rfl) (by kernel_rfl) (by kernel_rfl) (by kernel_rfl))
    Try.laidOut (by kernel_rfl) (by kernel_rfl) rfl rfl (by kernel_rfl) ?_ ?_
  · intro ds hds
    have hds : ds.length = 2 := hds
    obtain ⟨a, b, rfl⟩ := len_two hds
    rfl
  · have hp : Try.f3.params.toList = [3, 22] := by kernel_rfl
    rw [hp]
    intro dss h
    obtain ⟨a, r, rfl, h1, h⟩ := typedAll_cons h
    obtain ⟨b, r, rfl, h2, h⟩ := typedAll_cons h
    obtain rfl := typedAll_nil h
    obtain ⟨n, _, e1⟩ := typed_int (by rfl) h1
    obtain ⟨xs, _, _, hl, e2⟩ := typed_sl (enc := TreeLink.enc) (by rfl) (by rfl) (fun _ hd => typed_TreeLink hd) h2
    exact PureC.le (vs := [i64 n, .d (slD TreeLink.enc xs)]) (And.intro (argV_le1 (by rfl) e1) (And.intro (argV_le1 (by rfl) e2) trivial)) (fnExactTreeLinksOk_c n xs hl)

theorem fnExactTreeLinksOk_holds : Rows.FnExactTreeLinksOkSaid :=
  OpenClaim.holds_of_wide 3 Try.f3 rfl rfl rfl rfl rfl rfl rfl ⟨rfl, rfl, rfl, rfl, rfl⟩ rfl rfl rfl rfl rfl (by kernel_rfl) Try.func3 (by kernel_rfl)
    (of_decide_eq_true (by kernel_rfl)) (by unfold Func.isWrapper; first | (rw [if_pos (by decide +kernel)]; kernel_rfl) | (rw [if_neg (by decide +kernel)]; exact ⟨rfl, rfl⟩))
    (fun os started H enc _ => fnExactTreeLinksOk_lifted os started H enc)
end Go.Proofs.Ytafklggkpofgmaa
