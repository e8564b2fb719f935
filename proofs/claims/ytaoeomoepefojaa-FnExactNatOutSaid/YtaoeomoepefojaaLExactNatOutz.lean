/-
  The row of FnExactNatOut is proved: for all arguments the law returns true; no condition.
-/
import Derived.Test.YtaoeomoepefojaaKz2
import Derived.Test.YtaoeomoepefojaaNatO2z
import Derived.Test.YtaoeomoepefojaaArgz
import Derived.Test.YtaoeomoepefojaaCmz
set_option linter.all false
namespace Go.Proofs.Ytaoeomoepefojaa
open Go Go.Ab Go.ChangeShapes Go.WideShapes Go.ChangeAt Go.RowKit
set_option maxRecDepth 100000
theorem fnExactNatOut_lifted (os : Os) (started : os.Started) (H : Type) (enc : TypeId × Value → H) :
    ReturnsInHanded {} Try.checked os 4 .any (Rows.fnExactNatOutSpec.pre6 enc Try.prog Try.f4 Rows.fnExactNatOutRow.domain false) (Rows.fnExactNatOutSpec.post enc Try.prog Try.f4 false true false false) := by
  refine law_any (C := Try.checked) (fn := Try.f4) (fu := 6) (rt := 4) tOk Try.own started (by kernel_rfl) Try.func4
    (ChangeSpec.witness6 (enc := enc) (C := Try.checked) false ⟨#[], #[.agg #[.int .i64 0, .int .i64 0, .int .i64 0, .int .i64 0, .int .i64 0, .slice none 0 0, .int .i64 0, .slice none 0 0], .agg #[.int .i64 0, .int .i64 0, .int .i64 0, .int .i64 0, .int .i64 0]], []⟩ 8 (by kernel_rfl) (by kernel_rfl) (by kernel_rfl) (by kernel_rfl))
    Try.laidOut (by kernel_rfl) (by kernel_rfl) rfl rfl (by kernel_rfl) ?_ ?_
  · intro ds hds
    have hds : ds.length = 2 := hds
    obtain ⟨a, b, rfl⟩ := len_two hds
    rfl
  · have hp : Try.f4.params.toList = [48, 50] := by kernel_rfl
    rw [hp]
    intro dss h
    obtain ⟨x1, r, rfl, h1, h⟩ := typedAll_cons h
    obtain ⟨x2, r, rfl, h2, h⟩ := typedAll_cons h
    obtain rfl := typedAll_nil h
    obtain ⟨n1, f1, e1⟩ := typed_NatBook h1
    obtain ⟨n2, f2, e2⟩ := typed_NatFlow h2
    exact PureC.le (vs := [.agg [.d (.int .i64 n1.Addr), .d (.int .i64 n1.Len), .d (.int .i64 n1.Own), .d (.int .i64 n1.Low), .d (.int .i64 n1.High), .d (slD NatDoor.enc n1.Doors), .d (.int .i64 n1.Now), .d (slD NatEntry.enc n1.Entries)], .agg [.d (.int .i64 n2.Kind), .d (.int .i64 n2.From), .d (.int .i64 n2.FromPort), .d (.int .i64 n2.To), .d (.int .i64 n2.ToPort)]]) (And.intro (argV_leS (by rfl) e1) (And.intro (argV_leS (by rfl) e2) (trivial))) (laws_FnExactNatOut_c (fnExactNatOut_p f1 f2))

theorem fnExactNatOut_holds : Rows.FnExactNatOutSaid :=
  OpenClaim.holds_of_wide 4 Try.f4 rfl rfl rfl rfl rfl rfl rfl ⟨rfl, rfl, rfl, rfl, rfl⟩ rfl rfl rfl rfl rfl (by kernel_rfl) Try.func4 (by kernel_rfl)
    (of_decide_eq_true (by kernel_rfl)) (by unfold Func.isWrapper; first | (rw [if_pos (by decide +kernel)]; kernel_rfl) | (rw [if_neg (by decide +kernel)]; exact ⟨rfl, rfl⟩))
    (fun os started H enc _ => fnExactNatOut_lifted os started H enc)

end Go.Proofs.Ytaoeomoepefojaa
