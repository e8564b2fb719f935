/-
  The row of FnExactHelloTick is proved: for all arguments the law returns true; no condition.
-/
import Derived.Test.YtaoeomoepefojaaKz2
import Derived.Test.YtaoeomoepefojaaHelTz
import Derived.Test.YtaoeomoepefojaaArgz
import Derived.Test.YtaoeomoepefojaaCmz
set_option linter.all false
namespace Go.Proofs.Ytaoeomoepefojaa
open Go Go.Ab Go.ChangeShapes Go.WideShapes Go.ChangeAt Go.RowKit
set_option maxRecDepth 100000
theorem fnExactHelloTick_lifted (os : Os) (started : os.Started) (H : Type) (enc : TypeId × Value → H) :
    ReturnsInHanded {} Try.checked os 3 .any (Rows.fnExactHelloTickSpec.pre6 enc Try.prog Try.f3 Rows.fnExactHelloTickRow.domain false) (Rows.fnExactHelloTickSpec.post enc Try.prog Try.f3 false true false false) := by
  refine law_any (C := Try.checked) (fn := Try.f3) (fu := 6) (rt := 4) tOk Try.own started (by kernel_rfl) Try.func3
    (ChangeSpec.witness6 (enc := enc) (C := Try.checked) false ⟨#[], #[.agg #[.int .i64 0, .int .i64 0, .slice none 0 0, .int .i64 0, .slice none 0 0, .int .i64 0, .int .i64 0, .int .i64 0, .bool false, .int .i64 0, .int .i64 0, .int .i64 0, .int .i64 0, .int .i64 0, .int .i64 0, .int .i64 0, .slice none 0 0, .bool false, .int .i64 0, .bool false, .slice none 0 0, .int .i64 0]], []⟩ 8 (by kernel_rfl) (by kernel_rfl) (by kernel_rfl) (by kernel_rfl))
    Try.laidOut (by kernel_rfl) (by kernel_rfl) rfl rfl (by kernel_rfl) ?_ ?_
  · intro ds hds
    have hds : ds.length = 1 := hds
    obtain ⟨a, rfl⟩ := len_one hds
    rfl
  · have hp : Try.f3.params.toList = [30] := by kernel_rfl
    rw [hp]
    intro dss h
    obtain ⟨x1, r, rfl, h1, h⟩ := typedAll_cons h
    obtain rfl := typedAll_nil h
    obtain ⟨n1, f1, e1⟩ := typed_HelloEnd h1
    exact PureC.le (vs := [.agg [.d (.int .i64 n1.Name), .d (.int .i64 n1.Peer), .d (slD HelloKey.enc n1.Keys), .d (.int .i64 n1.Boot), .d (slD HelloEntry.enc n1.Want), .d (.int .i64 n1.Turn), .d (.int .i64 n1.PeerBoot), .d (.int .i64 n1.PeerTurn), .d (.bool n1.Up), .d (.int .i64 n1.Left), .d (.int .i64 n1.Num), .d (.int .i64 n1.Under.Kind), .d (.int .i64 n1.Under.Entry.Addr), .d (.int .i64 n1.Under.Entry.Len), .d (.int .i64 n1.Under.Entry.Cost), .d (.int .i64 n1.Under.Entry.Label), .d (slD HelloEntry.enc n1.Told), .d (.bool n1.All), .d (.int .i64 n1.Got), .d (.bool n1.Full), .d (slD HelloRoute.enc n1.Heard), .d (.int .i64 n1.Keep)]]) (And.intro (argV_leS (by rfl) e1) (trivial)) (laws_FnExactHelloTick_c (fnExactHelloTick_p f1))

theorem fnExactHelloTick_holds : Rows.FnExactHelloTickSaid :=
  OpenClaim.holds_of_wide 3 Try.f3 rfl rfl rfl rfl rfl rfl rfl ⟨rfl, rfl, rfl, rfl, rfl⟩ rfl rfl rfl rfl rfl (by kernel_rfl) Try.func3 (by kernel_rfl)
    (of_decide_eq_true (by kernel_rfl)) (by unfold Func.isWrapper; first | (rw [if_pos (by decide +kernel)]; kernel_rfl) | (rw [if_neg (by decide +kernel)]; exact ⟨rfl, rfl⟩))
    (fun os started H enc _ => fnExactHelloTick_lifted os started H enc)

end Go.Proofs.Ytaoeomoepefojaa
