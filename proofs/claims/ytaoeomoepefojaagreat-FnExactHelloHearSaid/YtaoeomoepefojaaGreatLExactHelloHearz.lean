/-
  The row of FnExactHelloHear is proved: for all arguments the law returns true; no condition.
-/
import Derived.Test.YtaoeomoepefojaaGreatKz3
import Derived.Test.YtaoeomoepefojaaGreatHelWz
import Derived.Test.YtaoeomoepefojaaGreatArgz
import Derived.Test.YtaoeomoepefojaaGreatCmz
set_option linter.all false
namespace Go.Proofs.YtaoeomoepefojaaGreat
open Go Go.Ab Go.ChangeShapes Go.WideShapes Go.ChangeAt Go.RowKit
set_option maxRecDepth 100000
theorem fnExactHelloHear_lifted (os : Os) (started : os.Started) (H : Type) (enc : TypeId × Value → H) :
    ReturnsInHanded {} Tryz.checked os 3 .any (Rows.fnExactHelloHearSpec.pre6 enc Tryz.prog Tryz.f3 Rows.fnExactHelloHearRow.domain false) (Rows.fnExactHelloHearSpec.post enc Tryz.prog Tryz.f3 false true false false) := by
  refine law_any (C := Tryz.checked) (fn := Tryz.f3) (fu := 6) (rt := 4) tOk Tryz.own started (by kernel_rfl) Tryz.func3
    (ChangeSpec.witness6 (enc := enc) (C := Tryz.checked) false ⟨#[], #[.agg #[.int .i64 0, .int .i64 0, .slice none 0 0, .int .i64 0, .slice none 0 0, .int .i64 0, .int .i64 0, .int .i64 0, .bool false, .int .i64 0, .int .i64 0, .int .i64 0, .int .i64 0, .int .i64 0, .int .i64 0, .int .i64 0, .slice none 0 0, .bool false, .int .i64 0, .bool false, .slice none 0 0, .int .i64 0], .agg #[.int .i64 0, .int .i64 0, .int .i64 0, .int .i64 0, .int .i64 0, .int .i64 0, .int .i64 0, .int .i64 0, .int .i64 0, .int .i64 0, .int .i64 0, .int .i64 0, .int .i64 0, .int .i64 0]], []⟩ 8 (by kernel_rfl) (by kernel_rfl) (by kernel_rfl) (by kernel_rfl))
    Tryz.laidOut (by kernel_rfl) (by kernel_rfl) rfl rfl (by kernel_rfl) ?_ ?_
  · intro ds hds
    have hds : ds.length = 2 := hds
    obtain ⟨a, b, rfl⟩ := len_two hds
    rfl
  · have hp : Tryz.f3.params.toList = [30, 32] := by kernel_rfl
    rw [hp]
    intro dss h
    obtain ⟨x1, r, rfl, h1, h⟩ := typedAll_cons h
    obtain ⟨x2, r, rfl, h2, h⟩ := typedAll_cons h
    obtain rfl := typedAll_nil h
    obtain ⟨n1, f1, e1⟩ := typed_HelloEnd h1
    obtain ⟨n2, f2, e2⟩ := typed_HelloWord h2
    exact PureC.le (vs := [.agg [.d (.int .i64 n1.Name), .d (.int .i64 n1.Peer), .d (slD HelloKey.enc n1.Keys), .d (.int .i64 n1.Boot), .d (slD HelloEntry.enc n1.Want), .d (.int .i64 n1.Turn), .d (.int .i64 n1.PeerBoot), .d (.int .i64 n1.PeerTurn), .d (.bool n1.Up), .d (.int .i64 n1.Left), .d (.int .i64 n1.Num), .d (.int .i64 n1.Under.Kind), .d (.int .i64 n1.Under.Entry.Addr), .d (.int .i64 n1.Under.Entry.Len), .d (.int .i64 n1.Under.Entry.Cost), .d (.int .i64 n1.Under.Entry.Label), .d (slD HelloEntry.enc n1.Told), .d (.bool n1.All), .d (.int .i64 n1.Got), .d (.bool n1.Full), .d (slD HelloRoute.enc n1.Heard), .d (.int .i64 n1.Keep)], .agg [.d (.int .i64 n2.From), .d (.int .i64 n2.To), .d (.int .i64 n2.Key), .d (.int .i64 n2.Boot), .d (.int .i64 n2.Yours), .d (.int .i64 n2.Turn), .d (.int .i64 n2.Num), .d (.int .i64 n2.Heard), .d (.int .i64 n2.Change.Kind), .d (.int .i64 n2.Change.Entry.Addr), .d (.int .i64 n2.Change.Entry.Len), .d (.int .i64 n2.Change.Entry.Cost), .d (.int .i64 n2.Change.Entry.Label), .d (.int .i64 n2.Sum)]]) (And.intro (argV_leS (by rfl) e1) (And.intro (argV_leS (by rfl) e2) (trivial))) (laws_FnExactHelloHear_c (fnExactHelloHear_p f1 f2))

theorem fnExactHelloHear_holds : Rows.FnExactHelloHearSaid :=
  OpenClaim.holds_of_wide 3 Tryz.f3 rfl rfl rfl rfl rfl rfl rfl ⟨rfl, rfl, rfl, rfl, rfl⟩ rfl rfl rfl rfl rfl (by kernel_rfl) Tryz.func3 (by kernel_rfl)
    (of_decide_eq_true (by kernel_rfl)) (by unfold Func.isWrapper; first | (rw [if_pos (by decide +kernel)]; kernel_rfl) | (rw [if_neg (by decide +kernel)]; exact ⟨rfl, rfl⟩))
    (fun os started H enc _ => fnExactHelloHear_lifted os started H enc)

end Go.Proofs.YtaoeomoepefojaaGreat
