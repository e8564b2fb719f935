/-
  The row of FnExactNatTick is proved: for all arguments the law returns true; no condition.
-/
import Derived.Test.YtejhbiefhpgjeaaKz2
import Derived.Test.YtejhbiefhpgjeaaNatTz
import Derived.Test.YtejhbiefhpgjeaaArgz
import Derived.Test.YtejhbiefhpgjeaaCmz
set_option linter.all false
namespace Go.Proofs.Ytejhbiefhpgjeaa
open Go Go.Ab Go.ChangeShapes Go.WideShapes Go.ChangeAt Go.RowKit
set_option maxRecDepth 100000
theorem fnExactNatTick_lifted (os:Os) (started:os.Started) (H:Type) (enc:TypeId × Value → H) :
    ReturnsInHanded {} Try.checked os 4 .any (Rows.fnExactNatTickSpec.pre6 enc Try.prog Try.f4 Rows.fnExactNatTickRow.domain false) (Rows.fnExactNatTickSpec.post enc Try.prog Try.f4 false true false false) := by
  refine law_any (C := Try.checked) (fn := Try.f4) (fu := 6) (rt := 4) tOk Try.own started (by kernel_rfl) Try.func4
    (ChangeSpec.witness6 (enc := enc) (C := Try.checked) false ⟨#[],#[.agg #[.int .i64 0,.int .i64 0,.int .i64 0,.int .i64 0,.int .i64 0,.slice none 0 0,.int .i64 0,.slice none 0 0]],[]⟩ 8 (by kernel_rfl) (by kernel_rfl) (by kernel_rfl) (by kernel_rfl))
    Try.laidOut (by kernel_rfl) (by kernel_rfl) rfl rfl (by kernel_rfl) ?_ ?_
  · intro ds hds;have hds:ds.length = 1 := hds;obtain ⟨a,rfl⟩ := len_one hds
    rfl
  · have hp:Try.f4.params.toList = [51] := by kernel_rfl
    rw [hp];intro dss h;obtain ⟨x1,r,rfl,h1,h⟩ := typedAll_cons h;obtain rfl := typedAll_nil h;obtain ⟨n1,f1,e1⟩ := typed_NatBook h1;exact PureC.le (vs := [.agg [.d (.int .i64 n1.Addr),.d (.int .i64 n1.Len),.d (.int .i64 n1.Own),.d (.int .i64 n1.Low),.d (.int .i64 n1.High),.d (slD NatDoor.enc n1.Doors),.d (.int .i64 n1.Now),.d (slD NatEntry.enc n1.Entries)]]) (And.intro (argV_leS (by rfl) e1) (trivial)) (laws_FnExactNatTick_c (fnExactNatTick_p f1))
theorem fnExactNatTick_holds:Rows.FnExactNatTickSaid :=
  OpenClaim.holds_of_wide 4 Try.f4 rfl rfl rfl rfl rfl rfl rfl ⟨rfl,rfl,rfl,rfl,rfl⟩ rfl rfl rfl rfl rfl (by kernel_rfl) Try.func4 (by kernel_rfl)
    (of_decide_eq_true (by kernel_rfl)) (by unfold Func.isWrapper; first | (rw [if_pos (by decide +kernel)]; kernel_rfl) | (rw [if_neg (by decide +kernel)]; exact ⟨rfl,rfl⟩))
    (fun os started H enc _ => fnExactNatTick_lifted os started H enc)
end Go.Proofs.Ytejhbiefhpgjeaa
