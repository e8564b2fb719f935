/-
  The row of FnNatTop is proved: for all arguments the law returns true; no condition.
-/
import Derived.Test.YtaoeomoepefojabKz3
import Derived.Test.YtaoeomoepefojabNatX3z
import Derived.Test.YtaoeomoepefojabArgz
import Derived.Test.YtaoeomoepefojabCmz
set_option linter.all false
namespace Go.Proofs.Ytaoeomoepefojab
open Go Go.Ab Go.ChangeShapes Go.WideShapes Go.ChangeAt Go.RowKit
set_option maxRecDepth 100000
theorem fnNatTop_lifted (os : Os) (started : os.Started) (H : Type) (enc : TypeId × Value → H) :
    ReturnsInHanded {} Try.checked os 5 .any (Rows.fnNatTopSpec.pre6 enc Try.prog Try.f5 Rows.fnNatTopRow.domain false) (Rows.fnNatTopSpec.post enc Try.prog Try.f5 false true false false) := by
  refine law_any (C := Try.checked) (fn := Try.f5) (fu := 6) (rt := 4) tOk Try.own started (by kernel_rfl) Try.func5
    (ChangeSpec.witness6 (enc := enc) (C := Try.checked) false ⟨#[], #[.slice none 0 0], []⟩ 8 (by kernel_rfl) (by kernel_rfl) (by kernel_rfl) (by kernel_rfl))
    Try.laidOut (by kernel_rfl) (by kernel_rfl) rfl rfl (by kernel_rfl) ?_ ?_
  · intro ds hds
    have hds : ds.length = 1 := hds
    obtain ⟨a, rfl⟩ := len_one hds
    rfl
  · have hp : Try.f5.params.toList = [22] := by kernel_rfl
    rw [hp]
    intro dss h
    obtain ⟨x1, r, rfl, h1, h⟩ := typedAll_cons h
    obtain rfl := typedAll_nil h
    obtain ⟨n1, a1, _, b1, e1⟩ := typed_sl (enc := encByte) (ok := FitsB) (by rfl) (by rfl) (fun _ hd => typed_byte (by rfl) hd) h1
    have f1 := And.intro b1 a1
    exact PureC.le (vs := [.d (slD encByte n1)]) (And.intro (argV_le1 (by rfl) e1) (trivial)) (laws_FnNatTop_c (fnNatTop_p f1))

theorem fnNatTop_holds : Rows.FnNatTopSaid :=
  OpenClaim.holds_of_wide 5 Try.f5 rfl rfl rfl rfl rfl rfl rfl ⟨rfl, rfl, rfl, rfl, rfl⟩ rfl rfl rfl rfl rfl (by kernel_rfl) Try.func5 (by kernel_rfl)
    (of_decide_eq_true (by kernel_rfl)) (by unfold Func.isWrapper; first | (rw [if_pos (by decide +kernel)]; kernel_rfl) | (rw [if_neg (by decide +kernel)]; exact ⟨rfl, rfl⟩))
    (fun os started H enc _ => fnNatTop_lifted os started H enc)

end Go.Proofs.Ytaoeomoepefojab
