/-
  The row of FnNatBoard is proved: for all arguments the law returns true; no condition.
-/
import Derived.Test.YtjgjdobkahdgfaaDoorKz3
import Derived.Test.YtjgjdobkahdgfaaDoorNatBd4z
import Derived.Test.YtjgjdobkahdgfaaDoorArgz
import Derived.Test.YtjgjdobkahdgfaaDoorCmz
import Derived.Test.YtjgjdobkahdgfaaDoorAbz8
import Derived.Test.YtjgjdobkahdgfaaDoorTie
import Derived.Test.YtjgjdobkahdgfaaDoorCards
set_option linter.all false
namespace Go.Proofs.YtjgjdobkahdgfaaDoor
open Go Go.Ab Go.ChangeShapes Go.WideShapes Go.ChangeAt Go.RowKit
set_option maxRecDepth 100000
theorem fnNatBoard_tens {W : World} (h : laidMetH Tryd.prog Rows.fnNatBoardRow.laid W) : W.var? Tryd.prog tabName = some tens := by
  rw [MakeChecks.laidMetH_plain _ _ _ (by kernel_rfl)] at h
  exact tens_of (by kernel_rfl) (g := 0) (by kernel_rfl) (by kernel_rfl) Tryd.underlying123 Tryd.underlying105 (by kernel_rfl) (by kernel_rfl) (.tail _ (.tail _ (.head _))) (by kernel_rfl) h
theorem fnNatBoard_lifted (os : Os) (started : os.Started) (H : Type) (enc : TypeId × Value → H) :
    ReturnsInHanded {} Tryd.checked os 4 .any (fun w args => (Rows.fnNatBoardSpec.pre enc Tryd.prog Tryd.f4 Rows.fnNatBoardRow.domain false w args ∧ laidMetH Tryd.prog Rows.fnNatBoardRow.laid w) ∧ sizedMet enc Tryd.prog Tryd.f4 (OpenSpec.ofChange Rows.fnNatBoardSpec) false w args) (Rows.fnNatBoardSpec.post enc Tryd.prog Tryd.f4 false true false false) := by
  refine law_laid (X := (fun w _ => laidMetH Tryd.prog Rows.fnNatBoardRow.laid w)) (C := Tryd.checked) (fn := Tryd.f4) (fu := 6) (rt := 4) tOk (fun _ _ _ hh h => h.of_heap hh) (fun W _ h => fnNatBoard_tens h) Tryd.own started (by kernel_rfl) Tryd.func4
    (ChangeSpec.witness_shaped (enc := enc) (C := Tryd.checked) (os := os) (X := (fun w _ => laidMetH Tryd.prog Rows.fnNatBoardRow.laid w)) false (World.laidAll Tryd.prog os Rows.fnNatBoardRow.laid) #[.slice none 0 0] 8 (World.laidAll_os _ _ _)
      (World.shaped_of_ZipB (by kernel_rfl) (by kernel_rfl)) (by kernel_rfl) (by kernel_rfl) (by kernel_rfl)
      (by rw [MakeChecks.laidMetH_plain _ _ _ (by kernel_rfl)]; exact laidMet_laidAll _ (by kernel_rfl) (by kernel_rfl)))
    Tryd.laidOut (by kernel_rfl) (by kernel_rfl) rfl rfl (by kernel_rfl) ?_ ?_
  · intro ds hds
    have hds : ds.length = 1 := hds
    obtain ⟨a, rfl⟩ := len_one hds
    rfl
  · have hp : Tryd.f4.params.toList = [35] := by kernel_rfl
    rw [hp]
    intro dss h
    obtain ⟨x1, r, rfl, h1, h⟩ := typedAll_cons h
    obtain rfl := typedAll_nil h
    obtain ⟨n1, a1, _, b1, e1⟩ := typed_sl (enc := encByte) (ok := FitsB) (by rfl) (by rfl) (fun _ hd => typed_byte (by rfl) hd) h1
    have f1 := And.intro b1 a1
    exact PureC.le (vs := [.d (slD encByte n1)]) (And.intro (argV_le1 (by rfl) e1) (trivial)) (laws_FnNatBoard_c (fnNatBoard_p f1))

theorem fnNatBoard_holds : Rows.FnNatBoardSaid :=
  OpenClaim.holds_of_wide 4 Tryd.f4 rfl rfl rfl rfl rfl rfl rfl ⟨rfl, rfl, rfl, rfl, rfl⟩ rfl rfl rfl rfl rfl (by kernel_rfl) Tryd.func4 (by kernel_rfl)
    (of_decide_eq_true (by kernel_rfl)) (by unfold Func.isWrapper; first | (rw [if_pos (by decide +kernel)]; kernel_rfl) | (rw [if_neg (by decide +kernel)]; exact ⟨rfl, rfl⟩))
    (fun os started H enc _ => fnNatBoard_lifted os started H enc)
theorem fnNatBoard_card : Rows.FnNatBoardCardSaid :=
  Claim7.holds_tied_plain_at .later [] [.data, .data, .data] true (true, "158909e4fa8eeda79a3466b37027d9d98d312bab17fee8eb350ec8b10ab80432") false fnNatBoard_holds (fun _ h => by cases h) (by kernel_rfl) (fun _ h => by cases h) fnNatBoard_row_tie rfl ⟨rfl, rfl⟩ (by kernel_rfl) rfl
    (fun f fn hf hfn => by
      obtain rfl : f = 4 := Option.some.inj ((show Tryd.prog.funcNamed Tryd.f4.name = some 4 by kernel_rfl).symm.trans hf) |>.symm
      obtain rfl : fn = Tryd.f4 := (Option.some.inj (Tryd.func4.symm.trans hfn)).symm
      exact ⟨by kernel_rfl, fun j t ht => by
        have hm : t ∈ [35] := by simpa using Array.mem_of_getElem? (show (#[35] : Array Nat)[j]? = some t from ht)
        have hall : ([35].all fun u => !Tryd.prog.wantsStandIn u) = true := by kernel_rfl
        exact (show Tryd.prog.wantsStandIn t = false by simpa using List.all_eq_true.1 hall t hm)⟩)
    (by kernel_rfl)

end Go.Proofs.YtjgjdobkahdgfaaDoor
