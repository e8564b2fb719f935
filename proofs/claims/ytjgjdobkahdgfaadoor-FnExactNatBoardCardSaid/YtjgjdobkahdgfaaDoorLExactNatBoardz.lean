/-
  The row of FnExactNatBoard is proved: for all arguments the law returns true; no condition.
-/
import Derived.Test.YtjgjdobkahdgfaaDoorKz2
import Derived.Test.YtjgjdobkahdgfaaDoorNatBd3z
import Derived.Test.YtjgjdobkahdgfaaDoorArgz
import Derived.Test.YtjgjdobkahdgfaaDoorCmz
import Derived.Test.YtjgjdobkahdgfaaDoorAbz8
import Derived.Test.YtjgjdobkahdgfaaDoorTie
import Derived.Test.YtjgjdobkahdgfaaDoorCards
set_option linter.all false
namespace Go.Proofs.YtjgjdobkahdgfaaDoor
open Go Go.Ab Go.ChangeShapes Go.WideShapes Go.ChangeAt Go.RowKit
set_option maxRecDepth 100000
theorem fnExactNatBoard_tens {W : World} (h : laidMetH Tryd.prog Rows.fnExactNatBoardRow.laid W) : W.var? Tryd.prog tabName = some tens := by
  rw [MakeChecks.laidMetH_plain _ _ _ (by kernel_rfl)] at h
  exact tens_of (by kernel_rfl) (g := 0) (by kernel_rfl) (by kernel_rfl) Tryd.underlying123 Tryd.underlying105 (by kernel_rfl) (by kernel_rfl) (.tail _ (.tail _ (.head _))) (by kernel_rfl) h
theorem fnExactNatBoard_lifted (os : Os) (started : os.Started) (H : Type) (enc : TypeId × Value → H) :
    ReturnsInHanded {} Tryd.checked os 3 .any (fun w args => (Rows.fnExactNatBoardSpec.pre enc Tryd.prog Tryd.f3 Rows.fnExactNatBoardRow.domain false w args ∧ laidMetH Tryd.prog Rows.fnExactNatBoardRow.laid w) ∧ sizedMet enc Tryd.prog Tryd.f3 (OpenSpec.ofChange Rows.fnExactNatBoardSpec) false w args) (Rows.fnExactNatBoardSpec.post enc Tryd.prog Tryd.f3 false true false false) := by
  refine law_laid (X := (fun w _ => laidMetH Tryd.prog Rows.fnExactNatBoardRow.laid w)) (C := Tryd.checked) (fn := Tryd.f3) (fu := 6) (rt := 4) tOk (fun _ _ _ hh h => h.of_heap hh) (fun W _ h => fnExactNatBoard_tens h) Tryd.own started (by kernel_rfl) Tryd.func3
    (ChangeSpec.witness_shaped (enc := enc) (C := Tryd.checked) (os := os) (X := (fun w _ => laidMetH Tryd.prog Rows.fnExactNatBoardRow.laid w)) false (World.laidAll Tryd.prog os Rows.fnExactNatBoardRow.laid) #[.agg #[.int .i64 0, .int .i64 0, .int .i64 0, .int .i64 0, .int .i64 0, .slice none 0 0, .int .i64 0, .slice none 0 0]] 8 (World.laidAll_os _ _ _)
      (World.shaped_of_ZipB (by kernel_rfl) (by kernel_rfl)) (by kernel_rfl) (by kernel_rfl) (by kernel_rfl)
      (by rw [MakeChecks.laidMetH_plain _ _ _ (by kernel_rfl)]; exact laidMet_laidAll _ (by kernel_rfl) (by kernel_rfl)))
    Tryd.laidOut (by kernel_rfl) (by kernel_rfl) rfl rfl (by kernel_rfl) ?_ ?_
  · intro ds hds
    have hds : ds.length = 1 := hds
    obtain ⟨a, rfl⟩ := len_one hds
    rfl
  · have hp : Tryd.f3.params.toList = [25] := by kernel_rfl
    rw [hp]
    intro dss h
    obtain ⟨x1, r, rfl, h1, h⟩ := typedAll_cons h
    obtain rfl := typedAll_nil h
    obtain ⟨n1, f1, e1⟩ := typed_NatBook h1
    exact PureC.le (vs := [.agg [.d (.int .i64 n1.Addr), .d (.int .i64 n1.Len), .d (.int .i64 n1.Own), .d (.int .i64 n1.Low), .d (.int .i64 n1.High), .d (slD NatDoor.enc n1.Doors), .d (.int .i64 n1.Now), .d (slD NatEntry.enc n1.Entries)]]) (And.intro (argV_leS (by rfl) e1) (trivial)) (laws_FnExactNatBoard_c (fnExactNatBoard_p f1))

theorem fnExactNatBoard_holds : Rows.FnExactNatBoardSaid :=
  OpenClaim.holds_of_wide 3 Tryd.f3 rfl rfl rfl rfl rfl rfl rfl ⟨rfl, rfl, rfl, rfl, rfl⟩ rfl rfl rfl rfl rfl (by kernel_rfl) Tryd.func3 (by kernel_rfl)
    (of_decide_eq_true (by kernel_rfl)) (by unfold Func.isWrapper; first | (rw [if_pos (by decide +kernel)]; kernel_rfl) | (rw [if_neg (by decide +kernel)]; exact ⟨rfl, rfl⟩))
    (fun os started H enc _ => fnExactNatBoard_lifted os started H enc)
theorem fnExactNatBoard_card : Rows.FnExactNatBoardCardSaid :=
  Claim7.holds_tied_plain_at .later [] [.data, .data, .data] true (true, "158909e4fa8eeda79a3466b37027d9d98d312bab17fee8eb350ec8b10ab80432") false fnExactNatBoard_holds (fun _ h => by cases h) (by kernel_rfl) (fun _ h => by cases h) fnExactNatBoard_row_tie rfl ⟨rfl, rfl⟩ (by kernel_rfl) rfl
    (fun f fn hf hfn => by
      obtain rfl : f = 3 := Option.some.inj ((show Tryd.prog.funcNamed Tryd.f3.name = some 3 by kernel_rfl).symm.trans hf) |>.symm
      obtain rfl : fn = Tryd.f3 := (Option.some.inj (Tryd.func3.symm.trans hfn)).symm
      exact ⟨by kernel_rfl, fun j t ht => by
        have hm : t ∈ [25] := by simpa using Array.mem_of_getElem? (show (#[25] : Array Nat)[j]? = some t from ht)
        have hall : ([25].all fun u => !Tryd.prog.wantsStandIn u) = true := by kernel_rfl
        exact (show Tryd.prog.wantsStandIn t = false by simpa using List.all_eq_true.1 hall t hm)⟩)
    (by kernel_rfl)

end Go.Proofs.YtjgjdobkahdgfaaDoor
