/-
  What some of the program's functions compute: their models, and that the functions compute these; no condition.
-/
import Derived.Test.YtjpfiaejakidnaaTyz
import Derived.Test.YtjpfiaejakidnaaTbz
import Derived.Test.YtjpfiaejakidnaaLayz
import Derived.Test.YtjpfiaejakidnaaKz3
set_option linter.all false
namespace Go.Proofs.Ytjpfiaejakidnaa
open Go Go.Ab
set_option maxRecDepth 100000
set_option maxHeartbeats 4000000
noncomputable def spec_l4Tos_m (a0 : (List AclRule)) : Option ((List NetPrefix)) :=
 bd (lp (σ := List NetPrefix × Int) (β := (Nat × (List NetPrefix))) (fun s1 =>
(if (decide (s1.2 < ((a0.length : Nat) : Int))) = true then
 gd ((0 : Int) ≤ s1.2 ∧ s1.2 < ((a0.length : Nat) : Int)) <|
 gd (((s1.1.length) + (([((a0.getD s1.2.toNat default).To)] : List NetPrefix).length)) * (16 + 1) ≤ 70368744177664) <|
 some (.inl ((s1.1 ++ ([((a0.getD s1.2.toNat default).To)] : List NetPrefix)), IntKind.i64.wrap (s1.2 + 1)))
else
 some (.inr (s1.1.length, s1.1)))) (([] : List NetPrefix), 0)) fun x4 =>
 some x4.2

theorem spec_l4Tos_c {a0 : (List AclRule)} {r : (List NetPrefix)} (h : spec_l4Tos_m a0 = some r) : PureC Try.prog 62 [.d (slD AclRule.enc a0)] (.osl 5001 0 r.length) [⟨5001, 39, 2, r.length, rows NetPrefix.enc r⟩] := by
  refine pureC_m tOk (fn := Try.f62) (c := codeOf Try.f62) rfl rfl (by kernel_rfl) rfl rfl (by simp [atomD]) (by simp) (ids_of rfl) ?_
  unfold spec_l4Tos_m at h
  conv => whnf
  refine seq_in tOk ?_
  conv => whnf
  obtain ⟨x4, hx4, h⟩ := bd_some h
  refine loop_m tOk hx4 (fun s1 => ⟨0, 21, [(0, .d (slD AclRule.enc a0)), (3, .osl 7001 0 s1.1.length), (4, .d (.int .i64 s1.2))], [], [(7001, .arr 39 2 s1.1.length (rows NetPrefix.enc s1.1))], []⟩) ?_ ?_
  · refine LE.trans (S' := ⟨0, 21, [(0, .d (slD AclRule.enc a0)), (3, .d (.nil)), (4, .d (.int .i64 0))], [], [], []⟩) (le_mk ?_ ?_ ?_) (LE.trans (S' := ⟨0, 21, [(0, .d (slD AclRule.enc a0)), (3, .d (.nil)), (4, .d (.int .i64 0))], [], [(7001, .arr 39 2 (([] : List NetPrefix).length) (rows NetPrefix.enc ([] : List NetPrefix)))], []⟩) (le_ph 7001 39 2 (rows NetPrefix.enc ([] : List NetPrefix)) rfl rfl) (le_mk ?_ ?_ ?_)) <;> (repeat' first | ((conv => whnf); first | exact trivial | refine And.intro ?_ ?_ | exact BLe.refl _ | exact VLe.refl _) | exact trivial | exact rfl | refine And.intro ?_ ?_ | exact BLe.refl _ | exact VLe.refl _ | exact VLe.any _ | exact VLe.nil_osl rfl | exact VLe.nil_sl rfl | exact VLe.built rfl rfl | (refine VLe.osl rfl ?_; (first | rfl | (simp; done) | assumption | (simp [dsub_eq] <;> omega) | omega)) | exact VLe.rows (by first | rfl | (simp; done) | assumption | (simp [dsub_eq] <;> omega) | omega) (fun _ _ => rfl) | exact VLe.rows (by simp [dsub_eq] <;> omega) rows_take | exact VLe.rows (by simp [dsub_eq] <;> omega) rows_dt | exact VLe.rows (by simp [dsub_eq] <;> omega) rows_vt | exact VLe.rows (by simp) (fun i _ => by simp [viewRow_eq, Nat.add_comm]) | refine VLe.aggL ?_ | (refine BLe.rows rfl ?_ fun _ _ => rfl; (first | rfl | (simp; done) | assumption | (simp [dsub_eq] <;> omega) | omega)) | (refine BLe.rows rfl rfl ?_; first | exact rows_take) | refine BLe.box ?_)
  · clear hx4
    intro s1 y2 g3 hy2
    conv => whnf
    refine seq_in tOk ?_
    conv => whnf
    refine And.intro (fun e => ?_) (fun e => ?_)
    · replace g3 := ite_t g3 e; clear e
      conv => whnf
      refine seq_in tOk ?_
      conv => whnf
      obtain ⟨g5, g3⟩ := gd_some g3
      refine And.intro g5 ?_
      clear g5
      conv => whnf
      refine ⟨([((a0.getD s1.2.toNat default).To)] : List NetPrefix).length, rows NetPrefix.enc ([((a0.getD s1.2.toNat default).To)] : List NetPrefix), rfl, build_rows, ?_⟩
      conv => whnf
      obtain ⟨g6, g3⟩ := gd_some g3
      refine And.intro g6 ?_
      clear g6
      refine ⟨(s1.1 ++ ([((a0.getD s1.2.toNat default).To)] : List NetPrefix)).length, rows NetPrefix.enc (s1.1 ++ ([((a0.getD s1.2.toNat default).To)] : List NetPrefix)), (by first | rfl | (simp; done) | assumption | (simp [dsub_eq] <;> omega) | omega), (by first | exact app_rows (m := ([((a0.getD s1.2.toNat default).To)] : List NetPrefix).length) (by first | rfl | (simp; done) | assumption | (simp [dsub_eq] <;> omega) | omega) (by first | rfl | (simp; done) | assumption | (simp [dsub_eq] <;> omega) | omega) (fun _ _ => rfl) (fun _ _ => rfl) | exact app_rows0 (m := ([((a0.getD s1.2.toNat default).To)] : List NetPrefix).length) (by first | rfl | (simp; done) | assumption | (simp [dsub_eq] <;> omega) | omega) (fun _ _ => rfl) | exact app_rows (m := ([((a0.getD s1.2.toNat default).To)] : List NetPrefix).length) (by first | rfl | (simp; done) | assumption | (simp [dsub_eq] <;> omega) | omega) (by first | rfl | (simp; done) | assumption | (simp [dsub_eq] <;> omega) | omega) (by first | exact fun _ _ => rfl | exact rows_take | (intro i hi; simp only [viewRow_eq, addOff_eq, Int.toNat_zero, Nat.zero_add, Nat.add_zero]; exact rows_take i hi) | exact rows_vt | exact rows_dt | (intro i hi; simp only [viewRow_eq, Nat.zero_add]) | (intro i hi; simp [viewRow_eq])) (by first | exact fun _ _ => rfl | exact rows_take | (intro i hi; simp only [viewRow_eq, addOff_eq, Int.toNat_zero, Nat.zero_add, Nat.add_zero]; exact rows_take i hi) | exact rows_vt | exact rows_dt | (intro i hi; simp only [viewRow_eq, Nat.zero_add]) | (intro i hi; simp [viewRow_eq])) | exact app_rows0 (m := ([((a0.getD s1.2.toNat default).To)] : List NetPrefix).length) (by first | rfl | (simp; done) | assumption | (simp [dsub_eq] <;> omega) | omega) (by first | exact fun _ _ => rfl | exact rows_take | (intro i hi; simp only [viewRow_eq, addOff_eq, Int.toNat_zero, Nat.zero_add, Nat.add_zero]; exact rows_take i hi) | exact rows_vt | exact rows_dt | (intro i hi; simp only [viewRow_eq, Nat.zero_add]) | (intro i hi; simp [viewRow_eq]))), ?_⟩
      conv => whnf
      obtain rfl := Option.some.inj g3
      refine ⟨_, rfl, le_mk ?_ ?_ ?_⟩ <;> (repeat' first | ((conv => whnf); first | exact trivial | refine And.intro ?_ ?_ | exact BLe.refl _ | exact VLe.refl _) | exact trivial | exact rfl | refine And.intro ?_ ?_ | exact BLe.refl _ | exact VLe.refl _ | exact VLe.any _ | exact VLe.nil_osl rfl | exact VLe.nil_sl rfl | exact VLe.built rfl rfl | (refine VLe.osl rfl ?_; (first | rfl | (simp; done) | assumption | (simp [dsub_eq] <;> omega) | omega)) | exact VLe.rows (by first | rfl | (simp; done) | assumption | (simp [dsub_eq] <;> omega) | omega) (fun _ _ => rfl) | exact VLe.rows (by simp [dsub_eq] <;> omega) rows_take | exact VLe.rows (by simp [dsub_eq] <;> omega) rows_dt | exact VLe.rows (by simp [dsub_eq] <;> omega) rows_vt | exact VLe.rows (by simp) (fun i _ => by simp [viewRow_eq, Nat.add_comm]) | refine VLe.aggL ?_ | (refine BLe.rows rfl ?_ fun _ _ => rfl; (first | rfl | (simp; done) | assumption | (simp [dsub_eq] <;> omega) | omega)) | (refine BLe.rows rfl rfl ?_; first | exact rows_take) | refine BLe.box ?_)
    · replace g3 := ite_f g3 e; clear e
      conv => whnf
      obtain rfl := Option.some.inj g3
      obtain rfl := hy2 _ rfl
      obtain rfl := Option.some.inj h
      refine ⟨⟨0, 21, [(2, .osl 5001 0 (s1.1.length, s1.1).2.length)], [], [(5001, .arr 39 2 (s1.1.length, s1.1).2.length (rows NetPrefix.enc (s1.1.length, s1.1).2))], []⟩, ?_, And.intro rfl ?_⟩
      · refine LE.trans (S' := ⟨0, 21, [(2, .osl 7001 0 (s1.1.length, s1.1).1)], [], [(7001, .arr 39 2 (s1.1.length, s1.1).1 (rows NetPrefix.enc (s1.1.length, s1.1).2))], []⟩) (le_mk ?_ ?_ ?_) (LE.trans (S' := ⟨0, 21, [(2, .osl 5001 0 (s1.1.length, s1.1).1)], [], [(5001, .arr 39 2 (s1.1.length, s1.1).1 (rows NetPrefix.enc (s1.1.length, s1.1).2))], []⟩) (le_swaps [(7001, 5001)] rfl) (le_mk ?_ ?_ ?_)) <;> (repeat' first | ((conv => whnf); first | exact trivial | refine And.intro ?_ ?_ | exact BLe.refl _ | exact VLe.refl _) | exact trivial | exact rfl | refine And.intro ?_ ?_ | exact BLe.refl _ | exact VLe.refl _ | exact VLe.any _ | exact VLe.nil_osl rfl | exact VLe.nil_sl rfl | exact VLe.built rfl rfl | (refine VLe.osl rfl ?_; (first | rfl | (simp; done) | assumption | (simp [dsub_eq] <;> omega) | omega)) | exact VLe.rows (by first | rfl | (simp; done) | assumption | (simp [dsub_eq] <;> omega) | omega) (fun _ _ => rfl) | exact VLe.rows (by simp [dsub_eq] <;> omega) rows_take | exact VLe.rows (by simp [dsub_eq] <;> omega) rows_dt | exact VLe.rows (by simp [dsub_eq] <;> omega) rows_vt | exact VLe.rows (by simp) (fun i _ => by simp [viewRow_eq, Nat.add_comm]) | refine VLe.aggL ?_ | (refine BLe.rows rfl ?_ fun _ _ => rfl; (first | rfl | (simp; done) | assumption | (simp [dsub_eq] <;> omega) | omega)) | (refine BLe.rows rfl rfl ?_; first | exact rows_take) | refine BLe.box ?_)
      · exact And.intro (And.intro rfl (And.intro rfl (fun _ _ => rfl))) (trivial)

noncomputable def spec_l1Has_m (a0 : NetPrefix) (a1 : Int) : Option (Bool) :=
 bd (gcall ((decide (a1 ≥ a0.Addr)) = true) (spec_l1Size_m a0.Len)) fun x1 =>
 some ((decide (a1 ≥ a0.Addr)) && (decide (a1 < (IntKind.i64.wrap (a0.Addr + x1)))))

theorem spec_l1Has_c {a0 : NetPrefix} {a1 : Int} {r : Bool} (h : spec_l1Has_m a0 a1 = some r) : PureC Try.prog 41 [.agg [.d (.int .i64 a0.Addr), .d (.int .i64 a0.Len)], .d (.int .i64 a1)] (.d (.bool r)) [] := by
  refine pureC_m tOk (fn := Try.f41) (c := codeOf Try.f41) rfl rfl (by kernel_rfl) rfl rfl (by simp) (by simp) (ids_of rfl) ?_
  unfold spec_l1Has_m at h
  conv => whnf
  obtain ⟨x1, hx1, h⟩ := bd_some h
  refine draw_k tOk (by kernel_rfl) (fun j => match j with | 10 => some (.pure 0 (.d (.int .i64 x1)) []) | _ => none) 15 [] [[], [], [false, true], [true, true, true], [true, true, true, true], [true, true, true, true, true], [true, true, true, true, true], [true, true, true, true, true, false, true], [true, true, true, true, true], [true, true, true, true, true, false, false, false, true], [true, true, true, true, true, false, false, false, true, true], [true, true, true, true, true, false, true, true, true, true, true], [true, true, true, true, true, true, true, true, true, true, true, true], [true, true, true, true, true, true, true, true, true, true, true, true, true], [true, true, true, true, true, true, true, true, true, true, true, true, true, true]] [] (by decide) (by kernel_rfl) (by kernel_rfl) ?_
  conv => whnf
  refine And.intro (callDG_if rfl rfl rfl rfl (by intro c0; exact spec_l1Size_c (gcall_some hx1 c0))) ?_
  conv => whnf
  refine And.intro (by kernel_rfl) ?_
  conv => whnf
  obtain rfl := Option.some.inj h
  exact ⟨_, LE.refl _, And.intro rfl trivial⟩

noncomputable def spec_l4Fits_m (a0 : AclRule) (a1 : AclPacket) : Option (Bool) :=
 bd (spec_l1Has_m a0.From a1.From) fun x1 =>
 bd (gcall (x1 = true) (spec_l1Has_m a0.To a1.To)) fun x2 =>
 some ((x1 && x2) && ((a0.Kind == 0) || (a0.Kind == a1.Kind)))

theorem spec_l4Fits_c {a0 : AclRule} {a1 : AclPacket} {r : Bool} (h : spec_l4Fits_m a0 a1 = some r) : PureC Try.prog 50 [.agg [.d (.bool a0.Permit), .d (.int .i64 a0.From.Addr), .d (.int .i64 a0.From.Len), .d (.int .i64 a0.To.Addr), .d (.int .i64 a0.To.Len), .d (.int .i64 a0.Kind)], .agg [.d (.int .i64 a1.From), .d (.int .i64 a1.To), .d (.int .i64 a1.Kind)]] (.d (.bool r)) [] := by
  refine pureC_m tOk (fn := Try.f50) (c := codeOf Try.f50) rfl rfl (by kernel_rfl) rfl rfl (by simp) (by simp) (ids_of rfl) ?_
  unfold spec_l4Fits_m at h
  conv => whnf
  obtain ⟨x1, hx1, h⟩ := bd_some h
  refine callC 0 (spec_l1Has_c hx1) (by kernel_rfl) (by kernel_rfl) ?_
  clear hx1
  conv => whnf
  obtain ⟨x2, hx2, h⟩ := bd_some h
  refine callG_m rfl rfl rfl rfl rfl rfl (by intro c0; exact spec_l1Has_c (gcall_some hx2 c0)) ?_
  conv => whnf
  obtain rfl := Option.some.inj h
  exact ⟨_, LE.refl _, And.intro rfl trivial⟩

noncomputable def spec_l4Says_m (a0 : (List AclRule)) (a1 : AclPacket) : Option (Int × Bool) :=
 bd (lp (σ := Int) (β := ((Int × Bool) ⊕ Unit)) (fun s1 =>
(if (decide (s1 < ((a0.length : Nat) : Int))) = true then
 gd ((0 : Int) ≤ s1 ∧ s1 < ((a0.length : Nat) : Int)) <|
 bd (spec_l4Fits_m ({ (a0.getD s1.toNat default) with From := ((a0.getD s1.toNat default).From), To := ((a0.getD s1.toNat default).To) }) a1) fun x6 =>
(if x6 = true then
 gd ((0 : Int) ≤ s1 ∧ s1 < ((a0.length : Nat) : Int)) <|
 some (.inr (.inl (s1, (a0.getD s1.toNat default).Permit)))
else
 some (.inl (IntKind.i64.wrap (s1 + 1))))
else
 some (.inr (.inr ())))) 0) fun x4 =>
(match x4 with
| .inl d8 =>
 some (d8.1, d8.2)
| .inr d9 =>
 some (-1, false))

theorem spec_l4Says_c {a0 : (List AclRule)} {a1 : AclPacket} {r : Int × Bool} (h : spec_l4Says_m a0 a1 = some r) : PureC Try.prog 31 [.d (slD AclRule.enc a0), .agg [.d (.int .i64 a1.From), .d (.int .i64 a1.To), .d (.int .i64 a1.Kind)]] (.tup [.d (.int .i64 r.1), .d (.bool r.2)]) [] := by
  refine pureC_m tOk (fn := Try.f31) (c := codeOf Try.f31) rfl rfl (by kernel_rfl) rfl rfl (by simp) (by simp) (ids_of rfl) ?_
  unfold spec_l4Says_m at h
  conv => whnf
  refine seq_in tOk ?_
  conv => whnf
  obtain ⟨x4, hx4, h⟩ := bd_some h
  refine loop_m tOk hx4 (fun s1 => ⟨0, 25, [(0, .d (slD AclRule.enc a0)), (3, .ref 3 0 0), (6, .d (.int .i64 s1))], [], [(3, .box 30 [.d (.int .i64 a1.From), .d (.int .i64 a1.To), .d (.int .i64 a1.Kind)])], []⟩) ?_ ?_
  · refine le_mk ?_ ?_ ?_ <;> (repeat' first | ((conv => whnf); first | exact trivial | refine And.intro ?_ ?_ | exact BLe.refl _ | exact VLe.refl _) | exact trivial | exact rfl | refine And.intro ?_ ?_ | exact BLe.refl _ | exact VLe.refl _ | exact VLe.any _ | exact VLe.nil_osl rfl | exact VLe.nil_sl rfl | exact VLe.built rfl rfl | (refine VLe.osl rfl ?_; (first | rfl | (simp; done) | assumption | (simp [dsub_eq] <;> omega) | omega)) | exact VLe.rows (by first | rfl | (simp; done) | assumption | (simp [dsub_eq] <;> omega) | omega) (fun _ _ => rfl) | exact VLe.rows (by simp [dsub_eq] <;> omega) rows_take | exact VLe.rows (by simp [dsub_eq] <;> omega) rows_dt | exact VLe.rows (by simp [dsub_eq] <;> omega) rows_vt | exact VLe.rows (by simp) (fun i _ => by simp [viewRow_eq, Nat.add_comm]) | refine VLe.aggL ?_ | (refine BLe.rows rfl ?_ fun _ _ => rfl; (first | rfl | (simp; done) | assumption | (simp [dsub_eq] <;> omega) | omega)) | (refine BLe.rows rfl rfl ?_; first | exact rows_take) | refine BLe.box ?_)
  · clear hx4
    intro s1 y2 g3 hy2
    conv => whnf
    refine seq_in tOk ?_
    conv => whnf
    refine And.intro (fun e => ?_) (fun e => ?_)
    · replace g3 := ite_t g3 e; clear e
      conv => whnf
      refine seq_in tOk ?_
      conv => whnf
      obtain ⟨g5, g3⟩ := gd_some g3
      obtain ⟨x6, hx6, g3⟩ := bd_some g3
      refine draw_k tOk (by kernel_rfl) (fun j => match j with | 5 => some (.pure 0 (.d (.bool x6)) []) | _ => none) 6 [] [[], [], [true, true], [true, true, true], [], [true, true, true, true, true]] [] (by decide) (by kernel_rfl) (by kernel_rfl) ?_
      conv => whnf
      refine And.intro g5 ?_
      clear g5
      conv => whnf
      refine And.intro (callD_any (spec_l4Fits_c hx6) (by kernel_rfl)) ?_
      conv => whnf
      refine And.intro (by kernel_rfl) ?_
      conv => whnf
      refine And.intro (fun e => ?_) (fun e => ?_)
      · replace g3 := ite_t g3 e; clear e
        conv => whnf
        obtain ⟨g7, g3⟩ := gd_some g3
        refine draw_k tOk (by kernel_rfl) (fun _ => none) 8 [] [[], [], [], [false, true, true], [false, true, true, true], [false, true, true, true, true], [true], [true, true, true, true, true, true, true]] [] (by decide) (by kernel_rfl) (by kernel_rfl) ?_
        conv => whnf
        refine And.intro g7 ?_
        clear g7
        conv => whnf
        refine And.intro (by kernel_rfl) ?_
        conv => whnf
        obtain rfl := Option.some.inj g3
        obtain rfl := hy2 _ rfl
        obtain rfl := Option.some.inj h
        exact ⟨_, LE.refl _, And.intro rfl trivial⟩
      · replace g3 := ite_f g3 e; clear e
        conv => whnf
        obtain rfl := Option.some.inj g3
        refine ⟨_, rfl, le_mk ?_ ?_ ?_⟩ <;> (repeat' first | ((conv => whnf); first | exact trivial | refine And.intro ?_ ?_ | exact BLe.refl _ | exact VLe.refl _) | exact trivial | exact rfl | refine And.intro ?_ ?_ | exact BLe.refl _ | exact VLe.refl _ | exact VLe.any _ | exact VLe.nil_osl rfl | exact VLe.nil_sl rfl | exact VLe.built rfl rfl | (refine VLe.osl rfl ?_; (first | rfl | (simp; done) | assumption | (simp [dsub_eq] <;> omega) | omega)) | exact VLe.rows (by first | rfl | (simp; done) | assumption | (simp [dsub_eq] <;> omega) | omega) (fun _ _ => rfl) | exact VLe.rows (by simp [dsub_eq] <;> omega) rows_take | exact VLe.rows (by simp [dsub_eq] <;> omega) rows_dt | exact VLe.rows (by simp [dsub_eq] <;> omega) rows_vt | exact VLe.rows (by simp) (fun i _ => by simp [viewRow_eq, Nat.add_comm]) | refine VLe.aggL ?_ | (refine BLe.rows rfl ?_ fun _ _ => rfl; (first | rfl | (simp; done) | assumption | (simp [dsub_eq] <;> omega) | omega)) | (refine BLe.rows rfl rfl ?_; first | exact rows_take) | refine BLe.box ?_)
    · replace g3 := ite_f g3 e; clear e
      conv => whnf
      obtain rfl := Option.some.inj g3
      obtain rfl := hy2 _ rfl
      obtain rfl := Option.some.inj h
      exact ⟨_, LE.refl _, And.intro rfl trivial⟩

noncomputable def spec_l4So_m (a0 : (List AclRule)) (a1 : (List AclRule)) (a2 : Int) (a3 : AclPacket) : Option (Bool) :=
 bd (spec_l4Says_m a0 a3) fun x1 =>
 bd (spec_l4Says_m a1 a3) fun x2 =>
(if (decide (a2 ≥ 0)) = true then
 some (x1.1 == a2)
else
 some (!(x1.2 == x2.2)))

theorem spec_l4So_c {a0 : (List AclRule)} {a1 : (List AclRule)} {a2 : Int} {a3 : AclPacket} {r : Bool} (h : spec_l4So_m a0 a1 a2 a3 = some r) : PureC Try.prog 63 [.d (slD AclRule.enc a0), .d (slD AclRule.enc a1), .d (.int .i64 a2), .agg [.d (.int .i64 a3.From), .d (.int .i64 a3.To), .d (.int .i64 a3.Kind)]] (.d (.bool r)) [] := by
  refine pureC_m tOk (fn := Try.f63) (c := codeOf Try.f63) rfl rfl (by kernel_rfl) rfl rfl (by simp) (by simp) (ids_of rfl) ?_
  unfold spec_l4So_m at h
  conv => whnf
  obtain ⟨x1, hx1, h⟩ := bd_some h
  refine callC 0 (spec_l4Says_c hx1) (by kernel_rfl) (by kernel_rfl) ?_
  clear hx1
  conv => whnf
  obtain ⟨x2, hx2, h⟩ := bd_some h
  refine callC 0 (spec_l4Says_c hx2) (by kernel_rfl) (by kernel_rfl) ?_
  clear hx2
  conv => whnf
  refine seq_in tOk ?_
  conv => whnf
  refine And.intro (fun e => ?_) (fun e => ?_)
  · replace h := ite_t h e; clear e
    conv => whnf
    obtain rfl := Option.some.inj h
    exact ⟨_, LE.refl _, And.intro rfl trivial⟩
  · replace h := ite_f h e; clear e
    conv => whnf
    obtain rfl := Option.some.inj h
    exact ⟨_, LE.refl _, And.intro rfl trivial⟩

noncomputable def spec_l4Least_m (a0 : (List AclRule)) (a1 : (List AclRule)) (a2 : Int) : Option (AclPacket × Bool) :=
 gd (((0) + (a0.length)) * (48 + 1) ≤ 70368744177664) <|
 gd (((a0.length) + (a1.length)) * (48 + 1) ≤ 70368744177664) <|
 bd (spec_l4Froms_m (a0 ++ a1)) fun x1 =>
 bd (spec_l4Firsts_m x1) fun x2 =>
 bd (spec_l4Tos_m (a0 ++ a1)) fun x3 =>
 bd (spec_l4Firsts_m x3) fun x4 =>
 bd (lp (σ := Int) (β := ((Int × Int × Int) ⊕ Unit)) (fun s5 =>
(if (decide (s5 < ((x2.length : Nat) : Int))) = true then
 bd (lp (σ := Int) (β := ((Int × Int) ⊕ Unit)) (fun s9 =>
(if (decide (s9 < ((x4.length : Nat) : Int))) = true then
 bd (lp (σ := Int) (β := (Int ⊕ Unit)) (fun s13 =>
(if (decide (s13 ≤ 7)) = true then
 gd ((0 : Int) ≤ s5 ∧ s5 < ((x2.length : Nat) : Int)) <|
 gd ((0 : Int) ≤ s9 ∧ s9 < ((x4.length : Nat) : Int)) <|
 bd (spec_l4So_m a0 a1 a2 (⟨(x2.getD s5.toNat default), (x4.getD s9.toNat default), s13⟩ : AclPacket)) fun x19 =>
(if x19 = true then
 some (.inr (.inl s13))
else
 some (.inl (IntKind.i64.wrap (s13 + 1))))
else
 some (.inr (.inr ())))) 1) fun x16 =>
(match x16 with
| .inl d20 =>
 some (.inr (.inl ((x4.getD s9.toNat default), d20)))
| .inr d21 =>
 some (.inl (IntKind.i64.wrap (s9 + 1))))
else
 some (.inr (.inr ())))) 0) fun x12 =>
(match x12 with
| .inl d22 =>
 some (.inr (.inl ((x2.getD s5.toNat default), d22.1, d22.2)))
| .inr d23 =>
 some (.inl (IntKind.i64.wrap (s5 + 1))))
else
 some (.inr (.inr ())))) 0) fun x8 =>
(match x8 with
| .inl d24 =>
 some ((⟨d24.1, d24.2.1, d24.2.2⟩ : AclPacket), true)
| .inr d25 =>
 some ((⟨0, 0, 0⟩ : AclPacket), false))

theorem spec_l4Least_c {a0 : (List AclRule)} {a1 : (List AclRule)} {a2 : Int} {r : AclPacket × Bool} (h : spec_l4Least_m a0 a1 a2 = some r) : PureC Try.prog 42 [.d (slD AclRule.enc a0), .d (slD AclRule.enc a1), .d (.int .i64 a2)] (.tup [.agg [.d (.int .i64 r.1.From), .d (.int .i64 r.1.To), .d (.int .i64 r.1.Kind)], .d (.bool r.2)]) [] := by
  refine pureC_m tOk (fn := Try.f42) (c := codeOf Try.f42) rfl rfl (by kernel_rfl) rfl rfl (by simp) (by simp) (ids_of rfl) ?_
  unfold spec_l4Least_m at h
  conv => whnf
  obtain ⟨g27, h⟩ := gd_some h
  refine And.intro g27 ?_
  clear g27
  refine ⟨a0.length, rows AclRule.enc a0, (by first | rfl | (simp; done) | assumption | (simp [dsub_eq] <;> omega) | omega), (by first | exact app_rows (m := a0.length) (by first | rfl | (simp; done) | assumption | (simp [dsub_eq] <;> omega) | omega) (by first | rfl | (simp; done) | assumption | (simp [dsub_eq] <;> omega) | omega) (fun _ _ => rfl) (fun _ _ => rfl) | exact app_rows0 (m := a0.length) (by first | rfl | (simp; done) | assumption | (simp [dsub_eq] <;> omega) | omega) (fun _ _ => rfl) | exact app_rows (m := a0.length) (by first | rfl | (simp; done) | assumption | (simp [dsub_eq] <;> omega) | omega) (by first | rfl | (simp; done) | assumption | (simp [dsub_eq] <;> omega) | omega) (by first | exact fun _ _ => rfl | exact rows_take | (intro i hi; simp only [viewRow_eq, addOff_eq, Int.toNat_zero, Nat.zero_add, Nat.add_zero]; exact rows_take i hi) | exact rows_vt | exact rows_dt | (intro i hi; simp only [viewRow_eq, Nat.zero_add]) | (intro i hi; simp [viewRow_eq])) (by first | exact fun _ _ => rfl | exact rows_take | (intro i hi; simp only [viewRow_eq, addOff_eq, Int.toNat_zero, Nat.zero_add, Nat.add_zero]; exact rows_take i hi) | exact rows_vt | exact rows_dt | (intro i hi; simp only [viewRow_eq, Nat.zero_add]) | (intro i hi; simp [viewRow_eq])) | exact app_rows0 (m := a0.length) (by first | rfl | (simp; done) | assumption | (simp [dsub_eq] <;> omega) | omega) (by first | exact fun _ _ => rfl | exact rows_take | (intro i hi; simp only [viewRow_eq, addOff_eq, Int.toNat_zero, Nat.zero_add, Nat.add_zero]; exact rows_take i hi) | exact rows_vt | exact rows_dt | (intro i hi; simp only [viewRow_eq, Nat.zero_add]) | (intro i hi; simp [viewRow_eq]))), ?_⟩
  conv => whnf
  obtain ⟨g26, h⟩ := gd_some h
  refine And.intro g26 ?_
  clear g26
  refine ⟨(a0 ++ a1).length, rows AclRule.enc (a0 ++ a1), (by first | rfl | (simp; done) | assumption | (simp [dsub_eq] <;> omega) | omega), (by first | exact app_rows (m := a1.length) (by first | rfl | (simp; done) | assumption | (simp [dsub_eq] <;> omega) | omega) (by first | rfl | (simp; done) | assumption | (simp [dsub_eq] <;> omega) | omega) (fun _ _ => rfl) (fun _ _ => rfl) | exact app_rows0 (m := a1.length) (by first | rfl | (simp; done) | assumption | (simp [dsub_eq] <;> omega) | omega) (fun _ _ => rfl) | exact app_rows (m := a1.length) (by first | rfl | (simp; done) | assumption | (simp [dsub_eq] <;> omega) | omega) (by first | rfl | (simp; done) | assumption | (simp [dsub_eq] <;> omega) | omega) (by first | exact fun _ _ => rfl | exact rows_take | (intro i hi; simp only [viewRow_eq, addOff_eq, Int.toNat_zero, Nat.zero_add, Nat.add_zero]; exact rows_take i hi) | exact rows_vt | exact rows_dt | (intro i hi; simp only [viewRow_eq, Nat.zero_add]) | (intro i hi; simp [viewRow_eq])) (by first | exact fun _ _ => rfl | exact rows_take | (intro i hi; simp only [viewRow_eq, addOff_eq, Int.toNat_zero, Nat.zero_add, Nat.add_zero]; exact rows_take i hi) | exact rows_vt | exact rows_dt | (intro i hi; simp only [viewRow_eq, Nat.zero_add]) | (intro i hi; simp [viewRow_eq])) | exact app_rows0 (m := a1.length) (by first | rfl | (simp; done) | assumption | (simp [dsub_eq] <;> omega) | omega) (by first | exact fun _ _ => rfl | exact rows_take | (intro i hi; simp only [viewRow_eq, addOff_eq, Int.toNat_zero, Nat.zero_add, Nat.add_zero]; exact rows_take i hi) | exact rows_vt | exact rows_dt | (intro i hi; simp only [viewRow_eq, Nat.zero_add]) | (intro i hi; simp [viewRow_eq]))), ?_⟩
  conv => whnf
  obtain ⟨x1, hx1, h⟩ := bd_some h
  refine callC 1000 (spec_l4Froms_c hx1) (by kernel_rfl) (by kernel_rfl) ?_
  clear hx1
  conv => whnf
  obtain ⟨x2, hx2, h⟩ := bd_some h
  refine callFz [6001] ?_
  conv => whnf
  refine callE [] 0 (spec_l4Firsts_c hx2) (by (repeat' first | ((conv => whnf); first | exact trivial | refine And.intro ?_ ?_ | exact BLe.refl _ | exact VLe.refl _) | exact trivial | refine And.intro ?_ ?_ | exact VLe.refl _ | exact VLe.any _ | exact VLe.nil_osl rfl | exact VLe.nil_sl rfl | exact VLe.built rfl rfl | (refine VLe.osl rfl ?_; (first | rfl | (simp; done) | assumption | (simp [dsub_eq] <;> omega) | omega)) | exact VLe.rows (by first | rfl | (simp; done) | assumption | (simp [dsub_eq] <;> omega) | omega) (fun _ _ => rfl) | exact VLe.rows (by simp [dsub_eq] <;> omega) rows_take | exact VLe.rows (by simp [dsub_eq] <;> omega) rows_dt | exact VLe.rows (by simp [dsub_eq] <;> omega) rows_vt | exact VLe.rows (by simp) (fun i _ => by simp [viewRow_eq, Nat.add_comm]) | refine VLe.aggL ?_)) (by (repeat' first | ((conv => whnf); first | exact trivial | refine And.intro ?_ ?_ | exact BLe.refl _ | exact VLe.refl _) | exact trivial | exact rfl | refine And.intro ?_ ?_ | exact BLe.refl _ | exact VLe.refl _ | exact VLe.any _ | exact VLe.nil_osl rfl | exact VLe.nil_sl rfl | exact VLe.built rfl rfl | (refine VLe.osl rfl ?_; (first | rfl | (simp; done) | assumption | (simp [dsub_eq] <;> omega) | omega)) | exact VLe.rows (by first | rfl | (simp; done) | assumption | (simp [dsub_eq] <;> omega) | omega) (fun _ _ => rfl) | exact VLe.rows (by simp [dsub_eq] <;> omega) rows_take | exact VLe.rows (by simp [dsub_eq] <;> omega) rows_dt | exact VLe.rows (by simp [dsub_eq] <;> omega) rows_vt | exact VLe.rows (by simp) (fun i _ => by simp [viewRow_eq, Nat.add_comm]) | refine VLe.aggL ?_ | (refine BLe.rows rfl ?_ fun _ _ => rfl; (first | rfl | (simp; done) | assumption | (simp [dsub_eq] <;> omega) | omega)) | refine BLe.box ?_ | (simp; done))) rfl rfl ?_
  conv => whnf
  obtain ⟨x3, hx3, h⟩ := bd_some h
  refine callC 1000 (spec_l4Tos_c hx3) (by kernel_rfl) (by kernel_rfl) ?_
  clear hx3
  conv => whnf
  obtain ⟨x4, hx4, h⟩ := bd_some h
  refine callFz [6001] ?_
  conv => whnf
  refine callE [] 0 (spec_l4Firsts_c hx4) (by (repeat' first | ((conv => whnf); first | exact trivial | refine And.intro ?_ ?_ | exact BLe.refl _ | exact VLe.refl _) | exact trivial | refine And.intro ?_ ?_ | exact VLe.refl _ | exact VLe.any _ | exact VLe.nil_osl rfl | exact VLe.nil_sl rfl | exact VLe.built rfl rfl | (refine VLe.osl rfl ?_; (first | rfl | (simp; done) | assumption | (simp [dsub_eq] <;> omega) | omega)) | exact VLe.rows (by first | rfl | (simp; done) | assumption | (simp [dsub_eq] <;> omega) | omega) (fun _ _ => rfl) | exact VLe.rows (by simp [dsub_eq] <;> omega) rows_take | exact VLe.rows (by simp [dsub_eq] <;> omega) rows_dt | exact VLe.rows (by simp [dsub_eq] <;> omega) rows_vt | exact VLe.rows (by simp) (fun i _ => by simp [viewRow_eq, Nat.add_comm]) | refine VLe.aggL ?_)) (by (repeat' first | ((conv => whnf); first | exact trivial | refine And.intro ?_ ?_ | exact BLe.refl _ | exact VLe.refl _) | exact trivial | exact rfl | refine And.intro ?_ ?_ | exact BLe.refl _ | exact VLe.refl _ | exact VLe.any _ | exact VLe.nil_osl rfl | exact VLe.nil_sl rfl | exact VLe.built rfl rfl | (refine VLe.osl rfl ?_; (first | rfl | (simp; done) | assumption | (simp [dsub_eq] <;> omega) | omega)) | exact VLe.rows (by first | rfl | (simp; done) | assumption | (simp [dsub_eq] <;> omega) | omega) (fun _ _ => rfl) | exact VLe.rows (by simp [dsub_eq] <;> omega) rows_take | exact VLe.rows (by simp [dsub_eq] <;> omega) rows_dt | exact VLe.rows (by simp [dsub_eq] <;> omega) rows_vt | exact VLe.rows (by simp) (fun i _ => by simp [viewRow_eq, Nat.add_comm]) | refine VLe.aggL ?_ | (refine BLe.rows rfl ?_ fun _ _ => rfl; (first | rfl | (simp; done) | assumption | (simp [dsub_eq] <;> omega) | omega)) | refine BLe.box ?_ | (simp; done))) rfl rfl ?_
  conv => whnf
  refine seq_in tOk ?_
  conv => whnf
  obtain ⟨x8, hx8, h⟩ := bd_some h
  refine loop_m tOk hx8 (fun s5 => ⟨0, 59, [(0, .d (slD AclRule.enc a0)), (1, .d (slD AclRule.enc a1)), (2, .d (.int .i64 a2)), (6, .ref 6 0 0), (9, .d (slD encInt x2)), (10, .d (slD encInt x4)), (11, .d (.int .i64 s5))], [], [(6, .box 30 [.d (.int .i64 0), .d (.int .i64 0), .d (.int .i64 0)])], []⟩) ?_ ?_
  · refine le_mk ?_ ?_ ?_ <;> (repeat' first | ((conv => whnf); first | exact trivial | refine And.intro ?_ ?_ | exact BLe.refl _ | exact VLe.refl _) | exact trivial | exact rfl | refine And.intro ?_ ?_ | exact BLe.refl _ | exact VLe.refl _ | exact VLe.any _ | exact VLe.nil_osl rfl | exact VLe.nil_sl rfl | exact VLe.built rfl rfl | (refine VLe.osl rfl ?_; (first | rfl | (simp; done) | assumption | (simp [dsub_eq] <;> omega) | omega)) | exact VLe.rows (by first | rfl | (simp; done) | assumption | (simp [dsub_eq] <;> omega) | omega) (fun _ _ => rfl) | exact VLe.rows (by simp [dsub_eq] <;> omega) rows_take | exact VLe.rows (by simp [dsub_eq] <;> omega) rows_dt | exact VLe.rows (by simp [dsub_eq] <;> omega) rows_vt | exact VLe.rows (by simp) (fun i _ => by simp [viewRow_eq, Nat.add_comm]) | refine VLe.aggL ?_ | (refine BLe.rows rfl ?_ fun _ _ => rfl; (first | rfl | (simp; done) | assumption | (simp [dsub_eq] <;> omega) | omega)) | (refine BLe.rows rfl rfl ?_; first | exact rows_take) | refine BLe.box ?_)
  · clear hx8
    intro s5 y6 g7 hy6
    conv => whnf
    refine seq_in tOk ?_
    conv => whnf
    refine And.intro (fun e => ?_) (fun e => ?_)
    · replace g7 := ite_t g7 e; clear e
      conv => whnf
      refine seq_in tOk ?_
      conv => whnf
      obtain ⟨x12, hx12, g7⟩ := bd_some g7
      refine loop_m tOk hx12 (fun s9 => ⟨0, 59, [(0, .d (slD AclRule.enc a0)), (1, .d (slD AclRule.enc a1)), (2, .d (.int .i64 a2)), (6, .ref 6 0 0), (9, .d (slD encInt x2)), (10, .d (slD encInt x4)), (11, .d (.int .i64 s5)), (12, .d (.int .i64 s9))], [], [(6, .box 30 [.d (.int .i64 0), .d (.int .i64 0), .d (.int .i64 0)])], []⟩) ?_ ?_
      · refine le_mk ?_ ?_ ?_ <;> (repeat' first | ((conv => whnf); first | exact trivial | refine And.intro ?_ ?_ | exact BLe.refl _ | exact VLe.refl _) | exact trivial | exact rfl | refine And.intro ?_ ?_ | exact BLe.refl _ | exact VLe.refl _ | exact VLe.any _ | exact VLe.nil_osl rfl | exact VLe.nil_sl rfl | exact VLe.built rfl rfl | (refine VLe.osl rfl ?_; (first | rfl | (simp; done) | assumption | (simp [dsub_eq] <;> omega) | omega)) | exact VLe.rows (by first | rfl | (simp; done) | assumption | (simp [dsub_eq] <;> omega) | omega) (fun _ _ => rfl) | exact VLe.rows (by simp [dsub_eq] <;> omega) rows_take | exact VLe.rows (by simp [dsub_eq] <;> omega) rows_dt | exact VLe.rows (by simp [dsub_eq] <;> omega) rows_vt | exact VLe.rows (by simp) (fun i _ => by simp [viewRow_eq, Nat.add_comm]) | refine VLe.aggL ?_ | (refine BLe.rows rfl ?_ fun _ _ => rfl; (first | rfl | (simp; done) | assumption | (simp [dsub_eq] <;> omega) | omega)) | (refine BLe.rows rfl rfl ?_; first | exact rows_take) | refine BLe.box ?_)
      · clear hx12
        intro s9 y10 g11 hy10
        conv => whnf
        refine seq_in tOk ?_
        conv => whnf
        refine And.intro (fun e => ?_) (fun e => ?_)
        · replace g11 := ite_t g11 e; clear e
          conv => whnf
          refine seq_in tOk ?_
          conv => whnf
          obtain ⟨x16, hx16, g11⟩ := bd_some g11
          refine loop_m tOk hx16 (fun s13 => ⟨0, 59, [(0, .d (slD AclRule.enc a0)), (1, .d (slD AclRule.enc a1)), (2, .d (.int .i64 a2)), (6, .ref 6 0 0), (9, .d (slD encInt x2)), (10, .d (slD encInt x4)), (11, .d (.int .i64 s5)), (12, .d (.int .i64 s9)), (13, .d (.int .i64 s13))], [], [(6, .box 30 [.d (.int .i64 0), .d (.int .i64 0), .d (.int .i64 0)])], []⟩) ?_ ?_
          · refine le_mk ?_ ?_ ?_ <;> (repeat' first | ((conv => whnf); first | exact trivial | refine And.intro ?_ ?_ | exact BLe.refl _ | exact VLe.refl _) | exact trivial | exact rfl | refine And.intro ?_ ?_ | exact BLe.refl _ | exact VLe.refl _ | exact VLe.any _ | exact VLe.nil_osl rfl | exact VLe.nil_sl rfl | exact VLe.built rfl rfl | (refine VLe.osl rfl ?_; (first | rfl | (simp; done) | assumption | (simp [dsub_eq] <;> omega) | omega)) | exact VLe.rows (by first | rfl | (simp; done) | assumption | (simp [dsub_eq] <;> omega) | omega) (fun _ _ => rfl) | exact VLe.rows (by simp [dsub_eq] <;> omega) rows_take | exact VLe.rows (by simp [dsub_eq] <;> omega) rows_dt | exact VLe.rows (by simp [dsub_eq] <;> omega) rows_vt | exact VLe.rows (by simp) (fun i _ => by simp [viewRow_eq, Nat.add_comm]) | refine VLe.aggL ?_ | (refine BLe.rows rfl ?_ fun _ _ => rfl; (first | rfl | (simp; done) | assumption | (simp [dsub_eq] <;> omega) | omega)) | (refine BLe.rows rfl rfl ?_; first | exact rows_take) | refine BLe.box ?_)
          · clear hx16
            intro s13 y14 g15 hy14
            conv => whnf
            refine seq_in tOk ?_
            conv => whnf
            refine And.intro (fun e => ?_) (fun e => ?_)
            · replace g15 := ite_t g15 e; clear e
              conv => whnf
              refine seq_in tOk ?_
              conv => whnf
              obtain ⟨g17, g15⟩ := gd_some g15
              obtain ⟨g18, g15⟩ := gd_some g15
              refine draw_k tOk (by kernel_rfl) (fun _ => none) 11 [] [[], [], [true, true], [true, true, true], [], [], [false, false, false, false, true, true], [false, false, false, false, true, true, true], [], [true, true, true, true, true, true, true, true, true], []] [[true, true, true, true, true, true, true, true, true, true, true]] (by decide) (by kernel_rfl) (by kernel_rfl) ?_
              conv => whnf
              refine And.intro g17 ?_
              clear g17
              conv => whnf
              refine And.intro g18 ?_
              clear g18
              conv => whnf
              refine And.intro (by kernel_rfl) ?_
              conv => whnf
              obtain ⟨x19, hx19, g15⟩ := bd_some g15
              refine callC 0 (spec_l4So_c hx19) (by kernel_rfl) (by kernel_rfl) ?_
              clear hx19
              conv => whnf
              refine And.intro (fun e => ?_) (fun e => ?_)
              · replace g15 := ite_t g15 e; clear e
                conv => whnf
                obtain rfl := Option.some.inj g15
                obtain rfl := hy14 _ rfl
                obtain rfl := Option.some.inj g11
                obtain rfl := hy10 _ rfl
                obtain rfl := Option.some.inj g7
                obtain rfl := hy6 _ rfl
                obtain rfl := Option.some.inj h
                exact ⟨_, LE.refl _, And.intro rfl trivial⟩
              · replace g15 := ite_f g15 e; clear e
                conv => whnf
                obtain rfl := Option.some.inj g15
                refine ⟨_, rfl, le_mk ?_ ?_ ?_⟩ <;> (repeat' first | ((conv => whnf); first | exact trivial | refine And.intro ?_ ?_ | exact BLe.refl _ | exact VLe.refl _) | exact trivial | exact rfl | refine And.intro ?_ ?_ | exact BLe.refl _ | exact VLe.refl _ | exact VLe.any _ | exact VLe.nil_osl rfl | exact VLe.nil_sl rfl | exact VLe.built rfl rfl | (refine VLe.osl rfl ?_; (first | rfl | (simp; done) | assumption | (simp [dsub_eq] <;> omega) | omega)) | exact VLe.rows (by first | rfl | (simp; done) | assumption | (simp [dsub_eq] <;> omega) | omega) (fun _ _ => rfl) | exact VLe.rows (by simp [dsub_eq] <;> omega) rows_take | exact VLe.rows (by simp [dsub_eq] <;> omega) rows_dt | exact VLe.rows (by simp [dsub_eq] <;> omega) rows_vt | exact VLe.rows (by simp) (fun i _ => by simp [viewRow_eq, Nat.add_comm]) | refine VLe.aggL ?_ | (refine BLe.rows rfl ?_ fun _ _ => rfl; (first | rfl | (simp; done) | assumption | (simp [dsub_eq] <;> omega) | omega)) | (refine BLe.rows rfl rfl ?_; first | exact rows_take) | refine BLe.box ?_)
            · replace g15 := ite_f g15 e; clear e
              conv => whnf
              obtain rfl := Option.some.inj g15
              obtain rfl := hy14 _ rfl
              obtain rfl := Option.some.inj g11
              refine ⟨_, rfl, le_mk ?_ ?_ ?_⟩ <;> (repeat' first | ((conv => whnf); first | exact trivial | refine And.intro ?_ ?_ | exact BLe.refl _ | exact VLe.refl _) | exact trivial | exact rfl | refine And.intro ?_ ?_ | exact BLe.refl _ | exact VLe.refl _ | exact VLe.any _ | exact VLe.nil_osl rfl | exact VLe.nil_sl rfl | exact VLe.built rfl rfl | (refine VLe.osl rfl ?_; (first | rfl | (simp; done) | assumption | (simp [dsub_eq] <;> omega) | omega)) | exact VLe.rows (by first | rfl | (simp; done) | assumption | (simp [dsub_eq] <;> omega) | omega) (fun _ _ => rfl) | exact VLe.rows (by simp [dsub_eq] <;> omega) rows_take | exact VLe.rows (by simp [dsub_eq] <;> omega) rows_dt | exact VLe.rows (by simp [dsub_eq] <;> omega) rows_vt | exact VLe.rows (by simp) (fun i _ => by simp [viewRow_eq, Nat.add_comm]) | refine VLe.aggL ?_ | (refine BLe.rows rfl ?_ fun _ _ => rfl; (first | rfl | (simp; done) | assumption | (simp [dsub_eq] <;> omega) | omega)) | (refine BLe.rows rfl rfl ?_; first | exact rows_take) | refine BLe.box ?_)
        · replace g11 := ite_f g11 e; clear e
          conv => whnf
          obtain rfl := Option.some.inj g11
          obtain rfl := hy10 _ rfl
          obtain rfl := Option.some.inj g7
          refine ⟨_, rfl, le_mk ?_ ?_ ?_⟩ <;> (repeat' first | ((conv => whnf); first | exact trivial | refine And.intro ?_ ?_ | exact BLe.refl _ | exact VLe.refl _) | exact trivial | exact rfl | refine And.intro ?_ ?_ | exact BLe.refl _ | exact VLe.refl _ | exact VLe.any _ | exact VLe.nil_osl rfl | exact VLe.nil_sl rfl | exact VLe.built rfl rfl | (refine VLe.osl rfl ?_; (first | rfl | (simp; done) | assumption | (simp [dsub_eq] <;> omega) | omega)) | exact VLe.rows (by first | rfl | (simp; done) | assumption | (simp [dsub_eq] <;> omega) | omega) (fun _ _ => rfl) | exact VLe.rows (by simp [dsub_eq] <;> omega) rows_take | exact VLe.rows (by simp [dsub_eq] <;> omega) rows_dt | exact VLe.rows (by simp [dsub_eq] <;> omega) rows_vt | exact VLe.rows (by simp) (fun i _ => by simp [viewRow_eq, Nat.add_comm]) | refine VLe.aggL ?_ | (refine BLe.rows rfl ?_ fun _ _ => rfl; (first | rfl | (simp; done) | assumption | (simp [dsub_eq] <;> omega) | omega)) | (refine BLe.rows rfl rfl ?_; first | exact rows_take) | refine BLe.box ?_)
    · replace g7 := ite_f g7 e; clear e
      conv => whnf
      obtain rfl := Option.some.inj g7
      obtain rfl := hy6 _ rfl
      obtain rfl := Option.some.inj h
      exact ⟨_, LE.refl _, And.intro rfl trivial⟩

noncomputable def spec_AclWitness_m (a0 : (List AclRule)) (a1 : Int) : Option (AclPacket × Bool) :=
 bd (spec_AclOk_m a0) fun x1 =>
 bd (gcall ((!x1) = false) (spec_l1In_m a1 0 (IntKind.i64.wrap (((a0.length : Nat) : Int) - 1)))) fun x2 =>
(if ((!x1) || (!x2)) = true then
 some ((⟨0, 0, 0⟩ : AclPacket), false)
else
 bd (spec_l4Least_m a0 [] a1) fun x3 =>
 some (x3.1, x3.2))

theorem spec_AclWitness_c {a0 : (List AclRule)} {a1 : Int} {r : AclPacket × Bool} (h : spec_AclWitness_m a0 a1 = some r) : PureC Try.prog 22 [.d (slD AclRule.enc a0), .d (.int .i64 a1)] (.tup [.agg [.d (.int .i64 r.1.From), .d (.int .i64 r.1.To), .d (.int .i64 r.1.Kind)], .d (.bool r.2)]) [] := by
  refine pureC_m tOk (fn := Try.f22) (c := codeOf Try.f22) rfl rfl (by kernel_rfl) rfl rfl (by simp) (by simp) (ids_of rfl) ?_
  unfold spec_AclWitness_m at h
  conv => whnf
  refine seq_in tOk ?_
  conv => whnf
  obtain ⟨x1, hx1, h⟩ := bd_some h
  refine callC 0 (spec_AclOk_c hx1) (by kernel_rfl) (by kernel_rfl) ?_
  clear hx1
  conv => whnf
  obtain ⟨x2, hx2, h⟩ := bd_some h
  refine callG_m rfl rfl rfl rfl rfl rfl (by intro c0; exact spec_l1In_c (gcall_some hx2 c0)) ?_
  conv => whnf
  refine And.intro (fun e => ?_) (fun e => ?_)
  · replace h := ite_t h e; clear e
    conv => whnf
    obtain rfl := Option.some.inj h
    exact ⟨_, LE.refl _, And.intro rfl trivial⟩
  · replace h := ite_f h e; clear e
    conv => whnf
    obtain ⟨x3, hx3, h⟩ := bd_some h
    refine callW 0 (spec_l4Least_c hx3) rfl (by (repeat' first | ((conv => whnf); first | exact trivial | refine And.intro ?_ ?_ | exact BLe.refl _ | exact VLe.refl _) | exact trivial | refine And.intro ?_ ?_ | exact VLe.refl _ | exact VLe.any _ | exact VLe.nil_osl rfl | exact VLe.nil_sl rfl | exact VLe.built rfl rfl | (refine VLe.osl rfl ?_; (first | rfl | (simp; done) | assumption | (simp [dsub_eq] <;> omega) | omega)) | exact VLe.rows (by first | rfl | (simp; done) | assumption | (simp [dsub_eq] <;> omega) | omega) (fun _ _ => rfl) | exact VLe.rows (by simp [dsub_eq] <;> omega) rows_take | exact VLe.rows (by simp [dsub_eq] <;> omega) rows_dt | exact VLe.rows (by simp [dsub_eq] <;> omega) rows_vt | exact VLe.rows (by simp) (fun i _ => by simp [viewRow_eq, Nat.add_comm]) | refine VLe.aggL ?_)) rfl ?_
    conv => whnf
    obtain rfl := Option.some.inj h
    exact ⟨_, LE.refl _, And.intro rfl trivial⟩

noncomputable def impl_passes_m (a0 : (List AclRule)) (a1 : AclPacket) : Option (Bool) :=
 bd (impl_decides_m a0 a1) fun x1 =>
 gd ((decide (x1 ≥ 0)) = true → ((0 : Int) ≤ x1 ∧ x1 < ((a0.length : Nat) : Int))) <|
 some ((decide (x1 ≥ 0)) && (a0.getD x1.toNat default).Permit)

theorem impl_passes_c {a0 : (List AclRule)} {a1 : AclPacket} {r : Bool} (h : impl_passes_m a0 a1 = some r) : PureC Try.prog 35 [.d (slD AclRule.enc a0), .agg [.d (.int .i64 a1.From), .d (.int .i64 a1.To), .d (.int .i64 a1.Kind)]] (.d (.bool r)) [] := by
  refine pureC_m tOk (fn := Try.f35) (c := codeOf Try.f35) rfl rfl (by kernel_rfl) rfl rfl (by simp) (by simp) (ids_of rfl) ?_
  unfold impl_passes_m at h
  conv => whnf
  obtain ⟨x1, hx1, h⟩ := bd_some h
  refine callC 0 (impl_decides_c hx1) (by kernel_rfl) (by kernel_rfl) ?_
  clear hx1
  conv => whnf
  obtain ⟨g2, h⟩ := gd_some h
  refine And.intro g2 ?_
  clear g2
  conv => whnf
  obtain rfl := Option.some.inj h
  exact ⟨_, LE.refl _, And.intro rfl trivial⟩

noncomputable def impl_AclSays_m (a0 : (List AclRule)) (a1 : AclPacket) : Option (Int × Bool) :=
 bd (impl_AclOk_m a0) fun x1 =>
 bd (gcall ((!x1) = false) (impl_within_m a1.From 0 65535)) fun x2 =>
 bd (gcall (((!x1) || (!x2)) = false) (impl_within_m a1.To 0 65535)) fun x3 =>
 bd (gcall ((((!x1) || (!x2)) || (!x3)) = false) (impl_within_m a1.Kind 1 7)) fun x4 =>
(if ((((!x1) || (!x2)) || (!x3)) || (!x4)) = true then
 some (-1, false)
else
 bd (impl_decides_m a0 a1) fun x5 =>
 bd (impl_passes_m a0 a1) fun x6 =>
 some (x5, x6))

theorem impl_AclSays_c {a0 : (List AclRule)} {a1 : AclPacket} {r : Int × Bool} (h : impl_AclSays_m a0 a1 = some r) : PureC Try.prog 13 [.d (slD AclRule.enc a0), .agg [.d (.int .i64 a1.From), .d (.int .i64 a1.To), .d (.int .i64 a1.Kind)]] (.tup [.d (.int .i64 r.1), .d (.bool r.2)]) [] := by
  refine pureC_m tOk (fn := Try.f13) (c := codeOf Try.f13) rfl rfl (by kernel_rfl) rfl rfl (by simp) (by simp) (ids_of rfl) ?_
  unfold impl_AclSays_m at h
  conv => whnf
  refine seq_in tOk ?_
  conv => whnf
  obtain ⟨x1, hx1, h⟩ := bd_some h
  refine callC 0 (impl_AclOk_c hx1) (by kernel_rfl) (by kernel_rfl) ?_
  clear hx1
  conv => whnf
  obtain ⟨x2, hx2, h⟩ := bd_some h
  refine callG_m rfl rfl rfl rfl rfl rfl (by intro c0; exact impl_within_c (gcall_some hx2 c0)) ?_
  conv => whnf
  obtain ⟨x3, hx3, h⟩ := bd_some h
  refine callG_m rfl rfl rfl rfl rfl rfl (by intro c0; exact impl_within_c (gcall_some hx3 c0)) ?_
  conv => whnf
  obtain ⟨x4, hx4, h⟩ := bd_some h
  refine callG_m rfl rfl rfl rfl rfl rfl (by intro c0; exact impl_within_c (gcall_some hx4 c0)) ?_
  conv => whnf
  refine And.intro (fun e => ?_) (fun e => ?_)
  · replace h := ite_t h e; clear e
    conv => whnf
    obtain rfl := Option.some.inj h
    exact ⟨_, LE.refl _, And.intro rfl trivial⟩
  · replace h := ite_f h e; clear e
    conv => whnf
    obtain ⟨x5, hx5, h⟩ := bd_some h
    obtain ⟨x6, hx6, h⟩ := bd_some h
    refine draw_k tOk (by kernel_rfl) (fun j => match j with | 2 => some (.pure 0 (.d (.int .i64 x5)) []) | 5 => some (.pure 0 (.d (.bool x6)) []) | _ => none) 8 [] [[], [], [true, true], [], [], [true, true, true, true, true], [true, true, true, true, true, true], [true, true, true, true, true, true, true]] [] (by decide) (by kernel_rfl) (by kernel_rfl) ?_
    conv => whnf
    refine And.intro (callD_any (impl_decides_c hx5) (by kernel_rfl)) ?_
    conv => whnf
    refine And.intro (callD_any (impl_passes_c hx6) (by kernel_rfl)) ?_
    conv => whnf
    refine And.intro (by kernel_rfl) ?_
    conv => whnf
    obtain rfl := Option.some.inj h
    exact ⟨_, LE.refl _, And.intro rfl trivial⟩

noncomputable def spec_l5Addr_m (a0 : l1Rd) (a1 : NetPrefix) : Option (Int × l1Rd) :=
 bd (spec_NetOk_m a1) fun x1 =>
 bd (gcallE ((!x1) = false) (spec_l1Rd_pick_m a0 4) (a0)) fun x2 =>
(if ((!x1) || (x2.1 == 0)) = true then
 bd (spec_l1Rd_pick_m (⟨a0.b, x2.2.p⟩ : l1Rd) 65536) fun x3 =>
 bd (spec_l1Rd_pick_m (⟨a0.b, x3.2.p⟩ : l1Rd) 5) fun x4 =>
 gd ((0 : Int) ≤ x4.1 ∧ x4.1 < ((([x3.1, -1, 65536, 0, 65535] : List Int).length : Nat) : Int)) <|
 some ((([x3.1, -1, 65536, 0, 65535] : List Int).getD x4.1.toNat default), (⟨a0.b, x4.2.p⟩ : l1Rd))
else
 bd (spec_l1Size_m a1.Len) fun x6 =>
 bd (spec_l1Size_m a1.Len) fun x7 =>
 bd (spec_l1Size_m a1.Len) fun x8 =>
 bd (spec_l1Rd_pick_m (⟨a0.b, x2.2.p⟩ : l1Rd) x8) fun x9 =>
 bd (spec_l1Rd_pick_m (⟨a0.b, x9.2.p⟩ : l1Rd) 5) fun x10 =>
 gd ((0 : Int) ≤ x10.1 ∧ x10.1 < ((([0, -1, x6, IntKind.i64.wrap (x7 - 1), x9.1] : List Int).length : Nat) : Int)) <|
 some (IntKind.i64.wrap (a1.Addr + (([0, -1, x6, IntKind.i64.wrap (x7 - 1), x9.1] : List Int).getD x10.1.toNat default)), (⟨a0.b, x10.2.p⟩ : l1Rd)))

theorem spec_l5Addr_c {a0 : l1Rd} {a1 : NetPrefix} {r : Int × l1Rd} (h : spec_l5Addr_m a0 a1 = some r) : EffC Try.prog 58 [.ref 9000 0 0, .agg [.d (.int .i64 a1.Addr), .d (.int .i64 a1.Len)]] [(9000, .box 79 [.d (slD encByte a0.b), .d (.int .i64 a0.p)])] (.d (.int .i64 r.1)) [(9000, .box 79 [.d (slD encByte a0.b), .d (.int .i64 r.2.p)])] := by
  refine effC_m tOk (fn := Try.f58) (c := codeOf Try.f58) rfl rfl (by kernel_rfl) rfl rfl rfl rfl ?_
  unfold spec_l5Addr_m at h
  conv => whnf
  refine seq_in tOk ?_
  conv => whnf
  obtain ⟨x1, hx1, h⟩ := bd_some h
  refine callC 0 (spec_NetOk_c hx1) (by kernel_rfl) (by kernel_rfl) ?_
  clear hx1
  conv => whnf
  obtain ⟨x2, hx2, h⟩ := bd_some h
  refine callG_e [(9000, 9000)] 0 rfl rfl rfl (by intro c0; exact spec_l1Rd_pick_c (gcallE_some hx2 c0)) (by (repeat' first | ((conv => whnf); first | exact trivial | refine And.intro ?_ ?_ | exact BLe.refl _ | exact VLe.refl _) | exact trivial | refine And.intro ?_ ?_ | exact VLe.refl _ | exact VLe.any _ | exact VLe.nil_osl rfl | exact VLe.nil_sl rfl | exact VLe.built rfl rfl | (refine VLe.osl rfl ?_; (first | rfl | (simp; done) | assumption | (simp [dsub_eq] <;> omega) | omega)) | exact VLe.rows (by first | rfl | (simp; done) | assumption | (simp [dsub_eq] <;> omega) | omega) (fun _ _ => rfl) | exact VLe.rows (by simp [dsub_eq] <;> omega) rows_take | exact VLe.rows (by simp [dsub_eq] <;> omega) rows_dt | exact VLe.rows (by simp [dsub_eq] <;> omega) rows_vt | exact VLe.rows (by simp) (fun i _ => by simp [viewRow_eq, Nat.add_comm]) | refine VLe.aggL ?_)) (by (repeat' first | ((conv => whnf); first | exact trivial | refine And.intro ?_ ?_ | exact BLe.refl _ | exact VLe.refl _) | exact trivial | exact rfl | refine And.intro ?_ ?_ | exact BLe.refl _ | exact VLe.refl _ | exact VLe.any _ | exact VLe.nil_osl rfl | exact VLe.nil_sl rfl | exact VLe.built rfl rfl | (refine VLe.osl rfl ?_; (first | rfl | (simp; done) | assumption | (simp [dsub_eq] <;> omega) | omega)) | exact VLe.rows (by first | rfl | (simp; done) | assumption | (simp [dsub_eq] <;> omega) | omega) (fun _ _ => rfl) | exact VLe.rows (by simp [dsub_eq] <;> omega) rows_take | exact VLe.rows (by simp [dsub_eq] <;> omega) rows_dt | exact VLe.rows (by simp [dsub_eq] <;> omega) rows_vt | exact VLe.rows (by simp) (fun i _ => by simp [viewRow_eq, Nat.add_comm]) | refine VLe.aggL ?_ | (refine BLe.rows rfl ?_ fun _ _ => rfl; (first | rfl | (simp; done) | assumption | (simp [dsub_eq] <;> omega) | omega)) | refine BLe.box ?_ | (simp; done))) rfl rfl (by intro c0; have e := gcallE_none hx2 (by rw [c0]; decide); subst e; (repeat' first | ((conv => whnf); first | exact trivial | refine And.intro ?_ ?_ | exact BLe.refl _ | exact VLe.refl _) | exact trivial | exact rfl | refine And.intro ?_ ?_ | exact BLe.refl _ | exact VLe.refl _ | exact VLe.any _ | exact VLe.nil_osl rfl | exact VLe.nil_sl rfl | exact VLe.built rfl rfl | (refine VLe.osl rfl ?_; (first | rfl | (simp; done) | assumption | (simp [dsub_eq] <;> omega) | omega)) | exact VLe.rows (by first | rfl | (simp; done) | assumption | (simp [dsub_eq] <;> omega) | omega) (fun _ _ => rfl) | exact VLe.rows (by simp [dsub_eq] <;> omega) rows_take | exact VLe.rows (by simp [dsub_eq] <;> omega) rows_dt | exact VLe.rows (by simp [dsub_eq] <;> omega) rows_vt | exact VLe.rows (by simp) (fun i _ => by simp [viewRow_eq, Nat.add_comm]) | refine VLe.aggL ?_ | (refine BLe.rows rfl ?_ fun _ _ => rfl; (first | rfl | (simp; done) | assumption | (simp [dsub_eq] <;> omega) | omega)) | refine BLe.box ?_ | (simp; done))) ?_
  conv => whnf
  refine And.intro (fun e => ?_) (fun e => ?_)
  · replace h := ite_t h e; clear e
    conv => whnf
    obtain ⟨x3, hx3, h⟩ := bd_some h
    refine callE [(9000, 9000)] 0 (spec_l1Rd_pick_c hx3) (by (repeat' first | ((conv => whnf); first | exact trivial | refine And.intro ?_ ?_ | exact BLe.refl _ | exact VLe.refl _) | exact trivial | refine And.intro ?_ ?_ | exact VLe.refl _ | exact VLe.any _ | exact VLe.nil_osl rfl | exact VLe.nil_sl rfl | exact VLe.built rfl rfl | (refine VLe.osl rfl ?_; (first | rfl | (simp; done) | assumption | (simp [dsub_eq] <;> omega) | omega)) | exact VLe.rows (by first | rfl | (simp; done) | assumption | (simp [dsub_eq] <;> omega) | omega) (fun _ _ => rfl) | exact VLe.rows (by simp [dsub_eq] <;> omega) rows_take | exact VLe.rows (by simp [dsub_eq] <;> omega) rows_dt | exact VLe.rows (by simp [dsub_eq] <;> omega) rows_vt | exact VLe.rows (by simp) (fun i _ => by simp [viewRow_eq, Nat.add_comm]) | refine VLe.aggL ?_)) (by (repeat' first | ((conv => whnf); first | exact trivial | refine And.intro ?_ ?_ | exact BLe.refl _ | exact VLe.refl _) | exact trivial | exact rfl | refine And.intro ?_ ?_ | exact BLe.refl _ | exact VLe.refl _ | exact VLe.any _ | exact VLe.nil_osl rfl | exact VLe.nil_sl rfl | exact VLe.built rfl rfl | (refine VLe.osl rfl ?_; (first | rfl | (simp; done) | assumption | (simp [dsub_eq] <;> omega) | omega)) | exact VLe.rows (by first | rfl | (simp; done) | assumption | (simp [dsub_eq] <;> omega) | omega) (fun _ _ => rfl) | exact VLe.rows (by simp [dsub_eq] <;> omega) rows_take | exact VLe.rows (by simp [dsub_eq] <;> omega) rows_dt | exact VLe.rows (by simp [dsub_eq] <;> omega) rows_vt | exact VLe.rows (by simp) (fun i _ => by simp [viewRow_eq, Nat.add_comm]) | refine VLe.aggL ?_ | (refine BLe.rows rfl ?_ fun _ _ => rfl; (first | rfl | (simp; done) | assumption | (simp [dsub_eq] <;> omega) | omega)) | refine BLe.box ?_ | (simp; done))) rfl rfl ?_
    conv => whnf
    refine ⟨([x3.1, -1, 65536, 0, 65535] : List Int).length, rows encInt ([x3.1, -1, 65536, 0, 65535] : List Int), rfl, build_rows, ?_⟩
    conv => whnf
    obtain ⟨x4, hx4, h⟩ := bd_some h
    refine callE [(9000, 9000)] 0 (spec_l1Rd_pick_c hx4) (by (repeat' first | ((conv => whnf); first | exact trivial | refine And.intro ?_ ?_ | exact BLe.refl _ | exact VLe.refl _) | exact trivial | refine And.intro ?_ ?_ | exact VLe.refl _ | exact VLe.any _ | exact VLe.nil_osl rfl | exact VLe.nil_sl rfl | exact VLe.built rfl rfl | (refine VLe.osl rfl ?_; (first | rfl | (simp; done) | assumption | (simp [dsub_eq] <;> omega) | omega)) | exact VLe.rows (by first | rfl | (simp; done) | assumption | (simp [dsub_eq] <;> omega) | omega) (fun _ _ => rfl) | exact VLe.rows (by simp [dsub_eq] <;> omega) rows_take | exact VLe.rows (by simp [dsub_eq] <;> omega) rows_dt | exact VLe.rows (by simp [dsub_eq] <;> omega) rows_vt | exact VLe.rows (by simp) (fun i _ => by simp [viewRow_eq, Nat.add_comm]) | refine VLe.aggL ?_)) (by (repeat' first | ((conv => whnf); first | exact trivial | refine And.intro ?_ ?_ | exact BLe.refl _ | exact VLe.refl _) | exact trivial | exact rfl | refine And.intro ?_ ?_ | exact BLe.refl _ | exact VLe.refl _ | exact VLe.any _ | exact VLe.nil_osl rfl | exact VLe.nil_sl rfl | exact VLe.built rfl rfl | (refine VLe.osl rfl ?_; (first | rfl | (simp; done) | assumption | (simp [dsub_eq] <;> omega) | omega)) | exact VLe.rows (by first | rfl | (simp; done) | assumption | (simp [dsub_eq] <;> omega) | omega) (fun _ _ => rfl) | exact VLe.rows (by simp [dsub_eq] <;> omega) rows_take | exact VLe.rows (by simp [dsub_eq] <;> omega) rows_dt | exact VLe.rows (by simp [dsub_eq] <;> omega) rows_vt | exact VLe.rows (by simp) (fun i _ => by simp [viewRow_eq, Nat.add_comm]) | refine VLe.aggL ?_ | (refine BLe.rows rfl ?_ fun _ _ => rfl; (first | rfl | (simp; done) | assumption | (simp [dsub_eq] <;> omega) | omega)) | refine BLe.box ?_ | (simp; done))) rfl rfl ?_
    conv => whnf
    obtain ⟨g5, h⟩ := gd_some h
    refine And.intro g5 ?_
    clear g5
    conv => whnf
    obtain rfl := Option.some.inj h
    refine ⟨⟨0, 40, [(4, .d (.int .i64 (([x3.1, -1, 65536, 0, 65535] : List Int).getD x4.1.toNat default)))], [], [(9000, .box 79 [.d (slD encByte a0.b), .d (.int .i64 x4.2.p)])], [⟨[(0, .ref 9000 0 0)], []⟩]⟩, ?_, And.intro rfl (And.intro ?_ ?_)⟩
    · refine le_mk ?_ ?_ ?_ <;> (repeat' first | ((conv => whnf); first | exact trivial | refine And.intro ?_ ?_ | exact BLe.refl _ | exact VLe.refl _) | exact trivial | exact rfl | refine And.intro ?_ ?_ | exact BLe.refl _ | exact VLe.refl _ | exact VLe.any _ | exact VLe.nil_osl rfl | exact VLe.nil_sl rfl | exact VLe.built rfl rfl | (refine VLe.osl rfl ?_; (first | rfl | (simp; done) | assumption | (simp [dsub_eq] <;> omega) | omega)) | exact VLe.rows (by first | rfl | (simp; done) | assumption | (simp [dsub_eq] <;> omega) | omega) (fun _ _ => rfl) | exact VLe.rows (by simp [dsub_eq] <;> omega) rows_take | exact VLe.rows (by simp [dsub_eq] <;> omega) rows_dt | exact VLe.rows (by simp [dsub_eq] <;> omega) rows_vt | exact VLe.rows (by simp) (fun i _ => by simp [viewRow_eq, Nat.add_comm]) | refine VLe.aggL ?_ | (refine BLe.rows rfl ?_ fun _ _ => rfl; (first | rfl | (simp; done) | assumption | (simp [dsub_eq] <;> omega) | omega)) | (refine BLe.rows rfl rfl ?_; first | exact rows_take) | refine BLe.box ?_)
    · (repeat' first | ((conv => whnf); first | exact trivial | refine And.intro ?_ ?_ | exact BLe.refl _ | exact VLe.refl _) | exact trivial | exact rfl | refine And.intro ?_ ?_ | exact BLe.refl _ | exact VLe.refl _ | exact VLe.any _ | exact VLe.nil_osl rfl | exact VLe.nil_sl rfl | exact VLe.built rfl rfl | (refine VLe.osl rfl ?_; (first | rfl | (simp; done) | assumption | (simp [dsub_eq] <;> omega) | omega)) | exact VLe.rows (by first | rfl | (simp; done) | assumption | (simp [dsub_eq] <;> omega) | omega) (fun _ _ => rfl) | exact VLe.rows (by simp [dsub_eq] <;> omega) rows_take | exact VLe.rows (by simp [dsub_eq] <;> omega) rows_dt | exact VLe.rows (by simp [dsub_eq] <;> omega) rows_vt | exact VLe.rows (by simp) (fun i _ => by simp [viewRow_eq, Nat.add_comm]) | refine VLe.aggL ?_ | (refine BLe.rows rfl ?_ fun _ _ => rfl; (first | rfl | (simp; done) | assumption | (simp [dsub_eq] <;> omega) | omega)) | refine BLe.box ?_ | (simp; done))
    · (repeat' first | ((conv => whnf); first | exact trivial | refine And.intro ?_ ?_ | exact BLe.refl _ | exact VLe.refl _) | exact trivial | exact rfl | refine And.intro ?_ ?_ | exact BLe.refl _ | exact VLe.refl _ | exact VLe.any _ | exact VLe.nil_osl rfl | exact VLe.nil_sl rfl | exact VLe.built rfl rfl | (refine VLe.osl rfl ?_; (first | rfl | (simp; done) | assumption | (simp [dsub_eq] <;> omega) | omega)) | exact VLe.rows (by first | rfl | (simp; done) | assumption | (simp [dsub_eq] <;> omega) | omega) (fun _ _ => rfl) | exact VLe.rows (by simp [dsub_eq] <;> omega) rows_take | exact VLe.rows (by simp [dsub_eq] <;> omega) rows_dt | exact VLe.rows (by simp [dsub_eq] <;> omega) rows_vt | exact VLe.rows (by simp) (fun i _ => by simp [viewRow_eq, Nat.add_comm]) | refine VLe.aggL ?_ | (refine BLe.rows rfl ?_ fun _ _ => rfl; (first | rfl | (simp; done) | assumption | (simp [dsub_eq] <;> omega) | omega)) | refine BLe.box ?_ | (simp; done))
  · replace h := ite_f h e; clear e
    conv => whnf
    obtain ⟨x6, hx6, h⟩ := bd_some h
    obtain ⟨x7, hx7, h⟩ := bd_some h
    obtain ⟨x8, hx8, h⟩ := bd_some h
    obtain ⟨x9, hx9, h⟩ := bd_some h
    obtain ⟨x10, hx10, h⟩ := bd_some h
    obtain ⟨g11, h⟩ := gd_some h
    refine draw_gk tOk (by kernel_rfl) (fun j => match j with | 4 => some (.pure 0 (.d (.int .i64 x6)) []) | 7 => some (.pure 0 (.d (.int .i64 x7)) []) | 12 => some (.pure 0 (.d (.int .i64 x8)) []) | 13 => some (.eff (.d (.int .i64 x9.1)) [] [(9000, .box 79 [.d (slD encByte a0.b), .d (.int .i64 x9.2.p)])] (fun g vs => EffD Try.prog [(9000, .box 79 [.d (slD encByte a0.b), .d (.int .i64 x2.2.p)])] g vs (.d (.int .i64 x9.1)) [] [(9000, .box 79 [.d (slD encByte a0.b), .d (.int .i64 x9.2.p)])]) (LeB [(9000, .box 79 [.d (slD encByte a0.b), .d (.int .i64 x2.2.p)])] [(9000, .box 79 [.d (slD encByte a0.b), .d (.int .i64 x9.2.p)])])) | 16 => some (.eff (.d (.int .i64 x10.1)) [] [(9000, .box 79 [.d (slD encByte a0.b), .d (.int .i64 x10.2.p)])] (fun g vs => EffD Try.prog [(9000, .box 79 [.d (slD encByte a0.b), .d (.int .i64 x9.2.p)])] g vs (.d (.int .i64 x10.1)) [] [(9000, .box 79 [.d (slD encByte a0.b), .d (.int .i64 x10.2.p)])]) (LeB [(9000, .box 79 [.d (slD encByte a0.b), .d (.int .i64 x9.2.p)])] [(9000, .box 79 [.d (slD encByte a0.b), .d (.int .i64 x10.2.p)])])) | _ => none) (fun j => match j with | 13 => [(9000, .box 79 [.d (slD encByte a0.b), .d (.int .i64 x2.2.p)])] | 16 => [(9000, .box 79 [.d (slD encByte a0.b), .d (.int .i64 x9.2.p)])] | _ => []) (fun _ => []) 21 [] [[], [true], [], [false, false, true], [false, false, true, true], [], [false, false, false, false, false, true], [false, false, true, true, true, true, true], [false, false, true, true, true, true, true, true], [], [], [false, false, false, false, false, false, false, false, false, false, true], [false, false, true, true, true, true, true, true, false, false, true, true], [false, false, true, true, true, true, true, true, false, true, true, true, true], [false, false, true, true, true, true, true, true, true, true, true, true, true, true], [], [false, false, true, true, true, true, true, true, false, true, true, true, true, true, false, true], [false, false, true, true, true, true, true, true, true, true, true, true, true, true, true, true, true], [false, false, true, true, true, true, true, true, true, true, true, true, true, true, true, true, true, true], [true, true, true, true, true, true, true, true, true, true, true, true, true, true, true, true, true, true, true], [true, true, true, true, true, true, true, true, true, true, true, true, true, true, true, true, true, true, true, true]] [] [9000] (by decide) (by kernel_rfl) (chainG_pure rfl (chainG_pure rfl (chainG_pure rfl (chainG_pure rfl (chainG_eff rfl (fun _ _ h => h) (fun h => h) rfl rfl (chainG_pure rfl (chainG_pure rfl (chainG_eff rfl (fun _ _ h => h) (fun h => h) rfl rfl (chainG_pure rfl (chainG_pure rfl (chainG_pure rfl (chainG_pure rfl (chainG_pure rfl (chainG_pure rfl (chainG_pure rfl (chainG_pure rfl (chainG_pure rfl (chainG_pure rfl (chainG_pure rfl (chainG_pure rfl (chainG_pure rfl (chainG_nil)))))))))))))))))))))) (by kernel_rfl) ?_
    conv => whnf
    refine And.intro (callD_any (spec_l1Size_c hx6) (by kernel_rfl)) ?_
    conv => whnf
    refine And.intro (callD_any (spec_l1Size_c hx7) (by kernel_rfl)) ?_
    conv => whnf
    refine And.intro (callD_any (spec_l1Size_c hx8) (by kernel_rfl)) ?_
    conv => whnf
    refine And.intro (effD_mk [(9000, 9000)] 0 (spec_l1Rd_pick_c hx9) (by (repeat' first | ((conv => whnf); first | exact trivial | refine And.intro ?_ ?_ | exact BLe.refl _ | exact VLe.refl _) | exact trivial | refine And.intro ?_ ?_ | exact VLe.refl _ | exact VLe.any _ | exact VLe.nil_osl rfl | exact VLe.nil_sl rfl | exact VLe.built rfl rfl | (refine VLe.osl rfl ?_; (first | rfl | (simp; done) | assumption | (simp [dsub_eq] <;> omega) | omega)) | exact VLe.rows (by first | rfl | (simp; done) | assumption | (simp [dsub_eq] <;> omega) | omega) (fun _ _ => rfl) | exact VLe.rows (by simp [dsub_eq] <;> omega) rows_take | exact VLe.rows (by simp [dsub_eq] <;> omega) rows_dt | exact VLe.rows (by simp [dsub_eq] <;> omega) rows_vt | exact VLe.rows (by simp) (fun i _ => by simp [viewRow_eq, Nat.add_comm]) | refine VLe.aggL ?_)) (by (repeat' first | ((conv => whnf); first | exact trivial | refine And.intro ?_ ?_ | exact BLe.refl _ | exact VLe.refl _) | exact trivial | exact rfl | refine And.intro ?_ ?_ | exact BLe.refl _ | exact VLe.refl _ | exact VLe.any _ | exact VLe.nil_osl rfl | exact VLe.nil_sl rfl | exact VLe.built rfl rfl | (refine VLe.osl rfl ?_; (first | rfl | (simp; done) | assumption | (simp [dsub_eq] <;> omega) | omega)) | exact VLe.rows (by first | rfl | (simp; done) | assumption | (simp [dsub_eq] <;> omega) | omega) (fun _ _ => rfl) | exact VLe.rows (by simp [dsub_eq] <;> omega) rows_take | exact VLe.rows (by simp [dsub_eq] <;> omega) rows_dt | exact VLe.rows (by simp [dsub_eq] <;> omega) rows_vt | exact VLe.rows (by simp) (fun i _ => by simp [viewRow_eq, Nat.add_comm]) | refine VLe.aggL ?_ | (refine BLe.rows rfl ?_ fun _ _ => rfl; (first | rfl | (simp; done) | assumption | (simp [dsub_eq] <;> omega) | omega)) | refine BLe.box ?_ | (simp; done))) rfl rfl rfl rfl) ?_
    conv => whnf
    refine ⟨([0, -1, x6, IntKind.i64.wrap (x7 - 1), x9.1] : List Int).length, rows encInt ([0, -1, x6, IntKind.i64.wrap (x7 - 1), x9.1] : List Int), rfl, build_rows, ?_⟩
    conv => whnf
    refine And.intro (effD_mk [(9000, 9000)] 0 (spec_l1Rd_pick_c hx10) (by (repeat' first | ((conv => whnf); first | exact trivial | refine And.intro ?_ ?_ | exact BLe.refl _ | exact VLe.refl _) | exact trivial | refine And.intro ?_ ?_ | exact VLe.refl _ | exact VLe.any _ | exact VLe.nil_osl rfl | exact VLe.nil_sl rfl | exact VLe.built rfl rfl | (refine VLe.osl rfl ?_; (first | rfl | (simp; done) | assumption | (simp [dsub_eq] <;> omega) | omega)) | exact VLe.rows (by first | rfl | (simp; done) | assumption | (simp [dsub_eq] <;> omega) | omega) (fun _ _ => rfl) | exact VLe.rows (by simp [dsub_eq] <;> omega) rows_take | exact VLe.rows (by simp [dsub_eq] <;> omega) rows_dt | exact VLe.rows (by simp [dsub_eq] <;> omega) rows_vt | exact VLe.rows (by simp) (fun i _ => by simp [viewRow_eq, Nat.add_comm]) | refine VLe.aggL ?_)) (by (repeat' first | ((conv => whnf); first | exact trivial | refine And.intro ?_ ?_ | exact BLe.refl _ | exact VLe.refl _) | exact trivial | exact rfl | refine And.intro ?_ ?_ | exact BLe.refl _ | exact VLe.refl _ | exact VLe.any _ | exact VLe.nil_osl rfl | exact VLe.nil_sl rfl | exact VLe.built rfl rfl | (refine VLe.osl rfl ?_; (first | rfl | (simp; done) | assumption | (simp [dsub_eq] <;> omega) | omega)) | exact VLe.rows (by first | rfl | (simp; done) | assumption | (simp [dsub_eq] <;> omega) | omega) (fun _ _ => rfl) | exact VLe.rows (by simp [dsub_eq] <;> omega) rows_take | exact VLe.rows (by simp [dsub_eq] <;> omega) rows_dt | exact VLe.rows (by simp [dsub_eq] <;> omega) rows_vt | exact VLe.rows (by simp) (fun i _ => by simp [viewRow_eq, Nat.add_comm]) | refine VLe.aggL ?_ | (refine BLe.rows rfl ?_ fun _ _ => rfl; (first | rfl | (simp; done) | assumption | (simp [dsub_eq] <;> omega) | omega)) | refine BLe.box ?_ | (simp; done))) rfl rfl rfl rfl) ?_
    conv => whnf
    refine And.intro g11 ?_
    clear g11
    conv => whnf
    refine And.intro (by kernel_rfl) ?_
    conv => whnf
    obtain rfl := Option.some.inj h
    refine ⟨⟨0, 40, [(4, .d (.int .i64 (IntKind.i64.wrap (a1.Addr + (([0, -1, x6, IntKind.i64.wrap (x7 - 1), x9.1] : List Int).getD x10.1.toNat default)))))], [], [(9000, .box 79 [.d (slD encByte a0.b), .d (.int .i64 x10.2.p)])], [⟨[(0, .ref 9000 0 0)], []⟩]⟩, ?_, And.intro rfl (And.intro ?_ ?_)⟩
    · refine le_mk ?_ ?_ ?_ <;> (repeat' first | ((conv => whnf); first | exact trivial | refine And.intro ?_ ?_ | exact BLe.refl _ | exact VLe.refl _) | exact trivial | exact rfl | refine And.intro ?_ ?_ | exact BLe.refl _ | exact VLe.refl _ | exact VLe.any _ | exact VLe.nil_osl rfl | exact VLe.nil_sl rfl | exact VLe.built rfl rfl | (refine VLe.osl rfl ?_; (first | rfl | (simp; done) | assumption | (simp [dsub_eq] <;> omega) | omega)) | exact VLe.rows (by first | rfl | (simp; done) | assumption | (simp [dsub_eq] <;> omega) | omega) (fun _ _ => rfl) | exact VLe.rows (by simp [dsub_eq] <;> omega) rows_take | exact VLe.rows (by simp [dsub_eq] <;> omega) rows_dt | exact VLe.rows (by simp [dsub_eq] <;> omega) rows_vt | exact VLe.rows (by simp) (fun i _ => by simp [viewRow_eq, Nat.add_comm]) | refine VLe.aggL ?_ | (refine BLe.rows rfl ?_ fun _ _ => rfl; (first | rfl | (simp; done) | assumption | (simp [dsub_eq] <;> omega) | omega)) | (refine BLe.rows rfl rfl ?_; first | exact rows_take) | refine BLe.box ?_)
    · (repeat' first | ((conv => whnf); first | exact trivial | refine And.intro ?_ ?_ | exact BLe.refl _ | exact VLe.refl _) | exact trivial | exact rfl | refine And.intro ?_ ?_ | exact BLe.refl _ | exact VLe.refl _ | exact VLe.any _ | exact VLe.nil_osl rfl | exact VLe.nil_sl rfl | exact VLe.built rfl rfl | (refine VLe.osl rfl ?_; (first | rfl | (simp; done) | assumption | (simp [dsub_eq] <;> omega) | omega)) | exact VLe.rows (by first | rfl | (simp; done) | assumption | (simp [dsub_eq] <;> omega) | omega) (fun _ _ => rfl) | exact VLe.rows (by simp [dsub_eq] <;> omega) rows_take | exact VLe.rows (by simp [dsub_eq] <;> omega) rows_dt | exact VLe.rows (by simp [dsub_eq] <;> omega) rows_vt | exact VLe.rows (by simp) (fun i _ => by simp [viewRow_eq, Nat.add_comm]) | refine VLe.aggL ?_ | (refine BLe.rows rfl ?_ fun _ _ => rfl; (first | rfl | (simp; done) | assumption | (simp [dsub_eq] <;> omega) | omega)) | refine BLe.box ?_ | (simp; done))
    · (repeat' first | ((conv => whnf); first | exact trivial | refine And.intro ?_ ?_ | exact BLe.refl _ | exact VLe.refl _) | exact trivial | exact rfl | refine And.intro ?_ ?_ | exact BLe.refl _ | exact VLe.refl _ | exact VLe.any _ | exact VLe.nil_osl rfl | exact VLe.nil_sl rfl | exact VLe.built rfl rfl | (refine VLe.osl rfl ?_; (first | rfl | (simp; done) | assumption | (simp [dsub_eq] <;> omega) | omega)) | exact VLe.rows (by first | rfl | (simp; done) | assumption | (simp [dsub_eq] <;> omega) | omega) (fun _ _ => rfl) | exact VLe.rows (by simp [dsub_eq] <;> omega) rows_take | exact VLe.rows (by simp [dsub_eq] <;> omega) rows_dt | exact VLe.rows (by simp [dsub_eq] <;> omega) rows_vt | exact VLe.rows (by simp) (fun i _ => by simp [viewRow_eq, Nat.add_comm]) | refine VLe.aggL ?_ | (refine BLe.rows rfl ?_ fun _ _ => rfl; (first | rfl | (simp; done) | assumption | (simp [dsub_eq] <;> omega) | omega)) | refine BLe.box ?_ | (simp; done))

noncomputable def spec_l5Packet_m (a0 : l1Rd) (a1 : (List AclRule)) : Option (AclPacket × l1Rd) :=
 bd (spec_l1Rd_pick_m a0 65536) fun x1 =>
 bd (spec_l1Rd_pick_m (⟨a0.b, x1.2.p⟩ : l1Rd) 65536) fun x2 =>
 bd (spec_l1Rd_pick_m (⟨a0.b, x2.2.p⟩ : l1Rd) 7) fun x3 =>
 bd (α := Int × Int × Int × Int) (bd (gcallE ((decide (((a1.length : Nat) : Int) > 0)) = true) (spec_l1Rd_pick_m (⟨a0.b, x3.2.p⟩ : l1Rd) 5) ((⟨a0.b, x3.2.p⟩ : l1Rd))) fun x7 =>
(if ((decide (((a1.length : Nat) : Int) > 0)) && (decide (x7.1 > 0))) = true then
 bd (spec_l1Rd_pick_m (⟨a0.b, x7.2.p⟩ : l1Rd) ((a1.length : Nat) : Int)) fun x8 =>
 gd ((0 : Int) ≤ x8.1 ∧ x8.1 < ((a1.length : Nat) : Int)) <|
 bd (spec_l5Addr_m (⟨a0.b, x8.2.p⟩ : l1Rd) ((a1.getD x8.1.toNat default).From)) fun x10 =>
 bd (spec_l5Addr_m (⟨a0.b, x10.2.p⟩ : l1Rd) ((a1.getD x8.1.toNat default).To)) fun x11 =>
 bd (gcallE ((decide (((a1.getD x8.1.toNat default).Kind) > 0)) = true) (spec_l1Rd_pick_m (⟨a0.b, x11.2.p⟩ : l1Rd) 3) ((⟨a0.b, x11.2.p⟩ : l1Rd))) fun x12 =>
(if ((decide (((a1.getD x8.1.toNat default).Kind) > 0)) && (decide (x12.1 > 0))) = true then
 some (x10.1, x11.1, (a1.getD x8.1.toNat default).Kind, x12.2.p)
else
 some (x10.1, x11.1, IntKind.i64.wrap (1 + x3.1), x12.2.p))
else
 some (x1.1, x2.1, IntKind.i64.wrap (1 + x3.1), x7.2.p))) fun x4 =>
 bd (spec_l1Rd_pick_m (⟨a0.b, x4.2.2.2⟩ : l1Rd) 24) fun x13 =>
(if (x13.1 == 0) = true then
 bd (spec_l1Rd_pick_m (⟨a0.b, x13.2.p⟩ : l1Rd) 3) fun x14 =>
 gd ((0 : Int) ≤ x14.1 ∧ x14.1 < ((([0, 8, -1] : List Int).length : Nat) : Int)) <|
 some ((⟨x4.1, x4.2.1, (([0, 8, -1] : List Int).getD x14.1.toNat default)⟩ : AclPacket), (⟨a0.b, x14.2.p⟩ : l1Rd))
else
 some ((⟨x4.1, x4.2.1, x4.2.2.1⟩ : AclPacket), (⟨a0.b, x13.2.p⟩ : l1Rd)))

theorem spec_l5Packet_c {a0 : l1Rd} {a1 : (List AclRule)} {r : AclPacket × l1Rd} (h : spec_l5Packet_m a0 a1 = some r) : EffC Try.prog 39 [.ref 9000 0 0, .d (slD AclRule.enc a1)] [(9000, .box 79 [.d (slD encByte a0.b), .d (.int .i64 a0.p)])] (.agg [.d (.int .i64 r.1.From), .d (.int .i64 r.1.To), .d (.int .i64 r.1.Kind)]) [(9000, .box 79 [.d (slD encByte a0.b), .d (.int .i64 r.2.p)])] := by
  refine effC_m tOk (fn := Try.f39) (c := codeOf Try.f39) rfl rfl (by kernel_rfl) rfl rfl rfl rfl ?_
  unfold spec_l5Packet_m at h
  conv => whnf
  obtain ⟨x1, hx1, h⟩ := bd_some h
  refine callE [(9000, 9000)] 0 (spec_l1Rd_pick_c hx1) (by (repeat' first | ((conv => whnf); first | exact trivial | refine And.intro ?_ ?_ | exact BLe.refl _ | exact VLe.refl _) | exact trivial | refine And.intro ?_ ?_ | exact VLe.refl _ | exact VLe.any _ | exact VLe.nil_osl rfl | exact VLe.nil_sl rfl | exact VLe.built rfl rfl | (refine VLe.osl rfl ?_; (first | rfl | (simp; done) | assumption | (simp [dsub_eq] <;> omega) | omega)) | exact VLe.rows (by first | rfl | (simp; done) | assumption | (simp [dsub_eq] <;> omega) | omega) (fun _ _ => rfl) | exact VLe.rows (by simp [dsub_eq] <;> omega) rows_take | exact VLe.rows (by simp [dsub_eq] <;> omega) rows_dt | exact VLe.rows (by simp [dsub_eq] <;> omega) rows_vt | exact VLe.rows (by simp) (fun i _ => by simp [viewRow_eq, Nat.add_comm]) | refine VLe.aggL ?_)) (by (repeat' first | ((conv => whnf); first | exact trivial | refine And.intro ?_ ?_ | exact BLe.refl _ | exact VLe.refl _) | exact trivial | exact rfl | refine And.intro ?_ ?_ | exact BLe.refl _ | exact VLe.refl _ | exact VLe.any _ | exact VLe.nil_osl rfl | exact VLe.nil_sl rfl | exact VLe.built rfl rfl | (refine VLe.osl rfl ?_; (first | rfl | (simp; done) | assumption | (simp [dsub_eq] <;> omega) | omega)) | exact VLe.rows (by first | rfl | (simp; done) | assumption | (simp [dsub_eq] <;> omega) | omega) (fun _ _ => rfl) | exact VLe.rows (by simp [dsub_eq] <;> omega) rows_take | exact VLe.rows (by simp [dsub_eq] <;> omega) rows_dt | exact VLe.rows (by simp [dsub_eq] <;> omega) rows_vt | exact VLe.rows (by simp) (fun i _ => by simp [viewRow_eq, Nat.add_comm]) | refine VLe.aggL ?_ | (refine BLe.rows rfl ?_ fun _ _ => rfl; (first | rfl | (simp; done) | assumption | (simp [dsub_eq] <;> omega) | omega)) | refine BLe.box ?_ | (simp; done))) rfl rfl ?_
  conv => whnf
  obtain ⟨x2, hx2, h⟩ := bd_some h
  refine callE [(9000, 9000)] 0 (spec_l1Rd_pick_c hx2) (by (repeat' first | ((conv => whnf); first | exact trivial | refine And.intro ?_ ?_ | exact BLe.refl _ | exact VLe.refl _) | exact trivial | refine And.intro ?_ ?_ | exact VLe.refl _ | exact VLe.any _ | exact VLe.nil_osl rfl | exact VLe.nil_sl rfl | exact VLe.built rfl rfl | (refine VLe.osl rfl ?_; (first | rfl | (simp; done) | assumption | (simp [dsub_eq] <;> omega) | omega)) | exact VLe.rows (by first | rfl | (simp; done) | assumption | (simp [dsub_eq] <;> omega) | omega) (fun _ _ => rfl) | exact VLe.rows (by simp [dsub_eq] <;> omega) rows_take | exact VLe.rows (by simp [dsub_eq] <;> omega) rows_dt | exact VLe.rows (by simp [dsub_eq] <;> omega) rows_vt | exact VLe.rows (by simp) (fun i _ => by simp [viewRow_eq, Nat.add_comm]) | refine VLe.aggL ?_)) (by (repeat' first | ((conv => whnf); first | exact trivial | refine And.intro ?_ ?_ | exact BLe.refl _ | exact VLe.refl _) | exact trivial | exact rfl | refine And.intro ?_ ?_ | exact BLe.refl _ | exact VLe.refl _ | exact VLe.any _ | exact VLe.nil_osl rfl | exact VLe.nil_sl rfl | exact VLe.built rfl rfl | (refine VLe.osl rfl ?_; (first | rfl | (simp; done) | assumption | (simp [dsub_eq] <;> omega) | omega)) | exact VLe.rows (by first | rfl | (simp; done) | assumption | (simp [dsub_eq] <;> omega) | omega) (fun _ _ => rfl) | exact VLe.rows (by simp [dsub_eq] <;> omega) rows_take | exact VLe.rows (by simp [dsub_eq] <;> omega) rows_dt | exact VLe.rows (by simp [dsub_eq] <;> omega) rows_vt | exact VLe.rows (by simp) (fun i _ => by simp [viewRow_eq, Nat.add_comm]) | refine VLe.aggL ?_ | (refine BLe.rows rfl ?_ fun _ _ => rfl; (first | rfl | (simp; done) | assumption | (simp [dsub_eq] <;> omega) | omega)) | refine BLe.box ?_ | (simp; done))) rfl rfl ?_
  conv => whnf
  obtain ⟨x3, hx3, h⟩ := bd_some h
  refine callE [(9000, 9000)] 0 (spec_l1Rd_pick_c hx3) (by (repeat' first | ((conv => whnf); first | exact trivial | refine And.intro ?_ ?_ | exact BLe.refl _ | exact VLe.refl _) | exact trivial | refine And.intro ?_ ?_ | exact VLe.refl _ | exact VLe.any _ | exact VLe.nil_osl rfl | exact VLe.nil_sl rfl | exact VLe.built rfl rfl | (refine VLe.osl rfl ?_; (first | rfl | (simp; done) | assumption | (simp [dsub_eq] <;> omega) | omega)) | exact VLe.rows (by first | rfl | (simp; done) | assumption | (simp [dsub_eq] <;> omega) | omega) (fun _ _ => rfl) | exact VLe.rows (by simp [dsub_eq] <;> omega) rows_take | exact VLe.rows (by simp [dsub_eq] <;> omega) rows_dt | exact VLe.rows (by simp [dsub_eq] <;> omega) rows_vt | exact VLe.rows (by simp) (fun i _ => by simp [viewRow_eq, Nat.add_comm]) | refine VLe.aggL ?_)) (by (repeat' first | ((conv => whnf); first | exact trivial | refine And.intro ?_ ?_ | exact BLe.refl _ | exact VLe.refl _) | exact trivial | exact rfl | refine And.intro ?_ ?_ | exact BLe.refl _ | exact VLe.refl _ | exact VLe.any _ | exact VLe.nil_osl rfl | exact VLe.nil_sl rfl | exact VLe.built rfl rfl | (refine VLe.osl rfl ?_; (first | rfl | (simp; done) | assumption | (simp [dsub_eq] <;> omega) | omega)) | exact VLe.rows (by first | rfl | (simp; done) | assumption | (simp [dsub_eq] <;> omega) | omega) (fun _ _ => rfl) | exact VLe.rows (by simp [dsub_eq] <;> omega) rows_take | exact VLe.rows (by simp [dsub_eq] <;> omega) rows_dt | exact VLe.rows (by simp [dsub_eq] <;> omega) rows_vt | exact VLe.rows (by simp) (fun i _ => by simp [viewRow_eq, Nat.add_comm]) | refine VLe.aggL ?_ | (refine BLe.rows rfl ?_ fun _ _ => rfl; (first | rfl | (simp; done) | assumption | (simp [dsub_eq] <;> omega) | omega)) | refine BLe.box ?_ | (simp; done))) rfl rfl ?_
  conv => whnf
  obtain ⟨x4, hx4, h⟩ := bd_some h
  refine seq_join tOk (fun s5 => ⟨0, 61, [(0, .ref 9000 0 0), (4, .ref 4 0 0), (5, .ref 5 0 0)], [], [(5, .box 30 [.d (.int .i64 s5.1), .d (.int .i64 s5.2.1), .d (.int .i64 s5.2.2.1)]), (4, .box 30 [.d (.int .i64 0), .d (.int .i64 0), .d (.int .i64 0)]), (9000, .box 79 [.d (slD encByte a0.b), .d (.int .i64 s5.2.2.2)])], [⟨[(0, .ref 9000 0 0)], []⟩]⟩) (fun s5 => x4 = s5) ?_ ?_
  · conv => whnf
    obtain ⟨x7, hx7, hx4⟩ := bd_some hx4
    refine callG_e [(9000, 9000)] 0 rfl rfl rfl (by intro c0; exact spec_l1Rd_pick_c (gcallE_some hx7 c0)) (by (repeat' first | ((conv => whnf); first | exact trivial | refine And.intro ?_ ?_ | exact BLe.refl _ | exact VLe.refl _) | exact trivial | refine And.intro ?_ ?_ | exact VLe.refl _ | exact VLe.any _ | exact VLe.nil_osl rfl | exact VLe.nil_sl rfl | exact VLe.built rfl rfl | (refine VLe.osl rfl ?_; (first | rfl | (simp; done) | assumption | (simp [dsub_eq] <;> omega) | omega)) | exact VLe.rows (by first | rfl | (simp; done) | assumption | (simp [dsub_eq] <;> omega) | omega) (fun _ _ => rfl) | exact VLe.rows (by simp [dsub_eq] <;> omega) rows_take | exact VLe.rows (by simp [dsub_eq] <;> omega) rows_dt | exact VLe.rows (by simp [dsub_eq] <;> omega) rows_vt | exact VLe.rows (by simp) (fun i _ => by simp [viewRow_eq, Nat.add_comm]) | refine VLe.aggL ?_)) (by (repeat' first | ((conv => whnf); first | exact trivial | refine And.intro ?_ ?_ | exact BLe.refl _ | exact VLe.refl _) | exact trivial | exact rfl | refine And.intro ?_ ?_ | exact BLe.refl _ | exact VLe.refl _ | exact VLe.any _ | exact VLe.nil_osl rfl | exact VLe.nil_sl rfl | exact VLe.built rfl rfl | (refine VLe.osl rfl ?_; (first | rfl | (simp; done) | assumption | (simp [dsub_eq] <;> omega) | omega)) | exact VLe.rows (by first | rfl | (simp; done) | assumption | (simp [dsub_eq] <;> omega) | omega) (fun _ _ => rfl) | exact VLe.rows (by simp [dsub_eq] <;> omega) rows_take | exact VLe.rows (by simp [dsub_eq] <;> omega) rows_dt | exact VLe.rows (by simp [dsub_eq] <;> omega) rows_vt | exact VLe.rows (by simp) (fun i _ => by simp [viewRow_eq, Nat.add_comm]) | refine VLe.aggL ?_ | (refine BLe.rows rfl ?_ fun _ _ => rfl; (first | rfl | (simp; done) | assumption | (simp [dsub_eq] <;> omega) | omega)) | refine BLe.box ?_ | (simp; done))) rfl rfl (by intro c0; have e := gcallE_none hx7 (by rw [c0]; decide); subst e; (repeat' first | ((conv => whnf); first | exact trivial | refine And.intro ?_ ?_ | exact BLe.refl _ | exact VLe.refl _) | exact trivial | exact rfl | refine And.intro ?_ ?_ | exact BLe.refl _ | exact VLe.refl _ | exact VLe.any _ | exact VLe.nil_osl rfl | exact VLe.nil_sl rfl | exact VLe.built rfl rfl | (refine VLe.osl rfl ?_; (first | rfl | (simp; done) | assumption | (simp [dsub_eq] <;> omega) | omega)) | exact VLe.rows (by first | rfl | (simp; done) | assumption | (simp [dsub_eq] <;> omega) | omega) (fun _ _ => rfl) | exact VLe.rows (by simp [dsub_eq] <;> omega) rows_take | exact VLe.rows (by simp [dsub_eq] <;> omega) rows_dt | exact VLe.rows (by simp [dsub_eq] <;> omega) rows_vt | exact VLe.rows (by simp) (fun i _ => by simp [viewRow_eq, Nat.add_comm]) | refine VLe.aggL ?_ | (refine BLe.rows rfl ?_ fun _ _ => rfl; (first | rfl | (simp; done) | assumption | (simp [dsub_eq] <;> omega) | omega)) | refine BLe.box ?_ | (simp; done))) ?_
    conv => whnf
    refine And.intro (fun e => ?_) (fun e => ?_)
    · replace hx4 := ite_t hx4 e; clear e
      conv => whnf
      obtain ⟨x8, hx8, hx4⟩ := bd_some hx4
      refine callE [(9000, 9000)] 0 (spec_l1Rd_pick_c hx8) (by (repeat' first | ((conv => whnf); first | exact trivial | refine And.intro ?_ ?_ | exact BLe.refl _ | exact VLe.refl _) | exact trivial | refine And.intro ?_ ?_ | exact VLe.refl _ | exact VLe.any _ | exact VLe.nil_osl rfl | exact VLe.nil_sl rfl | exact VLe.built rfl rfl | (refine VLe.osl rfl ?_; (first | rfl | (simp; done) | assumption | (simp [dsub_eq] <;> omega) | omega)) | exact VLe.rows (by first | rfl | (simp; done) | assumption | (simp [dsub_eq] <;> omega) | omega) (fun _ _ => rfl) | exact VLe.rows (by simp [dsub_eq] <;> omega) rows_take | exact VLe.rows (by simp [dsub_eq] <;> omega) rows_dt | exact VLe.rows (by simp [dsub_eq] <;> omega) rows_vt | exact VLe.rows (by simp) (fun i _ => by simp [viewRow_eq, Nat.add_comm]) | refine VLe.aggL ?_)) (by (repeat' first | ((conv => whnf); first | exact trivial | refine And.intro ?_ ?_ | exact BLe.refl _ | exact VLe.refl _) | exact trivial | exact rfl | refine And.intro ?_ ?_ | exact BLe.refl _ | exact VLe.refl _ | exact VLe.any _ | exact VLe.nil_osl rfl | exact VLe.nil_sl rfl | exact VLe.built rfl rfl | (refine VLe.osl rfl ?_; (first | rfl | (simp; done) | assumption | (simp [dsub_eq] <;> omega) | omega)) | exact VLe.rows (by first | rfl | (simp; done) | assumption | (simp [dsub_eq] <;> omega) | omega) (fun _ _ => rfl) | exact VLe.rows (by simp [dsub_eq] <;> omega) rows_take | exact VLe.rows (by simp [dsub_eq] <;> omega) rows_dt | exact VLe.rows (by simp [dsub_eq] <;> omega) rows_vt | exact VLe.rows (by simp) (fun i _ => by simp [viewRow_eq, Nat.add_comm]) | refine VLe.aggL ?_ | (refine BLe.rows rfl ?_ fun _ _ => rfl; (first | rfl | (simp; done) | assumption | (simp [dsub_eq] <;> omega) | omega)) | refine BLe.box ?_ | (simp; done))) rfl rfl ?_
      conv => whnf
      obtain ⟨g9, hx4⟩ := gd_some hx4
      refine And.intro g9 ?_
      clear g9
      conv => whnf
      obtain ⟨x10, hx10, hx4⟩ := bd_some hx4
      refine callE [(9000, 9000)] 0 (spec_l5Addr_c hx10) (by (repeat' first | ((conv => whnf); first | exact trivial | refine And.intro ?_ ?_ | exact BLe.refl _ | exact VLe.refl _) | exact trivial | refine And.intro ?_ ?_ | exact VLe.refl _ | exact VLe.any _ | exact VLe.nil_osl rfl | exact VLe.nil_sl rfl | exact VLe.built rfl rfl | (refine VLe.osl rfl ?_; (first | rfl | (simp; done) | assumption | (simp [dsub_eq] <;> omega) | omega)) | exact VLe.rows (by first | rfl | (simp; done) | assumption | (simp [dsub_eq] <;> omega) | omega) (fun _ _ => rfl) | exact VLe.rows (by simp [dsub_eq] <;> omega) rows_take | exact VLe.rows (by simp [dsub_eq] <;> omega) rows_dt | exact VLe.rows (by simp [dsub_eq] <;> omega) rows_vt | exact VLe.rows (by simp) (fun i _ => by simp [viewRow_eq, Nat.add_comm]) | refine VLe.aggL ?_)) (by (repeat' first | ((conv => whnf); first | exact trivial | refine And.intro ?_ ?_ | exact BLe.refl _ | exact VLe.refl _) | exact trivial | exact rfl | refine And.intro ?_ ?_ | exact BLe.refl _ | exact VLe.refl _ | exact VLe.any _ | exact VLe.nil_osl rfl | exact VLe.nil_sl rfl | exact VLe.built rfl rfl | (refine VLe.osl rfl ?_; (first | rfl | (simp; done) | assumption | (simp [dsub_eq] <;> omega) | omega)) | exact VLe.rows (by first | rfl | (simp; done) | assumption | (simp [dsub_eq] <;> omega) | omega) (fun _ _ => rfl) | exact VLe.rows (by simp [dsub_eq] <;> omega) rows_take | exact VLe.rows (by simp [dsub_eq] <;> omega) rows_dt | exact VLe.rows (by simp [dsub_eq] <;> omega) rows_vt | exact VLe.rows (by simp) (fun i _ => by simp [viewRow_eq, Nat.add_comm]) | refine VLe.aggL ?_ | (refine BLe.rows rfl ?_ fun _ _ => rfl; (first | rfl | (simp; done) | assumption | (simp [dsub_eq] <;> omega) | omega)) | refine BLe.box ?_ | (simp; done))) rfl rfl ?_
      conv => whnf
      obtain ⟨x11, hx11, hx4⟩ := bd_some hx4
      refine callE [(9000, 9000)] 0 (spec_l5Addr_c hx11) (by (repeat' first | ((conv => whnf); first | exact trivial | refine And.intro ?_ ?_ | exact BLe.refl _ | exact VLe.refl _) | exact trivial | refine And.intro ?_ ?_ | exact VLe.refl _ | exact VLe.any _ | exact VLe.nil_osl rfl | exact VLe.nil_sl rfl | exact VLe.built rfl rfl | (refine VLe.osl rfl ?_; (first | rfl | (simp; done) | assumption | (simp [dsub_eq] <;> omega) | omega)) | exact VLe.rows (by first | rfl | (simp; done) | assumption | (simp [dsub_eq] <;> omega) | omega) (fun _ _ => rfl) | exact VLe.rows (by simp [dsub_eq] <;> omega) rows_take | exact VLe.rows (by simp [dsub_eq] <;> omega) rows_dt | exact VLe.rows (by simp [dsub_eq] <;> omega) rows_vt | exact VLe.rows (by simp) (fun i _ => by simp [viewRow_eq, Nat.add_comm]) | refine VLe.aggL ?_)) (by (repeat' first | ((conv => whnf); first | exact trivial | refine And.intro ?_ ?_ | exact BLe.refl _ | exact VLe.refl _) | exact trivial | exact rfl | refine And.intro ?_ ?_ | exact BLe.refl _ | exact VLe.refl _ | exact VLe.any _ | exact VLe.nil_osl rfl | exact VLe.nil_sl rfl | exact VLe.built rfl rfl | (refine VLe.osl rfl ?_; (first | rfl | (simp; done) | assumption | (simp [dsub_eq] <;> omega) | omega)) | exact VLe.rows (by first | rfl | (simp; done) | assumption | (simp [dsub_eq] <;> omega) | omega) (fun _ _ => rfl) | exact VLe.rows (by simp [dsub_eq] <;> omega) rows_take | exact VLe.rows (by simp [dsub_eq] <;> omega) rows_dt | exact VLe.rows (by simp [dsub_eq] <;> omega) rows_vt | exact VLe.rows (by simp) (fun i _ => by simp [viewRow_eq, Nat.add_comm]) | refine VLe.aggL ?_ | (refine BLe.rows rfl ?_ fun _ _ => rfl; (first | rfl | (simp; done) | assumption | (simp [dsub_eq] <;> omega) | omega)) | refine BLe.box ?_ | (simp; done))) rfl rfl ?_
      conv => whnf
      obtain ⟨x12, hx12, hx4⟩ := bd_some hx4
      refine callG_e [(9000, 9000)] 0 rfl rfl rfl (by intro c0; exact spec_l1Rd_pick_c (gcallE_some hx12 c0)) (by (repeat' first | ((conv => whnf); first | exact trivial | refine And.intro ?_ ?_ | exact BLe.refl _ | exact VLe.refl _) | exact trivial | refine And.intro ?_ ?_ | exact VLe.refl _ | exact VLe.any _ | exact VLe.nil_osl rfl | exact VLe.nil_sl rfl | exact VLe.built rfl rfl | (refine VLe.osl rfl ?_; (first | rfl | (simp; done) | assumption | (simp [dsub_eq] <;> omega) | omega)) | exact VLe.rows (by first | rfl | (simp; done) | assumption | (simp [dsub_eq] <;> omega) | omega) (fun _ _ => rfl) | exact VLe.rows (by simp [dsub_eq] <;> omega) rows_take | exact VLe.rows (by simp [dsub_eq] <;> omega) rows_dt | exact VLe.rows (by simp [dsub_eq] <;> omega) rows_vt | exact VLe.rows (by simp) (fun i _ => by simp [viewRow_eq, Nat.add_comm]) | refine VLe.aggL ?_)) (by (repeat' first | ((conv => whnf); first | exact trivial | refine And.intro ?_ ?_ | exact BLe.refl _ | exact VLe.refl _) | exact trivial | exact rfl | refine And.intro ?_ ?_ | exact BLe.refl _ | exact VLe.refl _ | exact VLe.any _ | exact VLe.nil_osl rfl | exact VLe.nil_sl rfl | exact VLe.built rfl rfl | (refine VLe.osl rfl ?_; (first | rfl | (simp; done) | assumption | (simp [dsub_eq] <;> omega) | omega)) | exact VLe.rows (by first | rfl | (simp; done) | assumption | (simp [dsub_eq] <;> omega) | omega) (fun _ _ => rfl) | exact VLe.rows (by simp [dsub_eq] <;> omega) rows_take | exact VLe.rows (by simp [dsub_eq] <;> omega) rows_dt | exact VLe.rows (by simp [dsub_eq] <;> omega) rows_vt | exact VLe.rows (by simp) (fun i _ => by simp [viewRow_eq, Nat.add_comm]) | refine VLe.aggL ?_ | (refine BLe.rows rfl ?_ fun _ _ => rfl; (first | rfl | (simp; done) | assumption | (simp [dsub_eq] <;> omega) | omega)) | refine BLe.box ?_ | (simp; done))) rfl rfl (by intro c0; have e := gcallE_none hx12 (by rw [c0]; decide); subst e; (repeat' first | ((conv => whnf); first | exact trivial | refine And.intro ?_ ?_ | exact BLe.refl _ | exact VLe.refl _) | exact trivial | exact rfl | refine And.intro ?_ ?_ | exact BLe.refl _ | exact VLe.refl _ | exact VLe.any _ | exact VLe.nil_osl rfl | exact VLe.nil_sl rfl | exact VLe.built rfl rfl | (refine VLe.osl rfl ?_; (first | rfl | (simp; done) | assumption | (simp [dsub_eq] <;> omega) | omega)) | exact VLe.rows (by first | rfl | (simp; done) | assumption | (simp [dsub_eq] <;> omega) | omega) (fun _ _ => rfl) | exact VLe.rows (by simp [dsub_eq] <;> omega) rows_take | exact VLe.rows (by simp [dsub_eq] <;> omega) rows_dt | exact VLe.rows (by simp [dsub_eq] <;> omega) rows_vt | exact VLe.rows (by simp) (fun i _ => by simp [viewRow_eq, Nat.add_comm]) | refine VLe.aggL ?_ | (refine BLe.rows rfl ?_ fun _ _ => rfl; (first | rfl | (simp; done) | assumption | (simp [dsub_eq] <;> omega) | omega)) | refine BLe.box ?_ | (simp; done))) ?_
      conv => whnf
      refine And.intro (fun e => ?_) (fun e => ?_)
      · replace hx4 := ite_t hx4 e; clear e
        conv => whnf
        obtain rfl := Option.some.inj hx4
        refine ⟨_, rfl, le_mk ?_ ?_ ?_⟩ <;> (repeat' first | ((conv => whnf); first | exact trivial | refine And.intro ?_ ?_ | exact BLe.refl _ | exact VLe.refl _) | exact trivial | exact rfl | refine And.intro ?_ ?_ | exact BLe.refl _ | exact VLe.refl _ | exact VLe.any _ | exact VLe.nil_osl rfl | exact VLe.nil_sl rfl | exact VLe.built rfl rfl | (refine VLe.osl rfl ?_; (first | rfl | (simp; done) | assumption | (simp [dsub_eq] <;> omega) | omega)) | exact VLe.rows (by first | rfl | (simp; done) | assumption | (simp [dsub_eq] <;> omega) | omega) (fun _ _ => rfl) | exact VLe.rows (by simp [dsub_eq] <;> omega) rows_take | exact VLe.rows (by simp [dsub_eq] <;> omega) rows_dt | exact VLe.rows (by simp [dsub_eq] <;> omega) rows_vt | exact VLe.rows (by simp) (fun i _ => by simp [viewRow_eq, Nat.add_comm]) | refine VLe.aggL ?_ | (refine BLe.rows rfl ?_ fun _ _ => rfl; (first | rfl | (simp; done) | assumption | (simp [dsub_eq] <;> omega) | omega)) | (refine BLe.rows rfl rfl ?_; first | exact rows_take) | refine BLe.box ?_)
      · replace hx4 := ite_f hx4 e; clear e
        conv => whnf
        obtain rfl := Option.some.inj hx4
        refine ⟨_, rfl, le_mk ?_ ?_ ?_⟩ <;> (repeat' first | ((conv => whnf); first | exact trivial | refine And.intro ?_ ?_ | exact BLe.refl _ | exact VLe.refl _) | exact trivial | exact rfl | refine And.intro ?_ ?_ | exact BLe.refl _ | exact VLe.refl _ | exact VLe.any _ | exact VLe.nil_osl rfl | exact VLe.nil_sl rfl | exact VLe.built rfl rfl | (refine VLe.osl rfl ?_; (first | rfl | (simp; done) | assumption | (simp [dsub_eq] <;> omega) | omega)) | exact VLe.rows (by first | rfl | (simp; done) | assumption | (simp [dsub_eq] <;> omega) | omega) (fun _ _ => rfl) | exact VLe.rows (by simp [dsub_eq] <;> omega) rows_take | exact VLe.rows (by simp [dsub_eq] <;> omega) rows_dt | exact VLe.rows (by simp [dsub_eq] <;> omega) rows_vt | exact VLe.rows (by simp) (fun i _ => by simp [viewRow_eq, Nat.add_comm]) | refine VLe.aggL ?_ | (refine BLe.rows rfl ?_ fun _ _ => rfl; (first | rfl | (simp; done) | assumption | (simp [dsub_eq] <;> omega) | omega)) | (refine BLe.rows rfl rfl ?_; first | exact rows_take) | refine BLe.box ?_)
    · replace hx4 := ite_f hx4 e; clear e
      conv => whnf
      obtain rfl := Option.some.inj hx4
      refine ⟨_, rfl, le_mk ?_ ?_ ?_⟩ <;> (repeat' first | ((conv => whnf); first | exact trivial | refine And.intro ?_ ?_ | exact BLe.refl _ | exact VLe.refl _) | exact trivial | exact rfl | refine And.intro ?_ ?_ | exact BLe.refl _ | exact VLe.refl _ | exact VLe.any _ | exact VLe.nil_osl rfl | exact VLe.nil_sl rfl | exact VLe.built rfl rfl | (refine VLe.osl rfl ?_; (first | rfl | (simp; done) | assumption | (simp [dsub_eq] <;> omega) | omega)) | exact VLe.rows (by first | rfl | (simp; done) | assumption | (simp [dsub_eq] <;> omega) | omega) (fun _ _ => rfl) | exact VLe.rows (by simp [dsub_eq] <;> omega) rows_take | exact VLe.rows (by simp [dsub_eq] <;> omega) rows_dt | exact VLe.rows (by simp [dsub_eq] <;> omega) rows_vt | exact VLe.rows (by simp) (fun i _ => by simp [viewRow_eq, Nat.add_comm]) | refine VLe.aggL ?_ | (refine BLe.rows rfl ?_ fun _ _ => rfl; (first | rfl | (simp; done) | assumption | (simp [dsub_eq] <;> omega) | omega)) | (refine BLe.rows rfl rfl ?_; first | exact rows_take) | refine BLe.box ?_)
  · rintro _ rfl
    conv => whnf
    refine seq_in tOk ?_
    conv => whnf
    obtain ⟨x13, hx13, h⟩ := bd_some h
    refine callE [(9000, 9000)] 0 (spec_l1Rd_pick_c hx13) (by (repeat' first | ((conv => whnf); first | exact trivial | refine And.intro ?_ ?_ | exact BLe.refl _ | exact VLe.refl _) | exact trivial | refine And.intro ?_ ?_ | exact VLe.refl _ | exact VLe.any _ | exact VLe.nil_osl rfl | exact VLe.nil_sl rfl | exact VLe.built rfl rfl | (refine VLe.osl rfl ?_; (first | rfl | (simp; done) | assumption | (simp [dsub_eq] <;> omega) | omega)) | exact VLe.rows (by first | rfl | (simp; done) | assumption | (simp [dsub_eq] <;> omega) | omega) (fun _ _ => rfl) | exact VLe.rows (by simp [dsub_eq] <;> omega) rows_take | exact VLe.rows (by simp [dsub_eq] <;> omega) rows_dt | exact VLe.rows (by simp [dsub_eq] <;> omega) rows_vt | exact VLe.rows (by simp) (fun i _ => by simp [viewRow_eq, Nat.add_comm]) | refine VLe.aggL ?_)) (by (repeat' first | ((conv => whnf); first | exact trivial | refine And.intro ?_ ?_ | exact BLe.refl _ | exact VLe.refl _) | exact trivial | exact rfl | refine And.intro ?_ ?_ | exact BLe.refl _ | exact VLe.refl _ | exact VLe.any _ | exact VLe.nil_osl rfl | exact VLe.nil_sl rfl | exact VLe.built rfl rfl | (refine VLe.osl rfl ?_; (first | rfl | (simp; done) | assumption | (simp [dsub_eq] <;> omega) | omega)) | exact VLe.rows (by first | rfl | (simp; done) | assumption | (simp [dsub_eq] <;> omega) | omega) (fun _ _ => rfl) | exact VLe.rows (by simp [dsub_eq] <;> omega) rows_take | exact VLe.rows (by simp [dsub_eq] <;> omega) rows_dt | exact VLe.rows (by simp [dsub_eq] <;> omega) rows_vt | exact VLe.rows (by simp) (fun i _ => by simp [viewRow_eq, Nat.add_comm]) | refine VLe.aggL ?_ | (refine BLe.rows rfl ?_ fun _ _ => rfl; (first | rfl | (simp; done) | assumption | (simp [dsub_eq] <;> omega) | omega)) | refine BLe.box ?_ | (simp; done))) rfl rfl ?_
    conv => whnf
    refine And.intro (fun e => ?_) (fun e => ?_)
    · replace h := ite_t h e; clear e
      conv => whnf
      refine ⟨([0, 8, -1] : List Int).length, rows encInt ([0, 8, -1] : List Int), rfl, build_rows, ?_⟩
      conv => whnf
      obtain ⟨x14, hx14, h⟩ := bd_some h
      refine callE [(9000, 9000)] 0 (spec_l1Rd_pick_c hx14) (by (repeat' first | ((conv => whnf); first | exact trivial | refine And.intro ?_ ?_ | exact BLe.refl _ | exact VLe.refl _) | exact trivial | refine And.intro ?_ ?_ | exact VLe.refl _ | exact VLe.any _ | exact VLe.nil_osl rfl | exact VLe.nil_sl rfl | exact VLe.built rfl rfl | (refine VLe.osl rfl ?_; (first | rfl | (simp; done) | assumption | (simp [dsub_eq] <;> omega) | omega)) | exact VLe.rows (by first | rfl | (simp; done) | assumption | (simp [dsub_eq] <;> omega) | omega) (fun _ _ => rfl) | exact VLe.rows (by simp [dsub_eq] <;> omega) rows_take | exact VLe.rows (by simp [dsub_eq] <;> omega) rows_dt | exact VLe.rows (by simp [dsub_eq] <;> omega) rows_vt | exact VLe.rows (by simp) (fun i _ => by simp [viewRow_eq, Nat.add_comm]) | refine VLe.aggL ?_)) (by (repeat' first | ((conv => whnf); first | exact trivial | refine And.intro ?_ ?_ | exact BLe.refl _ | exact VLe.refl _) | exact trivial | exact rfl | refine And.intro ?_ ?_ | exact BLe.refl _ | exact VLe.refl _ | exact VLe.any _ | exact VLe.nil_osl rfl | exact VLe.nil_sl rfl | exact VLe.built rfl rfl | (refine VLe.osl rfl ?_; (first | rfl | (simp; done) | assumption | (simp [dsub_eq] <;> omega) | omega)) | exact VLe.rows (by first | rfl | (simp; done) | assumption | (simp [dsub_eq] <;> omega) | omega) (fun _ _ => rfl) | exact VLe.rows (by simp [dsub_eq] <;> omega) rows_take | exact VLe.rows (by simp [dsub_eq] <;> omega) rows_dt | exact VLe.rows (by simp [dsub_eq] <;> omega) rows_vt | exact VLe.rows (by simp) (fun i _ => by simp [viewRow_eq, Nat.add_comm]) | refine VLe.aggL ?_ | (refine BLe.rows rfl ?_ fun _ _ => rfl; (first | rfl | (simp; done) | assumption | (simp [dsub_eq] <;> omega) | omega)) | refine BLe.box ?_ | (simp; done))) rfl rfl ?_
      conv => whnf
      obtain ⟨g15, h⟩ := gd_some h
      refine And.intro g15 ?_
      clear g15
      conv => whnf
      obtain rfl := Option.some.inj h
      refine ⟨⟨0, 61, [(4, .ref 4 0 0)], [], [(4, .box 30 [.d (.int .i64 x4.1), .d (.int .i64 x4.2.1), .d (.int .i64 (([0, 8, -1] : List Int).getD x14.1.toNat default))]), (9000, .box 79 [.d (slD encByte a0.b), .d (.int .i64 x14.2.p)])], [⟨[(0, .ref 9000 0 0)], []⟩]⟩, ?_, And.intro rfl (And.intro ?_ ?_)⟩
      · refine le_mk ?_ ?_ ?_ <;> (repeat' first | ((conv => whnf); first | exact trivial | refine And.intro ?_ ?_ | exact BLe.refl _ | exact VLe.refl _) | exact trivial | exact rfl | refine And.intro ?_ ?_ | exact BLe.refl _ | exact VLe.refl _ | exact VLe.any _ | exact VLe.nil_osl rfl | exact VLe.nil_sl rfl | exact VLe.built rfl rfl | (refine VLe.osl rfl ?_; (first | rfl | (simp; done) | assumption | (simp [dsub_eq] <;> omega) | omega)) | exact VLe.rows (by first | rfl | (simp; done) | assumption | (simp [dsub_eq] <;> omega) | omega) (fun _ _ => rfl) | exact VLe.rows (by simp [dsub_eq] <;> omega) rows_take | exact VLe.rows (by simp [dsub_eq] <;> omega) rows_dt | exact VLe.rows (by simp [dsub_eq] <;> omega) rows_vt | exact VLe.rows (by simp) (fun i _ => by simp [viewRow_eq, Nat.add_comm]) | refine VLe.aggL ?_ | (refine BLe.rows rfl ?_ fun _ _ => rfl; (first | rfl | (simp; done) | assumption | (simp [dsub_eq] <;> omega) | omega)) | (refine BLe.rows rfl rfl ?_; first | exact rows_take) | refine BLe.box ?_)
      · (repeat' first | ((conv => whnf); first | exact trivial | refine And.intro ?_ ?_ | exact BLe.refl _ | exact VLe.refl _) | exact trivial | exact rfl | refine And.intro ?_ ?_ | exact BLe.refl _ | exact VLe.refl _ | exact VLe.any _ | exact VLe.nil_osl rfl | exact VLe.nil_sl rfl | exact VLe.built rfl rfl | (refine VLe.osl rfl ?_; (first | rfl | (simp; done) | assumption | (simp [dsub_eq] <;> omega) | omega)) | exact VLe.rows (by first | rfl | (simp; done) | assumption | (simp [dsub_eq] <;> omega) | omega) (fun _ _ => rfl) | exact VLe.rows (by simp [dsub_eq] <;> omega) rows_take | exact VLe.rows (by simp [dsub_eq] <;> omega) rows_dt | exact VLe.rows (by simp [dsub_eq] <;> omega) rows_vt | exact VLe.rows (by simp) (fun i _ => by simp [viewRow_eq, Nat.add_comm]) | refine VLe.aggL ?_ | (refine BLe.rows rfl ?_ fun _ _ => rfl; (first | rfl | (simp; done) | assumption | (simp [dsub_eq] <;> omega) | omega)) | refine BLe.box ?_ | (simp; done))
      · (repeat' first | ((conv => whnf); first | exact trivial | refine And.intro ?_ ?_ | exact BLe.refl _ | exact VLe.refl _) | exact trivial | exact rfl | refine And.intro ?_ ?_ | exact BLe.refl _ | exact VLe.refl _ | exact VLe.any _ | exact VLe.nil_osl rfl | exact VLe.nil_sl rfl | exact VLe.built rfl rfl | (refine VLe.osl rfl ?_; (first | rfl | (simp; done) | assumption | (simp [dsub_eq] <;> omega) | omega)) | exact VLe.rows (by first | rfl | (simp; done) | assumption | (simp [dsub_eq] <;> omega) | omega) (fun _ _ => rfl) | exact VLe.rows (by simp [dsub_eq] <;> omega) rows_take | exact VLe.rows (by simp [dsub_eq] <;> omega) rows_dt | exact VLe.rows (by simp [dsub_eq] <;> omega) rows_vt | exact VLe.rows (by simp) (fun i _ => by simp [viewRow_eq, Nat.add_comm]) | refine VLe.aggL ?_ | (refine BLe.rows rfl ?_ fun _ _ => rfl; (first | rfl | (simp; done) | assumption | (simp [dsub_eq] <;> omega) | omega)) | refine BLe.box ?_ | (simp; done))
    · replace h := ite_f h e; clear e
      conv => whnf
      obtain rfl := Option.some.inj h
      refine ⟨⟨0, 61, [(4, .ref 4 0 0)], [], [(4, .box 30 [.d (.int .i64 x4.1), .d (.int .i64 x4.2.1), .d (.int .i64 x4.2.2.1)]), (9000, .box 79 [.d (slD encByte a0.b), .d (.int .i64 x13.2.p)])], [⟨[(0, .ref 9000 0 0)], []⟩]⟩, ?_, And.intro rfl (And.intro ?_ ?_)⟩
      · refine le_mk ?_ ?_ ?_ <;> (repeat' first | ((conv => whnf); first | exact trivial | refine And.intro ?_ ?_ | exact BLe.refl _ | exact VLe.refl _) | exact trivial | exact rfl | refine And.intro ?_ ?_ | exact BLe.refl _ | exact VLe.refl _ | exact VLe.any _ | exact VLe.nil_osl rfl | exact VLe.nil_sl rfl | exact VLe.built rfl rfl | (refine VLe.osl rfl ?_; (first | rfl | (simp; done) | assumption | (simp [dsub_eq] <;> omega) | omega)) | exact VLe.rows (by first | rfl | (simp; done) | assumption | (simp [dsub_eq] <;> omega) | omega) (fun _ _ => rfl) | exact VLe.rows (by simp [dsub_eq] <;> omega) rows_take | exact VLe.rows (by simp [dsub_eq] <;> omega) rows_dt | exact VLe.rows (by simp [dsub_eq] <;> omega) rows_vt | exact VLe.rows (by simp) (fun i _ => by simp [viewRow_eq, Nat.add_comm]) | refine VLe.aggL ?_ | (refine BLe.rows rfl ?_ fun _ _ => rfl; (first | rfl | (simp; done) | assumption | (simp [dsub_eq] <;> omega) | omega)) | (refine BLe.rows rfl rfl ?_; first | exact rows_take) | refine BLe.box ?_)
      · (repeat' first | ((conv => whnf); first | exact trivial | refine And.intro ?_ ?_ | exact BLe.refl _ | exact VLe.refl _) | exact trivial | exact rfl | refine And.intro ?_ ?_ | exact BLe.refl _ | exact VLe.refl _ | exact VLe.any _ | exact VLe.nil_osl rfl | exact VLe.nil_sl rfl | exact VLe.built rfl rfl | (refine VLe.osl rfl ?_; (first | rfl | (simp; done) | assumption | (simp [dsub_eq] <;> omega) | omega)) | exact VLe.rows (by first | rfl | (simp; done) | assumption | (simp [dsub_eq] <;> omega) | omega) (fun _ _ => rfl) | exact VLe.rows (by simp [dsub_eq] <;> omega) rows_take | exact VLe.rows (by simp [dsub_eq] <;> omega) rows_dt | exact VLe.rows (by simp [dsub_eq] <;> omega) rows_vt | exact VLe.rows (by simp) (fun i _ => by simp [viewRow_eq, Nat.add_comm]) | refine VLe.aggL ?_ | (refine BLe.rows rfl ?_ fun _ _ => rfl; (first | rfl | (simp; done) | assumption | (simp [dsub_eq] <;> omega) | omega)) | refine BLe.box ?_ | (simp; done))
      · (repeat' first | ((conv => whnf); first | exact trivial | refine And.intro ?_ ?_ | exact BLe.refl _ | exact VLe.refl _) | exact trivial | exact rfl | refine And.intro ?_ ?_ | exact BLe.refl _ | exact VLe.refl _ | exact VLe.any _ | exact VLe.nil_osl rfl | exact VLe.nil_sl rfl | exact VLe.built rfl rfl | (refine VLe.osl rfl ?_; (first | rfl | (simp; done) | assumption | (simp [dsub_eq] <;> omega) | omega)) | exact VLe.rows (by first | rfl | (simp; done) | assumption | (simp [dsub_eq] <;> omega) | omega) (fun _ _ => rfl) | exact VLe.rows (by simp [dsub_eq] <;> omega) rows_take | exact VLe.rows (by simp [dsub_eq] <;> omega) rows_dt | exact VLe.rows (by simp [dsub_eq] <;> omega) rows_vt | exact VLe.rows (by simp) (fun i _ => by simp [viewRow_eq, Nat.add_comm]) | refine VLe.aggL ?_ | (refine BLe.rows rfl ?_ fun _ _ => rfl; (first | rfl | (simp; done) | assumption | (simp [dsub_eq] <;> omega) | omega)) | refine BLe.box ?_ | (simp; done))

end Go.Proofs.Ytjpfiaejakidnaa
