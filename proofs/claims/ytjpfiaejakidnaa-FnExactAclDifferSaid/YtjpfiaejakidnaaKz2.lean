/-
  What some of the program's functions compute: their models, and that the functions compute these; no condition.
-/
import Derived.Test.YtjpfiaejakidnaaTyz
import Derived.Test.YtjpfiaejakidnaaTbz
import Derived.Test.YtjpfiaejakidnaaLayz
import Derived.Test.YtjpfiaejakidnaaKz1
set_option linter.all false
namespace Go.Proofs.Ytjpfiaejakidnaa
open Go Go.Ab
set_option maxRecDepth 100000
set_option maxHeartbeats 4000000
noncomputable def impl_AclOk_m (a0 : (List AclRule)) : Option (Bool) :=
 bd (lp (σ := Int) (β := (Unit ⊕ Unit)) (fun s1 =>
(if (decide (s1 < ((a0.length : Nat) : Int))) = true then
 gd ((0 : Int) ≤ s1 ∧ s1 < ((a0.length : Nat) : Int)) <|
 bd (impl_NetOk_m ((a0.getD s1.toNat default).From)) fun x6 =>
 bd (gcall ((!x6) = false) (impl_NetOk_m ((a0.getD s1.toNat default).To))) fun x7 =>
 bd (gcall (((!x6) || (!x7)) = false) (impl_within_m ((a0.getD s1.toNat default).Kind) 0 7)) fun x8 =>
(if (((!x6) || (!x7)) || (!x8)) = true then
 some (.inr (.inl ()))
else
 some (.inl (IntKind.i64.wrap (s1 + 1))))
else
 some (.inr (.inr ())))) 0) fun x4 =>
(match x4 with
| .inl d9 =>
 some false
| .inr d10 =>
 some (decide (((a0.length : Nat) : Int) ≤ 12)))

theorem impl_AclOk_c {a0 : (List AclRule)} {r : Bool} (h : impl_AclOk_m a0 = some r) : PureC Try.prog 29 [.d (slD AclRule.enc a0)] (.d (.bool r)) [] := by
  refine pureC_m tOk (fn := Try.f29) (c := codeOf Try.f29) rfl rfl (by kernel_rfl) rfl rfl (by simp) (by simp) (ids_of rfl) ?_
  unfold impl_AclOk_m at h
  conv => whnf
  refine seq_in tOk ?_
  conv => whnf
  obtain ⟨x4, hx4, h⟩ := bd_some h
  refine loop_m tOk hx4 (fun s1 => ⟨0, 31, [(0, .d (slD AclRule.enc a0)), (5, .d (slD AclRule.enc a0)), (6, .d (.int .i64 ((a0.length : Nat) : Int))), (7, .d (.int .i64 s1))], [], [], []⟩) ?_ ?_
  · refine le_mk ?_ ?_ ?_ <;> (repeat' first | ((conv => whnf); first | exact trivial | refine And.intro ?_ ?_ | exact BLe.refl _ | exact VLe.refl _) | exact trivial | exact rfl | refine And.intro ?_ ?_ | exact BLe.refl _ | exact VLe.refl _ | exact VLe.any _ | exact VLe.nil_osl rfl | exact VLe.nil_sl rfl | exact VLe.built rfl rfl | (refine VLe.osl rfl ?_; (first | rfl | (simp; done) | assumption | (simp [dsub_eq] <;> omega) | omega)) | exact VLe.rows (by first | rfl | (simp; done) | assumption | (simp [dsub_eq] <;> omega) | omega) (fun _ _ => rfl) | exact VLe.rows (by simp [dsub_eq] <;> omega) rows_take | exact VLe.rows (by simp [dsub_eq] <;> omega) rows_dt | exact VLe.rows (by simp [dsub_eq] <;> omega) rows_vt | exact VLe.rows (by simp) (fun i _ => by simp [viewRow_eq, Nat.add_comm]) | refine VLe.aggL ?_ | (refine BLe.rows rfl ?_ fun _ _ => rfl; (first | rfl | (simp; done) | assumption | (simp [dsub_eq] <;> omega) | omega)) | (refine BLe.rows rfl rfl ?_; first | exact rows_take) | refine BLe.box ?_)
  · clear hx4
    intro s1 y2 g3 hy2
    conv => whnf
    refine seq_in tOk ?_
    conv => whnf
    refine And.intro (fun e => ?_) (fun e => ?_)
    · replace g3 := ite_t g3 e; clear e
      conv => whnf
      refine seq_in tOk ?_
      conv => whnf
      obtain ⟨g5, g3⟩ := gd_some g3
      refine And.intro g5 ?_
      clear g5
      conv => whnf
      obtain ⟨x6, hx6, g3⟩ := bd_some g3
      refine callC 0 (impl_NetOk_c hx6) (by kernel_rfl) (by kernel_rfl) ?_
      clear hx6
      conv => whnf
      obtain ⟨x7, hx7, g3⟩ := bd_some g3
      refine callG_m rfl rfl rfl rfl rfl rfl (by intro c0; exact impl_NetOk_c (gcall_some hx7 c0)) ?_
      conv => whnf
      obtain ⟨x8, hx8, g3⟩ := bd_some g3
      refine callG_m rfl rfl rfl rfl rfl rfl (by intro c0; exact impl_within_c (gcall_some hx8 c0)) ?_
      conv => whnf
      refine And.intro (fun e => ?_) (fun e => ?_)
      · replace g3 := ite_t g3 e; clear e
        conv => whnf
        obtain rfl := Option.some.inj g3
        obtain rfl := hy2 _ rfl
        obtain rfl := Option.some.inj h
        exact ⟨_, LE.refl _, And.intro rfl trivial⟩
      · replace g3 := ite_f g3 e; clear e
        conv => whnf
        obtain rfl := Option.some.inj g3
        refine ⟨_, rfl, le_mk ?_ ?_ ?_⟩ <;> (repeat' first | ((conv => whnf); first | exact trivial | refine And.intro ?_ ?_ | exact BLe.refl _ | exact VLe.refl _) | exact trivial | exact rfl | refine And.intro ?_ ?_ | exact BLe.refl _ | exact VLe.refl _ | exact VLe.any _ | exact VLe.nil_osl rfl | exact VLe.nil_sl rfl | exact VLe.built rfl rfl | (refine VLe.osl rfl ?_; (first | rfl | (simp; done) | assumption | (simp [dsub_eq] <;> omega) | omega)) | exact VLe.rows (by first | rfl | (simp; done) | assumption | (simp [dsub_eq] <;> omega) | omega) (fun _ _ => rfl) | exact VLe.rows (by simp [dsub_eq] <;> omega) rows_take | exact VLe.rows (by simp [dsub_eq] <;> omega) rows_dt | exact VLe.rows (by simp [dsub_eq] <;> omega) rows_vt | exact VLe.rows (by simp) (fun i _ => by simp [viewRow_eq, Nat.add_comm]) | refine VLe.aggL ?_ | (refine BLe.rows rfl ?_ fun _ _ => rfl; (first | rfl | (simp; done) | assumption | (simp [dsub_eq] <;> omega) | omega)) | (refine BLe.rows rfl rfl ?_; first | exact rows_take) | refine BLe.box ?_)
    · replace g3 := ite_f g3 e; clear e
      conv => whnf
      obtain rfl := Option.some.inj g3
      obtain rfl := hy2 _ rfl
      obtain rfl := Option.some.inj h
      exact ⟨_, LE.refl _, And.intro rfl trivial⟩

noncomputable def impl_clone_AclRule_m (a0 : (List AclRule)) : Option ((List AclRule)) :=
 gd ((0 : Int) ≤ 0 ∧ 0 ≤ ((a0.length : Nat) : Int) ∧ ((a0.length : Nat) : Int) * 48 ≤ 140737488355328 ∧ ((a0.length : Nat) : Int) ≤ 140737488355328) <|
 gd ((((List.replicate (0 : Int).toNat (default : AclRule)).length) + (a0.length)) * (48 + 1) ≤ 70368744177664) <|
 some ((List.replicate (0 : Int).toNat (default : AclRule)) ++ a0)

theorem impl_clone_AclRule_c {a0 : (List AclRule)} {r : (List AclRule)} (h : impl_clone_AclRule_m a0 = some r) : PureC Try.prog 44 [.d (slD AclRule.enc a0)] (.osl 5001 0 r.length) [⟨5001, 41, 6, r.length, rows AclRule.enc r⟩] := by
  refine pureC_m tOk (fn := Try.f44) (c := codeOf Try.f44) rfl rfl (by kernel_rfl) rfl rfl (by simp [atomD]) (by simp) (ids_of rfl) ?_
  unfold impl_clone_AclRule_m at h
  conv => whnf
  obtain ⟨g2, h⟩ := gd_some h
  refine And.intro g2 ?_
  clear g2
  refine ⟨(List.replicate (0 : Int).toNat (default : AclRule)).length, rows AclRule.enc (List.replicate (0 : Int).toNat (default : AclRule)), by simp, make_rows rfl, ?_⟩
  conv => whnf
  obtain ⟨g1, h⟩ := gd_some h
  refine And.intro g1 ?_
  clear g1
  refine ⟨((List.replicate (0 : Int).toNat (default : AclRule)) ++ a0).length, rows AclRule.enc ((List.replicate (0 : Int).toNat (default : AclRule)) ++ a0), (by first | rfl | (simp; done) | assumption | (simp [dsub_eq] <;> omega) | omega), (by first | exact app_rows (m := a0.length) (by first | rfl | (simp; done) | assumption | (simp [dsub_eq] <;> omega) | omega) (by first | rfl | (simp; done) | assumption | (simp [dsub_eq] <;> omega) | omega) (fun _ _ => rfl) (fun _ _ => rfl) | exact app_rows0 (m := a0.length) (by first | rfl | (simp; done) | assumption | (simp [dsub_eq] <;> omega) | omega) (fun _ _ => rfl) | exact app_rows (m := a0.length) (by first | rfl | (simp; done) | assumption | (simp [dsub_eq] <;> omega) | omega) (by first | rfl | (simp; done) | assumption | (simp [dsub_eq] <;> omega) | omega) (by first | exact fun _ _ => rfl | exact rows_take | (intro i hi; simp only [viewRow_eq, addOff_eq, Int.toNat_zero, Nat.zero_add, Nat.add_zero]; exact rows_take i hi) | exact rows_vt | exact rows_dt | (intro i hi; simp only [viewRow_eq, Nat.zero_add]) | (intro i hi; simp [viewRow_eq])) (by first | exact fun _ _ => rfl | exact rows_take | (intro i hi; simp only [viewRow_eq, addOff_eq, Int.toNat_zero, Nat.zero_add, Nat.add_zero]; exact rows_take i hi) | exact rows_vt | exact rows_dt | (intro i hi; simp only [viewRow_eq, Nat.zero_add]) | (intro i hi; simp [viewRow_eq])) | exact app_rows0 (m := a0.length) (by first | rfl | (simp; done) | assumption | (simp [dsub_eq] <;> omega) | omega) (by first | exact fun _ _ => rfl | exact rows_take | (intro i hi; simp only [viewRow_eq, addOff_eq, Int.toNat_zero, Nat.zero_add, Nat.add_zero]; exact rows_take i hi) | exact rows_vt | exact rows_dt | (intro i hi; simp only [viewRow_eq, Nat.zero_add]) | (intro i hi; simp [viewRow_eq]))), ?_⟩
  conv => whnf
  obtain rfl := Option.some.inj h
  refine ⟨⟨0, 8, [(2, .osl 5001 0 (((List.replicate (0 : Int).toNat (default : AclRule)) ++ a0).length))], [], [(5001, .arr 41 6 (((List.replicate (0 : Int).toNat (default : AclRule)) ++ a0).length) (rows AclRule.enc ((List.replicate (0 : Int).toNat (default : AclRule)) ++ a0)))], []⟩, ?_, And.intro rfl ?_⟩
  · refine LE.trans (S' := ⟨0, 8, [(2, .osl 5 0 (((List.replicate (0 : Int).toNat (default : AclRule)) ++ a0).length))], [], [(5, .arr 41 6 (((List.replicate (0 : Int).toNat (default : AclRule)) ++ a0).length) (rows AclRule.enc ((List.replicate (0 : Int).toNat (default : AclRule)) ++ a0)))], []⟩) (le_mk ?_ ?_ ?_) (le_swaps [(5, 5001)] rfl) <;> (repeat' first | ((conv => whnf); first | exact trivial | refine And.intro ?_ ?_ | exact BLe.refl _ | exact VLe.refl _) | exact trivial | exact rfl | refine And.intro ?_ ?_ | exact BLe.refl _ | exact VLe.refl _ | exact VLe.any _ | exact VLe.nil_osl rfl | exact VLe.nil_sl rfl | exact VLe.built rfl rfl | (refine VLe.osl rfl ?_; (first | rfl | (simp; done) | assumption | (simp [dsub_eq] <;> omega) | omega)) | exact VLe.rows (by first | rfl | (simp; done) | assumption | (simp [dsub_eq] <;> omega) | omega) (fun _ _ => rfl) | exact VLe.rows (by simp [dsub_eq] <;> omega) rows_take | exact VLe.rows (by simp [dsub_eq] <;> omega) rows_dt | exact VLe.rows (by simp [dsub_eq] <;> omega) rows_vt | exact VLe.rows (by simp) (fun i _ => by simp [viewRow_eq, Nat.add_comm]) | refine VLe.aggL ?_ | (refine BLe.rows rfl ?_ fun _ _ => rfl; (first | rfl | (simp; done) | assumption | (simp [dsub_eq] <;> omega) | omega)) | (refine BLe.rows rfl rfl ?_; first | exact rows_take) | refine BLe.box ?_)
  · exact And.intro (And.intro rfl (And.intro rfl (fun _ _ => rfl))) (trivial)

noncomputable def impl_least_1_m (a0 : AclRule) : Option (NetPrefix) :=
 some a0.To

theorem impl_least_1_c {a0 : AclRule} {r : NetPrefix} (h : impl_least_1_m a0 = some r) : PureC Try.prog 65 [.agg [.d (.bool a0.Permit), .d (.int .i64 a0.From.Addr), .d (.int .i64 a0.From.Len), .d (.int .i64 a0.To.Addr), .d (.int .i64 a0.To.Len), .d (.int .i64 a0.Kind)]] (.agg [.d (.int .i64 r.Addr), .d (.int .i64 r.Len)]) [] := by
  refine pureC_m tOk (fn := Try.f65) (c := codeOf Try.f65) rfl rfl (by kernel_rfl) rfl rfl (by simp) (by simp) (ids_of rfl) ?_
  unfold impl_least_1_m at h
  conv => whnf
  obtain rfl := Option.some.inj h
  exact ⟨_, LE.refl _, And.intro rfl trivial⟩

noncomputable def impl_NetPrefix_last_m (a0 : NetPrefix) : Option (Int) :=
 bd (impl_NetPrefix_size_m a0) fun x1 =>
 some (IntKind.i64.wrap ((IntKind.i64.wrap (a0.Addr + x1)) - 1))

theorem impl_NetPrefix_last_c {a0 : NetPrefix} {r : Int} (h : impl_NetPrefix_last_m a0 = some r) : PureC Try.prog 73 [.agg [.d (.int .i64 a0.Addr), .d (.int .i64 a0.Len)]] (.d (.int .i64 r)) [] := by
  refine pureC_m tOk (fn := Try.f73) (c := codeOf Try.f73) rfl rfl (by kernel_rfl) rfl rfl (by simp) (by simp) (ids_of rfl) ?_
  unfold impl_NetPrefix_last_m at h
  conv => whnf
  obtain ⟨x1, hx1, h⟩ := bd_some h
  refine draw_k tOk (by kernel_rfl) (fun j => match j with | 3 => some (.pure 0 (.d (.int .i64 x1)) []) | _ => none) 7 [] [[], [true], [], [false, false, true], [true, true, true, true], [true, true, true, true, true], [true, true, true, true, true, true]] [] (by decide) (by kernel_rfl) (by kernel_rfl) ?_
  conv => whnf
  refine And.intro (callD_any (impl_NetPrefix_size_c hx1) (by kernel_rfl)) ?_
  conv => whnf
  refine And.intro (by kernel_rfl) ?_
  conv => whnf
  obtain rfl := Option.some.inj h
  exact ⟨_, LE.refl _, And.intro rfl trivial⟩

noncomputable def slices_Sort_int_int_m (a0 : (List Int)) : Option ((List Int)) :=
 gd (a0.length < 4611686018427387904) <|
 some (a0.mergeSort fun x y => decide (x ≤ y))

theorem slices_Sort_int_int_c {a0 : (List Int)} {r : (List Int)} (h : slices_Sort_int_int_m a0 = some r) : EffC Try.prog 74 [.osl 9000 0 a0.length] [(9000, .arr 3 1 a0.length (rows encInt a0))] (.tup []) [(9000, .arr 3 1 a0.length (rows encInt r))] := by
  unfold slices_Sort_int_int_m at h
  obtain ⟨g, h⟩ := gd_some h
  obtain rfl := Option.some.inj h
  exact effC_row (e1 := Value.int .i64) (ed := D.int .i64) DR_int (List.length_mergeSort _) (callable_of (fn := Try.f74) (c := codeOf Try.f74) rfl rfl (by kernel_rfl)) (fun blk off cap w hH hb => AnyM.slices_Sort_int Lay.srt blk off cap a0 w hH hb g) (fun p cap w => AnyM.slices_Sort_int_none Lay.srt p cap w)

noncomputable def slices_Compact_int_int_m (a0 : (List Int)) : Option ((List Int)) :=
 gd (a0.length ≤ 9223372036854775807) <|
 some (Lib.compact a0)

theorem slices_Compact_int_int_c {a0 : (List Int)} {r : (List Int)} (h : slices_Compact_int_int_m a0 = some r) : EffC Try.prog 75 [.osl 9000 0 a0.length] [(9000, .arr 3 1 a0.length (rows encInt a0))] (.osl 5001 0 r.length) [(5001, .arr 3 1 r.length (rows encInt r))] := by
  unfold slices_Compact_int_int_m at h
  obtain ⟨g, h⟩ := gd_some h
  obtain rfl := Option.some.inj h
  exact effC_cut (e1 := Value.int .i64) (ed := D.int .i64) (full := Lib.compact a0 ++ List.replicate (a0.length - (Lib.compact a0).length) 0) DR_int compact_len (by have := @compact_len a0; simp; omega) (fun i hi => by simp [List.getD_eq_getElem?_getD, List.getElem?_append_left hi]) (callable_of (fn := Try.f75) (c := codeOf Try.f75) rfl rfl (by kernel_rfl)) (fun blk off cap w hH hb hc => AnyG.slices_Compact_int Lay.cmpt blk off cap a0 w hH g hc) (fun p cap w => AnyG.slices_Compact_int_empty Lay.cmpt p cap w)

noncomputable def impl_edges_impl_least_1_m (a0 : (List AclRule)) : Option ((List Int)) :=
 bd (lp (σ := List Int × Int) (β := (Nat × (List Int))) (fun s1 =>
(if (decide (s1.2 < ((a0.length : Nat) : Int))) = true then
 gd ((0 : Int) ≤ s1.2 ∧ s1.2 < ((a0.length : Nat) : Int)) <|
 bd (impl_least_1_m ({ (a0.getD s1.2.toNat default) with From := ((a0.getD s1.2.toNat default).From), To := ((a0.getD s1.2.toNat default).To) })) fun x6 =>
 gd (((s1.1.length) + (([x6.Addr] : List Int).length)) * (8 + 1) ≤ 70368744177664) <|
 bd (impl_NetPrefix_last_m x6) fun x7 =>
(if (decide (x7 < 65535)) = true then
 bd (impl_NetPrefix_last_m x6) fun x8 =>
 gd ((((s1.1 ++ ([x6.Addr] : List Int)).length) + (([IntKind.i64.wrap (x8 + 1)] : List Int).length)) * (8 + 1) ≤ 70368744177664) <|
 some (.inl (((s1.1 ++ ([x6.Addr] : List Int)) ++ ([IntKind.i64.wrap (x8 + 1)] : List Int)), IntKind.i64.wrap (s1.2 + 1)))
else
 some (.inl ((s1.1 ++ ([x6.Addr] : List Int)), IntKind.i64.wrap (s1.2 + 1))))
else
 some (.inr (s1.1.length, s1.1)))) (([0] : List Int), 0)) fun x4 =>
 bd (slices_Sort_int_int_m x4.2) fun x12 =>
 gd (x12.length = x4.1) <|
 bd (slices_Compact_int_int_m x12) fun x13 =>
 some x13

theorem impl_edges_impl_least_1_c {a0 : (List AclRule)} {r : (List Int)} (h : impl_edges_impl_least_1_m a0 = some r) : PureC Try.prog 64 [.d (slD AclRule.enc a0), .fn 65 []] (.osl 5001 0 r.length) [⟨5001, 3, 1, r.length, rows encInt r⟩] := by
  refine pureC_m tOk (fn := Try.f64) (c := codeOf Try.f64) rfl rfl (by kernel_rfl) rfl rfl (by simp [atomD]) (by simp) (ids_of rfl) ?_
  unfold impl_edges_impl_least_1_m at h
  conv => whnf
  refine ⟨([0] : List Int).length, rows encInt ([0] : List Int), rfl, build_rows, ?_⟩
  conv => whnf
  refine seq_in tOk ?_
  conv => whnf
  obtain ⟨x4, hx4, h⟩ := bd_some h
  refine loop_m tOk hx4 (fun s1 => ⟨0, 38, [(1, .fn 65 []), (5, .osl 9 0 s1.1.length), (10, .d (slD AclRule.enc a0)), (11, .d (.int .i64 ((a0.length : Nat) : Int))), (12, .d (.int .i64 s1.2))], [], [(9, .arr 3 1 s1.1.length (rows encInt s1.1))], []⟩) ?_ ?_
  · refine le_mk ?_ ?_ ?_ <;> (repeat' first | ((conv => whnf); first | exact trivial | refine And.intro ?_ ?_ | exact BLe.refl _ | exact VLe.refl _) | exact trivial | exact rfl | refine And.intro ?_ ?_ | exact BLe.refl _ | exact VLe.refl _ | exact VLe.any _ | exact VLe.nil_osl rfl | exact VLe.nil_sl rfl | exact VLe.built rfl rfl | (refine VLe.osl rfl ?_; (first | rfl | (simp; done) | assumption | (simp [dsub_eq] <;> omega) | omega)) | exact VLe.rows (by first | rfl | (simp; done) | assumption | (simp [dsub_eq] <;> omega) | omega) (fun _ _ => rfl) | exact VLe.rows (by simp [dsub_eq] <;> omega) rows_take | exact VLe.rows (by simp [dsub_eq] <;> omega) rows_dt | exact VLe.rows (by simp [dsub_eq] <;> omega) rows_vt | exact VLe.rows (by simp) (fun i _ => by simp [viewRow_eq, Nat.add_comm]) | refine VLe.aggL ?_ | (refine BLe.rows rfl ?_ fun _ _ => rfl; (first | rfl | (simp; done) | assumption | (simp [dsub_eq] <;> omega) | omega)) | (refine BLe.rows rfl rfl ?_; first | exact rows_take) | refine BLe.box ?_)
  · clear hx4
    intro s1 y2 g3 hy2
    conv => whnf
    refine seq_in tOk ?_
    conv => whnf
    refine And.intro (fun e => ?_) (fun e => ?_)
    · replace g3 := ite_t g3 e; clear e
      conv => whnf
      refine seq_in tOk ?_
      conv => whnf
      obtain ⟨g5, g3⟩ := gd_some g3
      refine And.intro g5 ?_
      clear g5
      conv => whnf
      obtain ⟨x6, hx6, g3⟩ := bd_some g3
      refine callC 0 (impl_least_1_c hx6) (by kernel_rfl) (by kernel_rfl) ?_
      clear hx6
      conv => whnf
      refine ⟨([x6.Addr] : List Int).length, rows encInt ([x6.Addr] : List Int), rfl, build_rows, ?_⟩
      conv => whnf
      obtain ⟨g10, g3⟩ := gd_some g3
      refine And.intro g10 ?_
      clear g10
      refine ⟨(s1.1 ++ ([x6.Addr] : List Int)).length, rows encInt (s1.1 ++ ([x6.Addr] : List Int)), (by first | rfl | (simp; done) | assumption | (simp [dsub_eq] <;> omega) | omega), (by first | exact app_rows (m := ([x6.Addr] : List Int).length) (by first | rfl | (simp; done) | assumption | (simp [dsub_eq] <;> omega) | omega) (by first | rfl | (simp; done) | assumption | (simp [dsub_eq] <;> omega) | omega) (fun _ _ => rfl) (fun _ _ => rfl) | exact app_rows0 (m := ([x6.Addr] : List Int).length) (by first | rfl | (simp; done) | assumption | (simp [dsub_eq] <;> omega) | omega) (fun _ _ => rfl) | exact app_rows (m := ([x6.Addr] : List Int).length) (by first | rfl | (simp; done) | assumption | (simp [dsub_eq] <;> omega) | omega) (by first | rfl | (simp; done) | assumption | (simp [dsub_eq] <;> omega) | omega) (by first | exact fun _ _ => rfl | exact rows_take | (intro i hi; simp only [viewRow_eq, addOff_eq, Int.toNat_zero, Nat.zero_add, Nat.add_zero]; exact rows_take i hi) | exact rows_vt | exact rows_dt | (intro i hi; simp only [viewRow_eq, Nat.zero_add]) | (intro i hi; simp [viewRow_eq])) (by first | exact fun _ _ => rfl | exact rows_take | (intro i hi; simp only [viewRow_eq, addOff_eq, Int.toNat_zero, Nat.zero_add, Nat.add_zero]; exact rows_take i hi) | exact rows_vt | exact rows_dt | (intro i hi; simp only [viewRow_eq, Nat.zero_add]) | (intro i hi; simp [viewRow_eq])) | exact app_rows0 (m := ([x6.Addr] : List Int).length) (by first | rfl | (simp; done) | assumption | (simp [dsub_eq] <;> omega) | omega) (by first | exact fun _ _ => rfl | exact rows_take | (intro i hi; simp only [viewRow_eq, addOff_eq, Int.toNat_zero, Nat.zero_add, Nat.add_zero]; exact rows_take i hi) | exact rows_vt | exact rows_dt | (intro i hi; simp only [viewRow_eq, Nat.zero_add]) | (intro i hi; simp [viewRow_eq]))), ?_⟩
      conv => whnf
      obtain ⟨x7, hx7, g3⟩ := bd_some g3
      refine callC 0 (impl_NetPrefix_last_c hx7) (by kernel_rfl) (by kernel_rfl) ?_
      clear hx7
      conv => whnf
      refine And.intro (fun e => ?_) (fun e => ?_)
      · replace g3 := ite_t g3 e; clear e
        conv => whnf
        obtain ⟨x8, hx8, g3⟩ := bd_some g3
        refine callC 0 (impl_NetPrefix_last_c hx8) (by kernel_rfl) (by kernel_rfl) ?_
        clear hx8
        conv => whnf
        refine ⟨([IntKind.i64.wrap (x8 + 1)] : List Int).length, rows encInt ([IntKind.i64.wrap (x8 + 1)] : List Int), rfl, build_rows, ?_⟩
        conv => whnf
        obtain ⟨g9, g3⟩ := gd_some g3
        refine And.intro g9 ?_
        clear g9
        refine ⟨((s1.1 ++ ([x6.Addr] : List Int)) ++ ([IntKind.i64.wrap (x8 + 1)] : List Int)).length, rows encInt ((s1.1 ++ ([x6.Addr] : List Int)) ++ ([IntKind.i64.wrap (x8 + 1)] : List Int)), (by first | rfl | (simp; done) | assumption | (simp [dsub_eq] <;> omega) | omega), (by first | exact app_rows (m := ([IntKind.i64.wrap (x8 + 1)] : List Int).length) (by first | rfl | (simp; done) | assumption | (simp [dsub_eq] <;> omega) | omega) (by first | rfl | (simp; done) | assumption | (simp [dsub_eq] <;> omega) | omega) (fun _ _ => rfl) (fun _ _ => rfl) | exact app_rows0 (m := ([IntKind.i64.wrap (x8 + 1)] : List Int).length) (by first | rfl | (simp; done) | assumption | (simp [dsub_eq] <;> omega) | omega) (fun _ _ => rfl) | exact app_rows (m := ([IntKind.i64.wrap (x8 + 1)] : List Int).length) (by first | rfl | (simp; done) | assumption | (simp [dsub_eq] <;> omega) | omega) (by first | rfl | (simp; done) | assumption | (simp [dsub_eq] <;> omega) | omega) (by first | exact fun _ _ => rfl | exact rows_take | (intro i hi; simp only [viewRow_eq, addOff_eq, Int.toNat_zero, Nat.zero_add, Nat.add_zero]; exact rows_take i hi) | exact rows_vt | exact rows_dt | (intro i hi; simp only [viewRow_eq, Nat.zero_add]) | (intro i hi; simp [viewRow_eq])) (by first | exact fun _ _ => rfl | exact rows_take | (intro i hi; simp only [viewRow_eq, addOff_eq, Int.toNat_zero, Nat.zero_add, Nat.add_zero]; exact rows_take i hi) | exact rows_vt | exact rows_dt | (intro i hi; simp only [viewRow_eq, Nat.zero_add]) | (intro i hi; simp [viewRow_eq])) | exact app_rows0 (m := ([IntKind.i64.wrap (x8 + 1)] : List Int).length) (by first | rfl | (simp; done) | assumption | (simp [dsub_eq] <;> omega) | omega) (by first | exact fun _ _ => rfl | exact rows_take | (intro i hi; simp only [viewRow_eq, addOff_eq, Int.toNat_zero, Nat.zero_add, Nat.add_zero]; exact rows_take i hi) | exact rows_vt | exact rows_dt | (intro i hi; simp only [viewRow_eq, Nat.zero_add]) | (intro i hi; simp [viewRow_eq]))), ?_⟩
        conv => whnf
        obtain rfl := Option.some.inj g3
        refine ⟨_, rfl, le_mk ?_ ?_ ?_⟩ <;> (repeat' first | ((conv => whnf); first | exact trivial | refine And.intro ?_ ?_ | exact BLe.refl _ | exact VLe.refl _) | exact trivial | exact rfl | refine And.intro ?_ ?_ | exact BLe.refl _ | exact VLe.refl _ | exact VLe.any _ | exact VLe.nil_osl rfl | exact VLe.nil_sl rfl | exact VLe.built rfl rfl | (refine VLe.osl rfl ?_; (first | rfl | (simp; done) | assumption | (simp [dsub_eq] <;> omega) | omega)) | exact VLe.rows (by first | rfl | (simp; done) | assumption | (simp [dsub_eq] <;> omega) | omega) (fun _ _ => rfl) | exact VLe.rows (by simp [dsub_eq] <;> omega) rows_take | exact VLe.rows (by simp [dsub_eq] <;> omega) rows_dt | exact VLe.rows (by simp [dsub_eq] <;> omega) rows_vt | exact VLe.rows (by simp) (fun i _ => by simp [viewRow_eq, Nat.add_comm]) | refine VLe.aggL ?_ | (refine BLe.rows rfl ?_ fun _ _ => rfl; (first | rfl | (simp; done) | assumption | (simp [dsub_eq] <;> omega) | omega)) | (refine BLe.rows rfl rfl ?_; first | exact rows_take) | refine BLe.box ?_)
      · replace g3 := ite_f g3 e; clear e
        conv => whnf
        obtain rfl := Option.some.inj g3
        refine ⟨_, rfl, le_mk ?_ ?_ ?_⟩ <;> (repeat' first | ((conv => whnf); first | exact trivial | refine And.intro ?_ ?_ | exact BLe.refl _ | exact VLe.refl _) | exact trivial | exact rfl | refine And.intro ?_ ?_ | exact BLe.refl _ | exact VLe.refl _ | exact VLe.any _ | exact VLe.nil_osl rfl | exact VLe.nil_sl rfl | exact VLe.built rfl rfl | (refine VLe.osl rfl ?_; (first | rfl | (simp; done) | assumption | (simp [dsub_eq] <;> omega) | omega)) | exact VLe.rows (by first | rfl | (simp; done) | assumption | (simp [dsub_eq] <;> omega) | omega) (fun _ _ => rfl) | exact VLe.rows (by simp [dsub_eq] <;> omega) rows_take | exact VLe.rows (by simp [dsub_eq] <;> omega) rows_dt | exact VLe.rows (by simp [dsub_eq] <;> omega) rows_vt | exact VLe.rows (by simp) (fun i _ => by simp [viewRow_eq, Nat.add_comm]) | refine VLe.aggL ?_ | (refine BLe.rows rfl ?_ fun _ _ => rfl; (first | rfl | (simp; done) | assumption | (simp [dsub_eq] <;> omega) | omega)) | (refine BLe.rows rfl rfl ?_; first | exact rows_take) | refine BLe.box ?_)
    · replace g3 := ite_f g3 e; clear e
      conv => whnf
      obtain rfl := Option.some.inj g3
      obtain rfl := hy2 _ rfl
      obtain ⟨x12, hx12, h⟩ := bd_some h
      obtain ⟨g14, h⟩ := gd_some h
      refine callE [(9000, 9)] 0 (slices_Sort_int_int_c hx12) (by (repeat' first | ((conv => whnf); first | exact trivial | refine And.intro ?_ ?_ | exact BLe.refl _ | exact VLe.refl _) | exact trivial | refine And.intro ?_ ?_ | exact VLe.refl _ | exact VLe.any _ | exact VLe.nil_osl rfl | exact VLe.nil_sl rfl | exact VLe.built rfl rfl | (refine VLe.osl rfl ?_; (first | rfl | (simp; done) | assumption | (simp [dsub_eq] <;> omega) | omega)) | exact VLe.rows (by first | rfl | (simp; done) | assumption | (simp [dsub_eq] <;> omega) | omega) (fun _ _ => rfl) | exact VLe.rows (by simp [dsub_eq] <;> omega) rows_take | exact VLe.rows (by simp [dsub_eq] <;> omega) rows_dt | exact VLe.rows (by simp [dsub_eq] <;> omega) rows_vt | exact VLe.rows (by simp) (fun i _ => by simp [viewRow_eq, Nat.add_comm]) | refine VLe.aggL ?_)) (by (repeat' first | ((conv => whnf); first | exact trivial | refine And.intro ?_ ?_ | exact BLe.refl _ | exact VLe.refl _) | exact trivial | exact rfl | refine And.intro ?_ ?_ | exact BLe.refl _ | exact VLe.refl _ | exact VLe.any _ | exact VLe.nil_osl rfl | exact VLe.nil_sl rfl | exact VLe.built rfl rfl | (refine VLe.osl rfl ?_; (first | rfl | (simp; done) | assumption | (simp [dsub_eq] <;> omega) | omega)) | exact VLe.rows (by first | rfl | (simp; done) | assumption | (simp [dsub_eq] <;> omega) | omega) (fun _ _ => rfl) | exact VLe.rows (by simp [dsub_eq] <;> omega) rows_take | exact VLe.rows (by simp [dsub_eq] <;> omega) rows_dt | exact VLe.rows (by simp [dsub_eq] <;> omega) rows_vt | exact VLe.rows (by simp) (fun i _ => by simp [viewRow_eq, Nat.add_comm]) | refine VLe.aggL ?_ | (refine BLe.rows rfl ?_ fun _ _ => rfl; (first | rfl | (simp; done) | assumption | (simp [dsub_eq] <;> omega) | omega)) | refine BLe.box ?_ | (simp; done))) rfl rfl ?_
      conv => whnf
      obtain ⟨x13, hx13, h⟩ := bd_some h
      refine callE [(9000, 9)] 1000 (slices_Compact_int_int_c hx13) (by (repeat' first | ((conv => whnf); first | exact trivial | refine And.intro ?_ ?_ | exact BLe.refl _ | exact VLe.refl _) | exact trivial | refine And.intro ?_ ?_ | exact VLe.refl _ | exact VLe.any _ | exact VLe.nil_osl rfl | exact VLe.nil_sl rfl | exact VLe.built rfl rfl | (refine VLe.osl rfl ?_; (first | rfl | (simp; done) | assumption | (simp [dsub_eq] <;> omega) | omega)) | exact VLe.rows (by first | rfl | (simp; done) | assumption | (simp [dsub_eq] <;> omega) | omega) (fun _ _ => rfl) | exact VLe.rows (by simp [dsub_eq] <;> omega) rows_take | exact VLe.rows (by simp [dsub_eq] <;> omega) rows_dt | exact VLe.rows (by simp [dsub_eq] <;> omega) rows_vt | exact VLe.rows (by simp) (fun i _ => by simp [viewRow_eq, Nat.add_comm]) | refine VLe.aggL ?_)) (by (repeat' first | ((conv => whnf); first | exact trivial | refine And.intro ?_ ?_ | exact BLe.refl _ | exact VLe.refl _) | exact trivial | exact rfl | refine And.intro ?_ ?_ | exact BLe.refl _ | exact VLe.refl _ | exact VLe.any _ | exact VLe.nil_osl rfl | exact VLe.nil_sl rfl | exact VLe.built rfl rfl | (refine VLe.osl rfl ?_; (first | rfl | (simp; done) | assumption | (simp [dsub_eq] <;> omega) | omega)) | exact VLe.rows (by first | rfl | (simp; done) | assumption | (simp [dsub_eq] <;> omega) | omega) (fun _ _ => rfl) | exact VLe.rows (by simp [dsub_eq] <;> omega) rows_take | exact VLe.rows (by simp [dsub_eq] <;> omega) rows_dt | exact VLe.rows (by simp [dsub_eq] <;> omega) rows_vt | exact VLe.rows (by simp) (fun i _ => by simp [viewRow_eq, Nat.add_comm]) | refine VLe.aggL ?_ | (refine BLe.rows rfl ?_ fun _ _ => rfl; (first | rfl | (simp; done) | assumption | (simp [dsub_eq] <;> omega) | omega)) | refine BLe.box ?_ | (simp; done))) rfl rfl ?_
      conv => whnf
      obtain rfl := Option.some.inj h
      refine ⟨⟨0, 38, [(4, .osl 5001 0 x13.length)], [], [(5001, .arr 3 1 x13.length (rows encInt x13))], []⟩, ?_, And.intro rfl ?_⟩
      · refine LE.trans (S' := ⟨0, 38, [(4, .osl 6001 0 x13.length)], [], [(6001, .arr 3 1 x13.length (rows encInt x13))], []⟩) (le_mk ?_ ?_ ?_) (le_swaps [(6001, 5001)] rfl) <;> (repeat' first | ((conv => whnf); first | exact trivial | refine And.intro ?_ ?_ | exact BLe.refl _ | exact VLe.refl _) | exact trivial | exact rfl | refine And.intro ?_ ?_ | exact BLe.refl _ | exact VLe.refl _ | exact VLe.any _ | exact VLe.nil_osl rfl | exact VLe.nil_sl rfl | exact VLe.built rfl rfl | (refine VLe.osl rfl ?_; (first | rfl | (simp; done) | assumption | (simp [dsub_eq] <;> omega) | omega)) | exact VLe.rows (by first | rfl | (simp; done) | assumption | (simp [dsub_eq] <;> omega) | omega) (fun _ _ => rfl) | exact VLe.rows (by simp [dsub_eq] <;> omega) rows_take | exact VLe.rows (by simp [dsub_eq] <;> omega) rows_dt | exact VLe.rows (by simp [dsub_eq] <;> omega) rows_vt | exact VLe.rows (by simp) (fun i _ => by simp [viewRow_eq, Nat.add_comm]) | refine VLe.aggL ?_ | (refine BLe.rows rfl ?_ fun _ _ => rfl; (first | rfl | (simp; done) | assumption | (simp [dsub_eq] <;> omega) | omega)) | (refine BLe.rows rfl rfl ?_; first | exact rows_take) | refine BLe.box ?_)
      · exact And.intro (And.intro rfl (And.intro rfl (fun _ _ => rfl))) (trivial)

noncomputable def impl_least_2_m (a0 : AclRule) : Option (NetPrefix) :=
 some a0.From

theorem impl_least_2_c {a0 : AclRule} {r : NetPrefix} (h : impl_least_2_m a0 = some r) : PureC Try.prog 66 [.agg [.d (.bool a0.Permit), .d (.int .i64 a0.From.Addr), .d (.int .i64 a0.From.Len), .d (.int .i64 a0.To.Addr), .d (.int .i64 a0.To.Len), .d (.int .i64 a0.Kind)]] (.agg [.d (.int .i64 r.Addr), .d (.int .i64 r.Len)]) [] := by
  refine pureC_m tOk (fn := Try.f66) (c := codeOf Try.f66) rfl rfl (by kernel_rfl) rfl rfl (by simp) (by simp) (ids_of rfl) ?_
  unfold impl_least_2_m at h
  conv => whnf
  obtain rfl := Option.some.inj h
  exact ⟨_, LE.refl _, And.intro rfl trivial⟩

noncomputable def impl_edges_impl_least_2_m (a0 : (List AclRule)) : Option ((List Int)) :=
 bd (lp (σ := List Int × Int) (β := (Nat × (List Int))) (fun s1 =>
(if (decide (s1.2 < ((a0.length : Nat) : Int))) = true then
 gd ((0 : Int) ≤ s1.2 ∧ s1.2 < ((a0.length : Nat) : Int)) <|
 bd (impl_least_2_m ({ (a0.getD s1.2.toNat default) with From := ((a0.getD s1.2.toNat default).From), To := ((a0.getD s1.2.toNat default).To) })) fun x6 =>
 gd (((s1.1.length) + (([x6.Addr] : List Int).length)) * (8 + 1) ≤ 70368744177664) <|
 bd (impl_NetPrefix_last_m x6) fun x7 =>
(if (decide (x7 < 65535)) = true then
 bd (impl_NetPrefix_last_m x6) fun x8 =>
 gd ((((s1.1 ++ ([x6.Addr] : List Int)).length) + (([IntKind.i64.wrap (x8 + 1)] : List Int).length)) * (8 + 1) ≤ 70368744177664) <|
 some (.inl (((s1.1 ++ ([x6.Addr] : List Int)) ++ ([IntKind.i64.wrap (x8 + 1)] : List Int)), IntKind.i64.wrap (s1.2 + 1)))
else
 some (.inl ((s1.1 ++ ([x6.Addr] : List Int)), IntKind.i64.wrap (s1.2 + 1))))
else
 some (.inr (s1.1.length, s1.1)))) (([0] : List Int), 0)) fun x4 =>
 bd (slices_Sort_int_int_m x4.2) fun x12 =>
 gd (x12.length = x4.1) <|
 bd (slices_Compact_int_int_m x12) fun x13 =>
 some x13

theorem impl_edges_impl_least_2_c {a0 : (List AclRule)} {r : (List Int)} (h : impl_edges_impl_least_2_m a0 = some r) : PureC Try.prog 64 [.d (slD AclRule.enc a0), .fn 66 []] (.osl 5001 0 r.length) [⟨5001, 3, 1, r.length, rows encInt r⟩] := by
  refine pureC_m tOk (fn := Try.f64) (c := codeOf Try.f64) rfl rfl (by kernel_rfl) rfl rfl (by simp [atomD]) (by simp) (ids_of rfl) ?_
  unfold impl_edges_impl_least_2_m at h
  conv => whnf
  refine ⟨([0] : List Int).length, rows encInt ([0] : List Int), rfl, build_rows, ?_⟩
  conv => whnf
  refine seq_in tOk ?_
  conv => whnf
  obtain ⟨x4, hx4, h⟩ := bd_some h
  refine loop_m tOk hx4 (fun s1 => ⟨0, 38, [(1, .fn 66 []), (5, .osl 9 0 s1.1.length), (10, .d (slD AclRule.enc a0)), (11, .d (.int .i64 ((a0.length : Nat) : Int))), (12, .d (.int .i64 s1.2))], [], [(9, .arr 3 1 s1.1.length (rows encInt s1.1))], []⟩) ?_ ?_
  · refine le_mk ?_ ?_ ?_ <;> (repeat' first | ((conv => whnf); first | exact trivial | refine And.intro ?_ ?_ | exact BLe.refl _ | exact VLe.refl _) | exact trivial | exact rfl | refine And.intro ?_ ?_ | exact BLe.refl _ | exact VLe.refl _ | exact VLe.any _ | exact VLe.nil_osl rfl | exact VLe.nil_sl rfl | exact VLe.built rfl rfl | (refine VLe.osl rfl ?_; (first | rfl | (simp; done) | assumption | (simp [dsub_eq] <;> omega) | omega)) | exact VLe.rows (by first | rfl | (simp; done) | assumption | (simp [dsub_eq] <;> omega) | omega) (fun _ _ => rfl) | exact VLe.rows (by simp [dsub_eq] <;> omega) rows_take | exact VLe.rows (by simp [dsub_eq] <;> omega) rows_dt | exact VLe.rows (by simp [dsub_eq] <;> omega) rows_vt | exact VLe.rows (by simp) (fun i _ => by simp [viewRow_eq, Nat.add_comm]) | refine VLe.aggL ?_ | (refine BLe.rows rfl ?_ fun _ _ => rfl; (first | rfl | (simp; done) | assumption | (simp [dsub_eq] <;> omega) | omega)) | (refine BLe.rows rfl rfl ?_; first | exact rows_take) | refine BLe.box ?_)
  · clear hx4
    intro s1 y2 g3 hy2
    conv => whnf
    refine seq_in tOk ?_
    conv => whnf
    refine And.intro (fun e => ?_) (fun e => ?_)
    · replace g3 := ite_t g3 e; clear e
      conv => whnf
      refine seq_in tOk ?_
      conv => whnf
      obtain ⟨g5, g3⟩ := gd_some g3
      refine And.intro g5 ?_
      clear g5
      conv => whnf
      obtain ⟨x6, hx6, g3⟩ := bd_some g3
      refine callC 0 (impl_least_2_c hx6) (by kernel_rfl) (by kernel_rfl) ?_
      clear hx6
      conv => whnf
      refine ⟨([x6.Addr] : List Int).length, rows encInt ([x6.Addr] : List Int), rfl, build_rows, ?_⟩
      conv => whnf
      obtain ⟨g10, g3⟩ := gd_some g3
      refine And.intro g10 ?_
      clear g10
      refine ⟨(s1.1 ++ ([x6.Addr] : List Int)).length, rows encInt (s1.1 ++ ([x6.Addr] : List Int)), (by first | rfl | (simp; done) | assumption | (simp [dsub_eq] <;> omega) | omega), (by first | exact app_rows (m := ([x6.Addr] : List Int).length) (by first | rfl | (simp; done) | assumption | (simp [dsub_eq] <;> omega) | omega) (by first | rfl | (simp; done) | assumption | (simp [dsub_eq] <;> omega) | omega) (fun _ _ => rfl) (fun _ _ => rfl) | exact app_rows0 (m := ([x6.Addr] : List Int).length) (by first | rfl | (simp; done) | assumption | (simp [dsub_eq] <;> omega) | omega) (fun _ _ => rfl) | exact app_rows (m := ([x6.Addr] : List Int).length) (by first | rfl | (simp; done) | assumption | (simp [dsub_eq] <;> omega) | omega) (by first | rfl | (simp; done) | assumption | (simp [dsub_eq] <;> omega) | omega) (by first | exact fun _ _ => rfl | exact rows_take | (intro i hi; simp only [viewRow_eq, addOff_eq, Int.toNat_zero, Nat.zero_add, Nat.add_zero]; exact rows_take i hi) | exact rows_vt | exact rows_dt | (intro i hi; simp only [viewRow_eq, Nat.zero_add]) | (intro i hi; simp [viewRow_eq])) (by first | exact fun _ _ => rfl | exact rows_take | (intro i hi; simp only [viewRow_eq, addOff_eq, Int.toNat_zero, Nat.zero_add, Nat.add_zero]; exact rows_take i hi) | exact rows_vt | exact rows_dt | (intro i hi; simp only [viewRow_eq, Nat.zero_add]) | (intro i hi; simp [viewRow_eq])) | exact app_rows0 (m := ([x6.Addr] : List Int).length) (by first | rfl | (simp; done) | assumption | (simp [dsub_eq] <;> omega) | omega) (by first | exact fun _ _ => rfl | exact rows_take | (intro i hi; simp only [viewRow_eq, addOff_eq, Int.toNat_zero, Nat.zero_add, Nat.add_zero]; exact rows_take i hi) | exact rows_vt | exact rows_dt | (intro i hi; simp only [viewRow_eq, Nat.zero_add]) | (intro i hi; simp [viewRow_eq]))), ?_⟩
      conv => whnf
      obtain ⟨x7, hx7, g3⟩ := bd_some g3
      refine callC 0 (impl_NetPrefix_last_c hx7) (by kernel_rfl) (by kernel_rfl) ?_
      clear hx7
      conv => whnf
      refine And.intro (fun e => ?_) (fun e => ?_)
      · replace g3 := ite_t g3 e; clear e
        conv => whnf
        obtain ⟨x8, hx8, g3⟩ := bd_some g3
        refine callC 0 (impl_NetPrefix_last_c hx8) (by kernel_rfl) (by kernel_rfl) ?_
        clear hx8
        conv => whnf
        refine ⟨([IntKind.i64.wrap (x8 + 1)] : List Int).length, rows encInt ([IntKind.i64.wrap (x8 + 1)] : List Int), rfl, build_rows, ?_⟩
        conv => whnf
        obtain ⟨g9, g3⟩ := gd_some g3
        refine And.intro g9 ?_
        clear g9
        refine ⟨((s1.1 ++ ([x6.Addr] : List Int)) ++ ([IntKind.i64.wrap (x8 + 1)] : List Int)).length, rows encInt ((s1.1 ++ ([x6.Addr] : List Int)) ++ ([IntKind.i64.wrap (x8 + 1)] : List Int)), (by first | rfl | (simp; done) | assumption | (simp [dsub_eq] <;> omega) | omega), (by first | exact app_rows (m := ([IntKind.i64.wrap (x8 + 1)] : List Int).length) (by first | rfl | (simp; done) | assumption | (simp [dsub_eq] <;> omega) | omega) (by first | rfl | (simp; done) | assumption | (simp [dsub_eq] <;> omega) | omega) (fun _ _ => rfl) (fun _ _ => rfl) | exact app_rows0 (m := ([IntKind.i64.wrap (x8 + 1)] : List Int).length) (by first | rfl | (simp; done) | assumption | (simp [dsub_eq] <;> omega) | omega) (fun _ _ => rfl) | exact app_rows (m := ([IntKind.i64.wrap (x8 + 1)] : List Int).length) (by first | rfl | (simp; done) | assumption | (simp [dsub_eq] <;> omega) | omega) (by first | rfl | (simp; done) | assumption | (simp [dsub_eq] <;> omega) | omega) (by first | exact fun _ _ => rfl | exact rows_take | (intro i hi; simp only [viewRow_eq, addOff_eq, Int.toNat_zero, Nat.zero_add, Nat.add_zero]; exact rows_take i hi) | exact rows_vt | exact rows_dt | (intro i hi; simp only [viewRow_eq, Nat.zero_add]) | (intro i hi; simp [viewRow_eq])) (by first | exact fun _ _ => rfl | exact rows_take | (intro i hi; simp only [viewRow_eq, addOff_eq, Int.toNat_zero, Nat.zero_add, Nat.add_zero]; exact rows_take i hi) | exact rows_vt | exact rows_dt | (intro i hi; simp only [viewRow_eq, Nat.zero_add]) | (intro i hi; simp [viewRow_eq])) | exact app_rows0 (m := ([IntKind.i64.wrap (x8 + 1)] : List Int).length) (by first | rfl | (simp; done) | assumption | (simp [dsub_eq] <;> omega) | omega) (by first | exact fun _ _ => rfl | exact rows_take | (intro i hi; simp only [viewRow_eq, addOff_eq, Int.toNat_zero, Nat.zero_add, Nat.add_zero]; exact rows_take i hi) | exact rows_vt | exact rows_dt | (intro i hi; simp only [viewRow_eq, Nat.zero_add]) | (intro i hi; simp [viewRow_eq]))), ?_⟩
        conv => whnf
        obtain rfl := Option.some.inj g3
        refine ⟨_, rfl, le_mk ?_ ?_ ?_⟩ <;> (repeat' first | ((conv => whnf); first | exact trivial | refine And.intro ?_ ?_ | exact BLe.refl _ | exact VLe.refl _) | exact trivial | exact rfl | refine And.intro ?_ ?_ | exact BLe.refl _ | exact VLe.refl _ | exact VLe.any _ | exact VLe.nil_osl rfl | exact VLe.nil_sl rfl | exact VLe.built rfl rfl | (refine VLe.osl rfl ?_; (first | rfl | (simp; done) | assumption | (simp [dsub_eq] <;> omega) | omega)) | exact VLe.rows (by first | rfl | (simp; done) | assumption | (simp [dsub_eq] <;> omega) | omega) (fun _ _ => rfl) | exact VLe.rows (by simp [dsub_eq] <;> omega) rows_take | exact VLe.rows (by simp [dsub_eq] <;> omega) rows_dt | exact VLe.rows (by simp [dsub_eq] <;> omega) rows_vt | exact VLe.rows (by simp) (fun i _ => by simp [viewRow_eq, Nat.add_comm]) | refine VLe.aggL ?_ | (refine BLe.rows rfl ?_ fun _ _ => rfl; (first | rfl | (simp; done) | assumption | (simp [dsub_eq] <;> omega) | omega)) | (refine BLe.rows rfl rfl ?_; first | exact rows_take) | refine BLe.box ?_)
      · replace g3 := ite_f g3 e; clear e
        conv => whnf
        obtain rfl := Option.some.inj g3
        refine ⟨_, rfl, le_mk ?_ ?_ ?_⟩ <;> (repeat' first | ((conv => whnf); first | exact trivial | refine And.intro ?_ ?_ | exact BLe.refl _ | exact VLe.refl _) | exact trivial | exact rfl | refine And.intro ?_ ?_ | exact BLe.refl _ | exact VLe.refl _ | exact VLe.any _ | exact VLe.nil_osl rfl | exact VLe.nil_sl rfl | exact VLe.built rfl rfl | (refine VLe.osl rfl ?_; (first | rfl | (simp; done) | assumption | (simp [dsub_eq] <;> omega) | omega)) | exact VLe.rows (by first | rfl | (simp; done) | assumption | (simp [dsub_eq] <;> omega) | omega) (fun _ _ => rfl) | exact VLe.rows (by simp [dsub_eq] <;> omega) rows_take | exact VLe.rows (by simp [dsub_eq] <;> omega) rows_dt | exact VLe.rows (by simp [dsub_eq] <;> omega) rows_vt | exact VLe.rows (by simp) (fun i _ => by simp [viewRow_eq, Nat.add_comm]) | refine VLe.aggL ?_ | (refine BLe.rows rfl ?_ fun _ _ => rfl; (first | rfl | (simp; done) | assumption | (simp [dsub_eq] <;> omega) | omega)) | (refine BLe.rows rfl rfl ?_; first | exact rows_take) | refine BLe.box ?_)
    · replace g3 := ite_f g3 e; clear e
      conv => whnf
      obtain rfl := Option.some.inj g3
      obtain rfl := hy2 _ rfl
      obtain ⟨x12, hx12, h⟩ := bd_some h
      obtain ⟨g14, h⟩ := gd_some h
      refine callE [(9000, 9)] 0 (slices_Sort_int_int_c hx12) (by (repeat' first | ((conv => whnf); first | exact trivial | refine And.intro ?_ ?_ | exact BLe.refl _ | exact VLe.refl _) | exact trivial | refine And.intro ?_ ?_ | exact VLe.refl _ | exact VLe.any _ | exact VLe.nil_osl rfl | exact VLe.nil_sl rfl | exact VLe.built rfl rfl | (refine VLe.osl rfl ?_; (first | rfl | (simp; done) | assumption | (simp [dsub_eq] <;> omega) | omega)) | exact VLe.rows (by first | rfl | (simp; done) | assumption | (simp [dsub_eq] <;> omega) | omega) (fun _ _ => rfl) | exact VLe.rows (by simp [dsub_eq] <;> omega) rows_take | exact VLe.rows (by simp [dsub_eq] <;> omega) rows_dt | exact VLe.rows (by simp [dsub_eq] <;> omega) rows_vt | exact VLe.rows (by simp) (fun i _ => by simp [viewRow_eq, Nat.add_comm]) | refine VLe.aggL ?_)) (by (repeat' first | ((conv => whnf); first | exact trivial | refine And.intro ?_ ?_ | exact BLe.refl _ | exact VLe.refl _) | exact trivial | exact rfl | refine And.intro ?_ ?_ | exact BLe.refl _ | exact VLe.refl _ | exact VLe.any _ | exact VLe.nil_osl rfl | exact VLe.nil_sl rfl | exact VLe.built rfl rfl | (refine VLe.osl rfl ?_; (first | rfl | (simp; done) | assumption | (simp [dsub_eq] <;> omega) | omega)) | exact VLe.rows (by first | rfl | (simp; done) | assumption | (simp [dsub_eq] <;> omega) | omega) (fun _ _ => rfl) | exact VLe.rows (by simp [dsub_eq] <;> omega) rows_take | exact VLe.rows (by simp [dsub_eq] <;> omega) rows_dt | exact VLe.rows (by simp [dsub_eq] <;> omega) rows_vt | exact VLe.rows (by simp) (fun i _ => by simp [viewRow_eq, Nat.add_comm]) | refine VLe.aggL ?_ | (refine BLe.rows rfl ?_ fun _ _ => rfl; (first | rfl | (simp; done) | assumption | (simp [dsub_eq] <;> omega) | omega)) | refine BLe.box ?_ | (simp; done))) rfl rfl ?_
      conv => whnf
      obtain ⟨x13, hx13, h⟩ := bd_some h
      refine callE [(9000, 9)] 1000 (slices_Compact_int_int_c hx13) (by (repeat' first | ((conv => whnf); first | exact trivial | refine And.intro ?_ ?_ | exact BLe.refl _ | exact VLe.refl _) | exact trivial | refine And.intro ?_ ?_ | exact VLe.refl _ | exact VLe.any _ | exact VLe.nil_osl rfl | exact VLe.nil_sl rfl | exact VLe.built rfl rfl | (refine VLe.osl rfl ?_; (first | rfl | (simp; done) | assumption | (simp [dsub_eq] <;> omega) | omega)) | exact VLe.rows (by first | rfl | (simp; done) | assumption | (simp [dsub_eq] <;> omega) | omega) (fun _ _ => rfl) | exact VLe.rows (by simp [dsub_eq] <;> omega) rows_take | exact VLe.rows (by simp [dsub_eq] <;> omega) rows_dt | exact VLe.rows (by simp [dsub_eq] <;> omega) rows_vt | exact VLe.rows (by simp) (fun i _ => by simp [viewRow_eq, Nat.add_comm]) | refine VLe.aggL ?_)) (by (repeat' first | ((conv => whnf); first | exact trivial | refine And.intro ?_ ?_ | exact BLe.refl _ | exact VLe.refl _) | exact trivial | exact rfl | refine And.intro ?_ ?_ | exact BLe.refl _ | exact VLe.refl _ | exact VLe.any _ | exact VLe.nil_osl rfl | exact VLe.nil_sl rfl | exact VLe.built rfl rfl | (refine VLe.osl rfl ?_; (first | rfl | (simp; done) | assumption | (simp [dsub_eq] <;> omega) | omega)) | exact VLe.rows (by first | rfl | (simp; done) | assumption | (simp [dsub_eq] <;> omega) | omega) (fun _ _ => rfl) | exact VLe.rows (by simp [dsub_eq] <;> omega) rows_take | exact VLe.rows (by simp [dsub_eq] <;> omega) rows_dt | exact VLe.rows (by simp [dsub_eq] <;> omega) rows_vt | exact VLe.rows (by simp) (fun i _ => by simp [viewRow_eq, Nat.add_comm]) | refine VLe.aggL ?_ | (refine BLe.rows rfl ?_ fun _ _ => rfl; (first | rfl | (simp; done) | assumption | (simp [dsub_eq] <;> omega) | omega)) | refine BLe.box ?_ | (simp; done))) rfl rfl ?_
      conv => whnf
      obtain rfl := Option.some.inj h
      refine ⟨⟨0, 38, [(4, .osl 5001 0 x13.length)], [], [(5001, .arr 3 1 x13.length (rows encInt x13))], []⟩, ?_, And.intro rfl ?_⟩
      · refine LE.trans (S' := ⟨0, 38, [(4, .osl 6001 0 x13.length)], [], [(6001, .arr 3 1 x13.length (rows encInt x13))], []⟩) (le_mk ?_ ?_ ?_) (le_swaps [(6001, 5001)] rfl) <;> (repeat' first | ((conv => whnf); first | exact trivial | refine And.intro ?_ ?_ | exact BLe.refl _ | exact VLe.refl _) | exact trivial | exact rfl | refine And.intro ?_ ?_ | exact BLe.refl _ | exact VLe.refl _ | exact VLe.any _ | exact VLe.nil_osl rfl | exact VLe.nil_sl rfl | exact VLe.built rfl rfl | (refine VLe.osl rfl ?_; (first | rfl | (simp; done) | assumption | (simp [dsub_eq] <;> omega) | omega)) | exact VLe.rows (by first | rfl | (simp; done) | assumption | (simp [dsub_eq] <;> omega) | omega) (fun _ _ => rfl) | exact VLe.rows (by simp [dsub_eq] <;> omega) rows_take | exact VLe.rows (by simp [dsub_eq] <;> omega) rows_dt | exact VLe.rows (by simp [dsub_eq] <;> omega) rows_vt | exact VLe.rows (by simp) (fun i _ => by simp [viewRow_eq, Nat.add_comm]) | refine VLe.aggL ?_ | (refine BLe.rows rfl ?_ fun _ _ => rfl; (first | rfl | (simp; done) | assumption | (simp [dsub_eq] <;> omega) | omega)) | (refine BLe.rows rfl rfl ?_; first | exact rows_take) | refine BLe.box ?_)
      · exact And.intro (And.intro rfl (And.intro rfl (fun _ _ => rfl))) (trivial)

noncomputable def impl_NetPrefix_has_m (a0 : NetPrefix) (a1 : Int) : Option (Bool) :=
 bd (impl_NetPrefix_last_m a0) fun x1 =>
 bd (impl_within_m a1 a0.Addr x1) fun x2 =>
 some x2

theorem impl_NetPrefix_has_c {a0 : NetPrefix} {a1 : Int} {r : Bool} (h : impl_NetPrefix_has_m a0 a1 = some r) : PureC Try.prog 68 [.agg [.d (.int .i64 a0.Addr), .d (.int .i64 a0.Len)], .d (.int .i64 a1)] (.d (.bool r)) [] := by
  refine pureC_m tOk (fn := Try.f68) (c := codeOf Try.f68) rfl rfl (by kernel_rfl) rfl rfl (by simp) (by simp) (ids_of rfl) ?_
  unfold impl_NetPrefix_has_m at h
  conv => whnf
  obtain ⟨x1, hx1, h⟩ := bd_some h
  obtain ⟨x2, hx2, h⟩ := bd_some h
  refine draw_k tOk (by kernel_rfl) (fun j => match j with | 4 => some (.pure 0 (.d (.int .i64 x1)) []) | 5 => some (.pure 0 (.d (.bool x2)) []) | _ => none) 7 [] [[], [], [false, true], [], [false, false, false, true], [true, true, true, true, true], [true, true, true, true, true, true]] [] (by decide) (by kernel_rfl) (by kernel_rfl) ?_
  conv => whnf
  refine And.intro (callD_any (impl_NetPrefix_last_c hx1) (by kernel_rfl)) ?_
  conv => whnf
  refine And.intro (callD_any (impl_within_c hx2) (by kernel_rfl)) ?_
  conv => whnf
  refine And.intro (by kernel_rfl) ?_
  conv => whnf
  obtain rfl := Option.some.inj h
  exact ⟨_, LE.refl _, And.intro rfl trivial⟩

noncomputable def impl_AclRule_about_m (a0 : AclRule) (a1 : AclPacket) : Option (Bool) :=
 bd (impl_NetPrefix_has_m a0.From a1.From) fun x1 =>
 bd (gcall (x1 = true) (impl_NetPrefix_has_m a0.To a1.To)) fun x2 =>
 some ((x1 && x2) && ((a0.Kind == 0) || (a0.Kind == a1.Kind)))

theorem impl_AclRule_about_c {a0 : AclRule} {a1 : AclPacket} {r : Bool} (h : impl_AclRule_about_m a0 a1 = some r) : PureC Try.prog 54 [.agg [.d (.bool a0.Permit), .d (.int .i64 a0.From.Addr), .d (.int .i64 a0.From.Len), .d (.int .i64 a0.To.Addr), .d (.int .i64 a0.To.Len), .d (.int .i64 a0.Kind)], .agg [.d (.int .i64 a1.From), .d (.int .i64 a1.To), .d (.int .i64 a1.Kind)]] (.d (.bool r)) [] := by
  refine pureC_m tOk (fn := Try.f54) (c := codeOf Try.f54) rfl rfl (by kernel_rfl) rfl rfl (by simp) (by simp) (ids_of rfl) ?_
  unfold impl_AclRule_about_m at h
  conv => whnf
  obtain ⟨x1, hx1, h⟩ := bd_some h
  refine callC 0 (impl_NetPrefix_has_c hx1) (by kernel_rfl) (by kernel_rfl) ?_
  clear hx1
  conv => whnf
  obtain ⟨x2, hx2, h⟩ := bd_some h
  refine callG_m rfl rfl rfl rfl rfl rfl (by intro c0; exact impl_NetPrefix_has_c (gcall_some hx2 c0)) ?_
  conv => whnf
  obtain rfl := Option.some.inj h
  exact ⟨_, LE.refl _, And.intro rfl trivial⟩

noncomputable def impl_decides_1_m (a0 : AclRule) (a1 : AclPacket) : Option (Bool) :=
 bd (impl_AclRule_about_m a0 a1) fun x1 =>
 some x1

theorem impl_decides_1_c {a0 : AclRule} {a1 : AclPacket} {r : Bool} (h : impl_decides_1_m a0 a1 = some r) : PureC Try.prog 53 [.agg [.d (.bool a0.Permit), .d (.int .i64 a0.From.Addr), .d (.int .i64 a0.From.Len), .d (.int .i64 a0.To.Addr), .d (.int .i64 a0.To.Len), .d (.int .i64 a0.Kind)], .rp [.int .i64 a1.From, .int .i64 a1.To, .int .i64 a1.Kind]] (.d (.bool r)) [] := by
  refine pureC_m tOk (fn := Try.f53) (c := codeOf Try.f53) rfl rfl (by kernel_rfl) rfl rfl (by simp) (by simp) (ids_of rfl) ?_
  unfold impl_decides_1_m at h
  conv => whnf
  obtain ⟨x1, hx1, h⟩ := bd_some h
  refine callC 0 (impl_AclRule_about_c hx1) (by kernel_rfl) (by kernel_rfl) ?_
  clear hx1
  conv => whnf
  obtain rfl := Option.some.inj h
  exact ⟨_, LE.refl _, And.intro rfl trivial⟩

noncomputable def slices_IndexFunc_AclRule_AclRule_impl_decides_1_m (a0 : (List AclRule)) (a1c0 : AclPacket) : Option (Int) :=
 bd (lp (σ := Int) (β := (Int ⊕ Unit)) (fun s1 =>
(if (decide (s1 < ((a0.length : Nat) : Int))) = true then
 gd ((0 : Int) ≤ s1 ∧ s1 < ((a0.length : Nat) : Int)) <|
 bd (impl_decides_1_m ({ (a0.getD s1.toNat default) with From := ((a0.getD s1.toNat default).From), To := ((a0.getD s1.toNat default).To) }) a1c0) fun x6 =>
(if x6 = true then
 some (.inr (.inl s1))
else
 some (.inl (IntKind.i64.wrap (s1 + 1))))
else
 some (.inr (.inr ())))) 0) fun x4 =>
(match x4 with
| .inl d7 =>
 some d7
| .inr d8 =>
 some (-1))

theorem slices_IndexFunc_AclRule_AclRule_impl_decides_1_c {a0 : (List AclRule)} {a1c0 : AclPacket} {r : Int} (h : slices_IndexFunc_AclRule_AclRule_impl_decides_1_m a0 a1c0 = some r) : PureC Try.prog 52 [.d (slD AclRule.enc a0), .fn 53 [.rp [.int .i64 a1c0.From, .int .i64 a1c0.To, .int .i64 a1c0.Kind]]] (.d (.int .i64 r)) [] := by
  refine pureC_m tOk (fn := Try.f52) (c := codeOf Try.f52) rfl rfl (by kernel_rfl) rfl rfl (by simp) (by simp) (ids_of rfl) ?_
  unfold slices_IndexFunc_AclRule_AclRule_impl_decides_1_m at h
  conv => whnf
  refine seq_in tOk ?_
  conv => whnf
  obtain ⟨x4, hx4, h⟩ := bd_some h
  refine loop_m tOk hx4 (fun s1 => ⟨0, 19, [(0, .d (slD AclRule.enc a0)), (1, .fn 53 [.rp [.int .i64 a1c0.From, .int .i64 a1c0.To, .int .i64 a1c0.Kind]]), (7, .d (.int .i64 ((a0.length : Nat) : Int))), (8, .d (.int .i64 s1))], [], [], []⟩) ?_ ?_
  · refine le_mk ?_ ?_ ?_ <;> (repeat' first | ((conv => whnf); first | exact trivial | refine And.intro ?_ ?_ | exact BLe.refl _ | exact VLe.refl _) | exact trivial | exact rfl | refine And.intro ?_ ?_ | exact BLe.refl _ | exact VLe.refl _ | exact VLe.any _ | exact VLe.nil_osl rfl | exact VLe.nil_sl rfl | exact VLe.built rfl rfl | (refine VLe.osl rfl ?_; (first | rfl | (simp; done) | assumption | (simp [dsub_eq] <;> omega) | omega)) | exact VLe.rows (by first | rfl | (simp; done) | assumption | (simp [dsub_eq] <;> omega) | omega) (fun _ _ => rfl) | exact VLe.rows (by simp [dsub_eq] <;> omega) rows_take | exact VLe.rows (by simp [dsub_eq] <;> omega) rows_dt | exact VLe.rows (by simp [dsub_eq] <;> omega) rows_vt | exact VLe.rows (by simp) (fun i _ => by simp [viewRow_eq, Nat.add_comm]) | refine VLe.aggL ?_ | (refine BLe.rows rfl ?_ fun _ _ => rfl; (first | rfl | (simp; done) | assumption | (simp [dsub_eq] <;> omega) | omega)) | (refine BLe.rows rfl rfl ?_; first | exact rows_take) | refine BLe.box ?_)
  · clear hx4
    intro s1 y2 g3 hy2
    conv => whnf
    refine seq_in tOk ?_
    conv => whnf
    refine And.intro (fun e => ?_) (fun e => ?_)
    · replace g3 := ite_t g3 e; clear e
      conv => whnf
      refine seq_in tOk ?_
      conv => whnf
      obtain ⟨g5, g3⟩ := gd_some g3
      refine And.intro g5 ?_
      clear g5
      conv => whnf
      obtain ⟨x6, hx6, g3⟩ := bd_some g3
      refine callC 0 (impl_decides_1_c hx6) (by kernel_rfl) (by kernel_rfl) ?_
      clear hx6
      conv => whnf
      refine And.intro (fun e => ?_) (fun e => ?_)
      · replace g3 := ite_t g3 e; clear e
        conv => whnf
        obtain rfl := Option.some.inj g3
        obtain rfl := hy2 _ rfl
        obtain rfl := Option.some.inj h
        exact ⟨_, LE.refl _, And.intro rfl trivial⟩
      · replace g3 := ite_f g3 e; clear e
        conv => whnf
        obtain rfl := Option.some.inj g3
        refine ⟨_, rfl, le_mk ?_ ?_ ?_⟩ <;> (repeat' first | ((conv => whnf); first | exact trivial | refine And.intro ?_ ?_ | exact BLe.refl _ | exact VLe.refl _) | exact trivial | exact rfl | refine And.intro ?_ ?_ | exact BLe.refl _ | exact VLe.refl _ | exact VLe.any _ | exact VLe.nil_osl rfl | exact VLe.nil_sl rfl | exact VLe.built rfl rfl | (refine VLe.osl rfl ?_; (first | rfl | (simp; done) | assumption | (simp [dsub_eq] <;> omega) | omega)) | exact VLe.rows (by first | rfl | (simp; done) | assumption | (simp [dsub_eq] <;> omega) | omega) (fun _ _ => rfl) | exact VLe.rows (by simp [dsub_eq] <;> omega) rows_take | exact VLe.rows (by simp [dsub_eq] <;> omega) rows_dt | exact VLe.rows (by simp [dsub_eq] <;> omega) rows_vt | exact VLe.rows (by simp) (fun i _ => by simp [viewRow_eq, Nat.add_comm]) | refine VLe.aggL ?_ | (refine BLe.rows rfl ?_ fun _ _ => rfl; (first | rfl | (simp; done) | assumption | (simp [dsub_eq] <;> omega) | omega)) | (refine BLe.rows rfl rfl ?_; first | exact rows_take) | refine BLe.box ?_)
    · replace g3 := ite_f g3 e; clear e
      conv => whnf
      obtain rfl := Option.some.inj g3
      obtain rfl := hy2 _ rfl
      obtain rfl := Option.some.inj h
      exact ⟨_, LE.refl _, And.intro rfl trivial⟩

noncomputable def impl_decides_m (a0 : (List AclRule)) (a1 : AclPacket) : Option (Int) :=
 bd (slices_IndexFunc_AclRule_AclRule_impl_decides_1_m a0 a1) fun x1 =>
 some x1

theorem impl_decides_c {a0 : (List AclRule)} {a1 : AclPacket} {r : Int} (h : impl_decides_m a0 a1 = some r) : PureC Try.prog 34 [.d (slD AclRule.enc a0), .agg [.d (.int .i64 a1.From), .d (.int .i64 a1.To), .d (.int .i64 a1.Kind)]] (.d (.int .i64 r)) [] := by
  refine pureC_m tOk (fn := Try.f34) (c := codeOf Try.f34) rfl rfl (by kernel_rfl) rfl rfl (by simp) (by simp) (ids_of rfl) ?_
  unfold impl_decides_m at h
  conv => whnf
  obtain ⟨x1, hx1, h⟩ := bd_some h
  refine callC 0 (slices_IndexFunc_AclRule_AclRule_impl_decides_1_c hx1) (by kernel_rfl) (by kernel_rfl) ?_
  clear hx1
  conv => whnf
  obtain rfl := Option.some.inj h
  exact ⟨_, LE.refl _, And.intro rfl trivial⟩

noncomputable def impl_passes_m (a0 : (List AclRule)) (a1 : AclPacket) : Option (Bool) :=
 bd (impl_decides_m a0 a1) fun x1 =>
 gd ((decide (x1 ≥ 0)) = true → ((0 : Int) ≤ x1 ∧ x1 < ((a0.length : Nat) : Int))) <|
 some ((decide (x1 ≥ 0)) && (a0.getD x1.toNat default).Permit)

theorem impl_passes_c {a0 : (List AclRule)} {a1 : AclPacket} {r : Bool} (h : impl_passes_m a0 a1 = some r) : PureC Try.prog 35 [.d (slD AclRule.enc a0), .agg [.d (.int .i64 a1.From), .d (.int .i64 a1.To), .d (.int .i64 a1.Kind)]] (.d (.bool r)) [] := by
  refine pureC_m tOk (fn := Try.f35) (c := codeOf Try.f35) rfl rfl (by kernel_rfl) rfl rfl (by simp) (by simp) (ids_of rfl) ?_
  unfold impl_passes_m at h
  conv => whnf
  obtain ⟨x1, hx1, h⟩ := bd_some h
  refine callC 0 (impl_decides_c hx1) (by kernel_rfl) (by kernel_rfl) ?_
  clear hx1
  conv => whnf
  obtain ⟨g2, h⟩ := gd_some h
  refine And.intro g2 ?_
  clear g2
  conv => whnf
  obtain rfl := Option.some.inj h
  exact ⟨_, LE.refl _, And.intro rfl trivial⟩

noncomputable def impl_AclDiffer_1_m (a0 : AclPacket) (a1 : (List AclRule)) (a2 : (List AclRule)) : Option (Bool) :=
 bd (impl_passes_m a1 a0) fun x1 =>
 bd (impl_passes_m a2 a0) fun x2 =>
 some (!(x1 == x2))

theorem impl_AclDiffer_1_c {a0 : AclPacket} {a1 : (List AclRule)} {a2 : (List AclRule)} {r : Bool} (h : impl_AclDiffer_1_m a0 a1 a2 = some r) : PureC Try.prog 45 [.agg [.d (.int .i64 a0.From), .d (.int .i64 a0.To), .d (.int .i64 a0.Kind)], .rp [slD AclRule.enc a1], .rp [slD AclRule.enc a2]] (.d (.bool r)) [] := by
  refine pureC_m tOk (fn := Try.f45) (c := codeOf Try.f45) rfl rfl (by kernel_rfl) rfl rfl (by simp) (by simp) (ids_of rfl) ?_
  unfold impl_AclDiffer_1_m at h
  conv => whnf
  obtain ⟨x1, hx1, h⟩ := bd_some h
  obtain ⟨x2, hx2, h⟩ := bd_some h
  refine draw_k tOk (by kernel_rfl) (fun j => match j with | 2 => some (.pure 0 (.d (.bool x1)) []) | 5 => some (.pure 0 (.d (.bool x2)) []) | _ => none) 8 [] [[], [], [true, true], [], [], [true, true, true, true, true], [true, true, true, true, true, true], [true, true, true, true, true, true, true]] [] (by decide) (by kernel_rfl) (by kernel_rfl) ?_
  conv => whnf
  refine And.intro (callD_any (impl_passes_c hx1) (by kernel_rfl)) ?_
  conv => whnf
  refine And.intro (callD_any (impl_passes_c hx2) (by kernel_rfl)) ?_
  conv => whnf
  refine And.intro (by kernel_rfl) ?_
  conv => whnf
  obtain rfl := Option.some.inj h
  exact ⟨_, LE.refl _, And.intro rfl trivial⟩

noncomputable def impl_least_impl_AclDiffer_1_m (a0 : (List AclRule)) (a1c0 : (List AclRule)) (a1c1 : (List AclRule)) : Option (AclPacket × Bool) :=
 bd (impl_edges_impl_least_1_m a0) fun x1 =>
 bd (impl_edges_impl_least_2_m a0) fun x2 =>
 bd (lp (σ := Int) (β := ((Int × Int × Int) ⊕ Unit)) (fun s3 =>
(if (decide (s3 < ((x2.length : Nat) : Int))) = true then
 gd ((0 : Int) ≤ s3 ∧ s3 < ((x2.length : Nat) : Int)) <|
 bd (lp (σ := Int) (β := ((Int × Int) ⊕ Unit)) (fun s8 =>
(if (decide (s8 < ((x1.length : Nat) : Int))) = true then
 gd ((0 : Int) ≤ s8 ∧ s8 < ((x1.length : Nat) : Int)) <|
 bd (lp (σ := Int) (β := (Int ⊕ Unit)) (fun s13 =>
(if (decide (s13 ≤ 7)) = true then
 bd (impl_AclDiffer_1_m (⟨(x2.getD s3.toNat default), (x1.getD s8.toNat default), s13⟩ : AclPacket) a1c0 a1c1) fun x17 =>
(if x17 = true then
 some (.inr (.inl s13))
else
 some (.inl (IntKind.i64.wrap (s13 + 1))))
else
 some (.inr (.inr ())))) 1) fun x16 =>
(match x16 with
| .inl d18 =>
 some (.inr (.inl ((x1.getD s8.toNat default), d18)))
| .inr d19 =>
 some (.inl (IntKind.i64.wrap (s8 + 1))))
else
 some (.inr (.inr ())))) 0) fun x11 =>
(match x11 with
| .inl d20 =>
 some (.inr (.inl ((x2.getD s3.toNat default), d20.1, d20.2)))
| .inr d21 =>
 some (.inl (IntKind.i64.wrap (s3 + 1))))
else
 some (.inr (.inr ())))) 0) fun x6 =>
(match x6 with
| .inl d22 =>
 some ((⟨d22.1, d22.2.1, d22.2.2⟩ : AclPacket), true)
| .inr d23 =>
 some ((⟨0, 0, 0⟩ : AclPacket), false))

theorem impl_least_impl_AclDiffer_1_c {a0 : (List AclRule)} {a1c0 : (List AclRule)} {a1c1 : (List AclRule)} {r : AclPacket × Bool} (h : impl_least_impl_AclDiffer_1_m a0 a1c0 a1c1 = some r) : PureC Try.prog 43 [.d (slD AclRule.enc a0), .fn 45 [.rp [slD AclRule.enc a1c0], .rp [slD AclRule.enc a1c1]]] (.tup [.agg [.d (.int .i64 r.1.From), .d (.int .i64 r.1.To), .d (.int .i64 r.1.Kind)], .d (.bool r.2)]) [] := by
  refine pureC_m tOk (fn := Try.f43) (c := codeOf Try.f43) rfl rfl (by kernel_rfl) rfl rfl (by simp) (by simp) (ids_of rfl) ?_
  unfold impl_least_impl_AclDiffer_1_m at h
  conv => whnf
  obtain ⟨x1, hx1, h⟩ := bd_some h
  refine callC 1000 (impl_edges_impl_least_1_c hx1) (by kernel_rfl) (by kernel_rfl) ?_
  clear hx1
  conv => whnf
  refine seq_in tOk ?_
  conv => whnf
  obtain ⟨x2, hx2, h⟩ := bd_some h
  refine callC 2000 (impl_edges_impl_least_2_c hx2) (by kernel_rfl) (by kernel_rfl) ?_
  clear hx2
  conv => whnf
  obtain ⟨x6, hx6, h⟩ := bd_some h
  refine loop_m tOk hx6 (fun s3 => ⟨0, 43, [(1, .fn 45 [.rp [slD AclRule.enc a1c0], .rp [slD AclRule.enc a1c1]]), (4, .ref 4 0 0), (6, .osl 6001 0 x1.length), (16, .osl 7001 0 x2.length), (17, .d (.int .i64 ((x2.length : Nat) : Int))), (18, .d (.int .i64 s3))], [], [(7001, .arr 3 1 x2.length (rows encInt x2)), (6001, .arr 3 1 x1.length (rows encInt x1)), (4, .box 30 [.d (.int .i64 0), .d (.int .i64 0), .d (.int .i64 0)])], []⟩) ?_ ?_
  · refine le_mk ?_ ?_ ?_ <;> (repeat' first | ((conv => whnf); first | exact trivial | refine And.intro ?_ ?_ | exact BLe.refl _ | exact VLe.refl _) | exact trivial | exact rfl | refine And.intro ?_ ?_ | exact BLe.refl _ | exact VLe.refl _ | exact VLe.any _ | exact VLe.nil_osl rfl | exact VLe.nil_sl rfl | exact VLe.built rfl rfl | (refine VLe.osl rfl ?_; (first | rfl | (simp; done) | assumption | (simp [dsub_eq] <;> omega) | omega)) | exact VLe.rows (by first | rfl | (simp; done) | assumption | (simp [dsub_eq] <;> omega) | omega) (fun _ _ => rfl) | exact VLe.rows (by simp [dsub_eq] <;> omega) rows_take | exact VLe.rows (by simp [dsub_eq] <;> omega) rows_dt | exact VLe.rows (by simp [dsub_eq] <;> omega) rows_vt | exact VLe.rows (by simp) (fun i _ => by simp [viewRow_eq, Nat.add_comm]) | refine VLe.aggL ?_ | (refine BLe.rows rfl ?_ fun _ _ => rfl; (first | rfl | (simp; done) | assumption | (simp [dsub_eq] <;> omega) | omega)) | (refine BLe.rows rfl rfl ?_; first | exact rows_take) | refine BLe.box ?_)
  · clear hx6
    intro s3 y4 g5 hy4
    conv => whnf
    refine seq_in tOk ?_
    conv => whnf
    refine And.intro (fun e => ?_) (fun e => ?_)
    · replace g5 := ite_t g5 e; clear e
      conv => whnf
      refine seq_in tOk ?_
      conv => whnf
      obtain ⟨g7, g5⟩ := gd_some g5
      refine And.intro g7 ?_
      clear g7
      conv => whnf
      obtain ⟨x11, hx11, g5⟩ := bd_some g5
      refine loop_m tOk hx11 (fun s8 => ⟨0, 43, [(1, .fn 45 [.rp [slD AclRule.enc a1c0], .rp [slD AclRule.enc a1c1]]), (4, .ref 4 0 0), (6, .osl 6001 0 x1.length), (8, .d (.int .i64 (x2.getD s3.toNat default))), (16, .osl 7001 0 x2.length), (17, .d (.int .i64 ((x2.length : Nat) : Int))), (18, .d (.int .i64 s3)), (22, .osl 6001 0 x1.length), (23, .d (.int .i64 ((x1.length : Nat) : Int))), (24, .d (.int .i64 s8))], [], [(7001, .arr 3 1 x2.length (rows encInt x2)), (6001, .arr 3 1 x1.length (rows encInt x1)), (4, .box 30 [.d (.int .i64 0), .d (.int .i64 0), .d (.int .i64 0)])], []⟩) ?_ ?_
      · refine le_mk ?_ ?_ ?_ <;> (repeat' first | ((conv => whnf); first | exact trivial | refine And.intro ?_ ?_ | exact BLe.refl _ | exact VLe.refl _) | exact trivial | exact rfl | refine And.intro ?_ ?_ | exact BLe.refl _ | exact VLe.refl _ | exact VLe.any _ | exact VLe.nil_osl rfl | exact VLe.nil_sl rfl | exact VLe.built rfl rfl | (refine VLe.osl rfl ?_; (first | rfl | (simp; done) | assumption | (simp [dsub_eq] <;> omega) | omega)) | exact VLe.rows (by first | rfl | (simp; done) | assumption | (simp [dsub_eq] <;> omega) | omega) (fun _ _ => rfl) | exact VLe.rows (by simp [dsub_eq] <;> omega) rows_take | exact VLe.rows (by simp [dsub_eq] <;> omega) rows_dt | exact VLe.rows (by simp [dsub_eq] <;> omega) rows_vt | exact VLe.rows (by simp) (fun i _ => by simp [viewRow_eq, Nat.add_comm]) | refine VLe.aggL ?_ | (refine BLe.rows rfl ?_ fun _ _ => rfl; (first | rfl | (simp; done) | assumption | (simp [dsub_eq] <;> omega) | omega)) | (refine BLe.rows rfl rfl ?_; first | exact rows_take) | refine BLe.box ?_)
      · clear hx11
        intro s8 y9 g10 hy9
        conv => whnf
        refine seq_in tOk ?_
        conv => whnf
        refine And.intro (fun e => ?_) (fun e => ?_)
        · replace g10 := ite_t g10 e; clear e
          conv => whnf
          refine seq_in tOk ?_
          conv => whnf
          obtain ⟨g12, g10⟩ := gd_some g10
          refine And.intro g12 ?_
          clear g12
          conv => whnf
          obtain ⟨x16, hx16, g10⟩ := bd_some g10
          refine loop_m tOk hx16 (fun s13 => ⟨0, 43, [(1, .fn 45 [.rp [slD AclRule.enc a1c0], .rp [slD AclRule.enc a1c1]]), (4, .ref 4 0 0), (6, .osl 6001 0 x1.length), (8, .d (.int .i64 (x2.getD s3.toNat default))), (10, .d (.int .i64 (x1.getD s8.toNat default))), (11, .d (.int .i64 s13)), (16, .osl 7001 0 x2.length), (17, .d (.int .i64 ((x2.length : Nat) : Int))), (18, .d (.int .i64 s3)), (22, .osl 6001 0 x1.length), (23, .d (.int .i64 ((x1.length : Nat) : Int))), (24, .d (.int .i64 s8))], [], [(7001, .arr 3 1 x2.length (rows encInt x2)), (6001, .arr 3 1 x1.length (rows encInt x1)), (4, .box 30 [.d (.int .i64 0), .d (.int .i64 0), .d (.int .i64 0)])], []⟩) ?_ ?_
          · refine le_mk ?_ ?_ ?_ <;> (repeat' first | ((conv => whnf); first | exact trivial | refine And.intro ?_ ?_ | exact BLe.refl _ | exact VLe.refl _) | exact trivial | exact rfl | refine And.intro ?_ ?_ | exact BLe.refl _ | exact VLe.refl _ | exact VLe.any _ | exact VLe.nil_osl rfl | exact VLe.nil_sl rfl | exact VLe.built rfl rfl | (refine VLe.osl rfl ?_; (first | rfl | (simp; done) | assumption | (simp [dsub_eq] <;> omega) | omega)) | exact VLe.rows (by first | rfl | (simp; done) | assumption | (simp [dsub_eq] <;> omega) | omega) (fun _ _ => rfl) | exact VLe.rows (by simp [dsub_eq] <;> omega) rows_take | exact VLe.rows (by simp [dsub_eq] <;> omega) rows_dt | exact VLe.rows (by simp [dsub_eq] <;> omega) rows_vt | exact VLe.rows (by simp) (fun i _ => by simp [viewRow_eq, Nat.add_comm]) | refine VLe.aggL ?_ | (refine BLe.rows rfl ?_ fun _ _ => rfl; (first | rfl | (simp; done) | assumption | (simp [dsub_eq] <;> omega) | omega)) | (refine BLe.rows rfl rfl ?_; first | exact rows_take) | refine BLe.box ?_)
          · clear hx16
            intro s13 y14 g15 hy14
            conv => whnf
            refine seq_in tOk ?_
            conv => whnf
            refine And.intro (fun e => ?_) (fun e => ?_)
            · replace g15 := ite_t g15 e; clear e
              conv => whnf
              refine seq_in tOk ?_
              conv => whnf
              obtain ⟨x17, hx17, g15⟩ := bd_some g15
              refine callC 0 (impl_AclDiffer_1_c hx17) (by kernel_rfl) (by kernel_rfl) ?_
              clear hx17
              conv => whnf
              refine And.intro (fun e => ?_) (fun e => ?_)
              · replace g15 := ite_t g15 e; clear e
                conv => whnf
                obtain rfl := Option.some.inj g15
                obtain rfl := hy14 _ rfl
                obtain rfl := Option.some.inj g10
                obtain rfl := hy9 _ rfl
                obtain rfl := Option.some.inj g5
                obtain rfl := hy4 _ rfl
                obtain rfl := Option.some.inj h
                exact ⟨_, LE.refl _, And.intro rfl trivial⟩
              · replace g15 := ite_f g15 e; clear e
                conv => whnf
                obtain rfl := Option.some.inj g15
                refine ⟨_, rfl, le_mk ?_ ?_ ?_⟩ <;> (repeat' first | ((conv => whnf); first | exact trivial | refine And.intro ?_ ?_ | exact BLe.refl _ | exact VLe.refl _) | exact trivial | exact rfl | refine And.intro ?_ ?_ | exact BLe.refl _ | exact VLe.refl _ | exact VLe.any _ | exact VLe.nil_osl rfl | exact VLe.nil_sl rfl | exact VLe.built rfl rfl | (refine VLe.osl rfl ?_; (first | rfl | (simp; done) | assumption | (simp [dsub_eq] <;> omega) | omega)) | exact VLe.rows (by first | rfl | (simp; done) | assumption | (simp [dsub_eq] <;> omega) | omega) (fun _ _ => rfl) | exact VLe.rows (by simp [dsub_eq] <;> omega) rows_take | exact VLe.rows (by simp [dsub_eq] <;> omega) rows_dt | exact VLe.rows (by simp [dsub_eq] <;> omega) rows_vt | exact VLe.rows (by simp) (fun i _ => by simp [viewRow_eq, Nat.add_comm]) | refine VLe.aggL ?_ | (refine BLe.rows rfl ?_ fun _ _ => rfl; (first | rfl | (simp; done) | assumption | (simp [dsub_eq] <;> omega) | omega)) | (refine BLe.rows rfl rfl ?_; first | exact rows_take) | refine BLe.box ?_)
            · replace g15 := ite_f g15 e; clear e
              conv => whnf
              obtain rfl := Option.some.inj g15
              obtain rfl := hy14 _ rfl
              obtain rfl := Option.some.inj g10
              refine ⟨_, rfl, le_mk ?_ ?_ ?_⟩ <;> (repeat' first | ((conv => whnf); first | exact trivial | refine And.intro ?_ ?_ | exact BLe.refl _ | exact VLe.refl _) | exact trivial | exact rfl | refine And.intro ?_ ?_ | exact BLe.refl _ | exact VLe.refl _ | exact VLe.any _ | exact VLe.nil_osl rfl | exact VLe.nil_sl rfl | exact VLe.built rfl rfl | (refine VLe.osl rfl ?_; (first | rfl | (simp; done) | assumption | (simp [dsub_eq] <;> omega) | omega)) | exact VLe.rows (by first | rfl | (simp; done) | assumption | (simp [dsub_eq] <;> omega) | omega) (fun _ _ => rfl) | exact VLe.rows (by simp [dsub_eq] <;> omega) rows_take | exact VLe.rows (by simp [dsub_eq] <;> omega) rows_dt | exact VLe.rows (by simp [dsub_eq] <;> omega) rows_vt | exact VLe.rows (by simp) (fun i _ => by simp [viewRow_eq, Nat.add_comm]) | refine VLe.aggL ?_ | (refine BLe.rows rfl ?_ fun _ _ => rfl; (first | rfl | (simp; done) | assumption | (simp [dsub_eq] <;> omega) | omega)) | (refine BLe.rows rfl rfl ?_; first | exact rows_take) | refine BLe.box ?_)
        · replace g10 := ite_f g10 e; clear e
          conv => whnf
          obtain rfl := Option.some.inj g10
          obtain rfl := hy9 _ rfl
          obtain rfl := Option.some.inj g5
          refine ⟨_, rfl, le_mk ?_ ?_ ?_⟩ <;> (repeat' first | ((conv => whnf); first | exact trivial | refine And.intro ?_ ?_ | exact BLe.refl _ | exact VLe.refl _) | exact trivial | exact rfl | refine And.intro ?_ ?_ | exact BLe.refl _ | exact VLe.refl _ | exact VLe.any _ | exact VLe.nil_osl rfl | exact VLe.nil_sl rfl | exact VLe.built rfl rfl | (refine VLe.osl rfl ?_; (first | rfl | (simp; done) | assumption | (simp [dsub_eq] <;> omega) | omega)) | exact VLe.rows (by first | rfl | (simp; done) | assumption | (simp [dsub_eq] <;> omega) | omega) (fun _ _ => rfl) | exact VLe.rows (by simp [dsub_eq] <;> omega) rows_take | exact VLe.rows (by simp [dsub_eq] <;> omega) rows_dt | exact VLe.rows (by simp [dsub_eq] <;> omega) rows_vt | exact VLe.rows (by simp) (fun i _ => by simp [viewRow_eq, Nat.add_comm]) | refine VLe.aggL ?_ | (refine BLe.rows rfl ?_ fun _ _ => rfl; (first | rfl | (simp; done) | assumption | (simp [dsub_eq] <;> omega) | omega)) | (refine BLe.rows rfl rfl ?_; first | exact rows_take) | refine BLe.box ?_)
    · replace g5 := ite_f g5 e; clear e
      conv => whnf
      obtain rfl := Option.some.inj g5
      obtain rfl := hy4 _ rfl
      obtain rfl := Option.some.inj h
      exact ⟨_, LE.refl _, And.intro rfl trivial⟩

noncomputable def impl_AclDiffer_m (a0 : (List AclRule)) (a1 : (List AclRule)) : Option (AclPacket × Bool) :=
 bd (impl_AclOk_m a0) fun x1 =>
 bd (gcall ((!x1) = false) (impl_AclOk_m a1)) fun x2 =>
(if ((!x1) || (!x2)) = true then
 some ((⟨0, 0, 0⟩ : AclPacket), false)
else
 bd (impl_clone_AclRule_m a0) fun x3 =>
 gd (((x3.length) + (a1.length)) * (48 + 1) ≤ 70368744177664) <|
 bd (impl_least_impl_AclDiffer_1_m (x3 ++ a1) a0 a1) fun x5 =>
 some (x5.1, x5.2))

theorem impl_AclDiffer_c {a0 : (List AclRule)} {a1 : (List AclRule)} {r : AclPacket × Bool} (h : impl_AclDiffer_m a0 a1 = some r) : PureC Try.prog 18 [.d (slD AclRule.enc a0), .d (slD AclRule.enc a1)] (.tup [.agg [.d (.int .i64 r.1.From), .d (.int .i64 r.1.To), .d (.int .i64 r.1.Kind)], .d (.bool r.2)]) [] := by
  refine pureC_m tOk (fn := Try.f18) (c := codeOf Try.f18) rfl rfl (by kernel_rfl) rfl rfl (by simp) (by simp) (ids_of rfl) ?_
  unfold impl_AclDiffer_m at h
  conv => whnf
  refine seq_in tOk ?_
  conv => whnf
  obtain ⟨x1, hx1, h⟩ := bd_some h
  refine callC 0 (impl_AclOk_c hx1) (by kernel_rfl) (by kernel_rfl) ?_
  clear hx1
  conv => whnf
  obtain ⟨x2, hx2, h⟩ := bd_some h
  refine callG_m rfl rfl rfl rfl rfl rfl (by intro c0; exact impl_AclOk_c (gcall_some hx2 c0)) ?_
  conv => whnf
  refine And.intro (fun e => ?_) (fun e => ?_)
  · replace h := ite_t h e; clear e
    conv => whnf
    obtain rfl := Option.some.inj h
    exact ⟨_, LE.refl _, And.intro rfl trivial⟩
  · replace h := ite_f h e; clear e
    conv => whnf
    obtain ⟨x3, hx3, h⟩ := bd_some h
    obtain ⟨g4, h⟩ := gd_some h
    obtain ⟨x5, hx5, h⟩ := bd_some h
    refine draw_gk tOk (by kernel_rfl) (fun j => match j with | 0 => some (.app [(2, .box 28 [.d (slD AclRule.enc a0)])] (.d (slD AclRule.enc a0)) [(2, .box 28 [.d (slD AclRule.enc a0)])]) | 1 => some (.eff (.osl 6001 0 x3.length) [] [(6001, .arr 41 6 x3.length (rows AclRule.enc x3))] (fun g vs => EffD Try.prog [] g vs (.osl 6001 0 x3.length) [] [(6001, .arr 41 6 x3.length (rows AclRule.enc x3))]) (LeB [] [(6001, .arr 41 6 x3.length (rows AclRule.enc x3))])) | 2 => some (.app [(3, .box 28 [.d (slD AclRule.enc a1)])] (.d (slD AclRule.enc a1)) [(3, .box 28 [.d (slD AclRule.enc a1)])]) | 3 => some (.app [(6001, .arr 41 6 x3.length (rows AclRule.enc x3))] (.osl 18 0 ((x3 ++ a1).length)) [(18, .arr 41 6 ((x3 ++ a1).length) (rows AclRule.enc (x3 ++ a1)))]) | 5 => some (.eff (.tup [.agg [.d (.int .i64 x5.1.From), .d (.int .i64 x5.1.To), .d (.int .i64 x5.1.Kind)], .d (.bool x5.2)]) [] [(2, .box 28 [.d (slD AclRule.enc a0)]), (3, .box 28 [.d (slD AclRule.enc a1)]), (18, .arr 41 6 ((x3 ++ a1).length) (rows AclRule.enc (x3 ++ a1)))] (fun g vs => EffD Try.prog [(2, .box 28 [.d (slD AclRule.enc a0)]), (3, .box 28 [.d (slD AclRule.enc a1)]), (18, .arr 41 6 ((x3 ++ a1).length) (rows AclRule.enc (x3 ++ a1)))] g vs (.tup [.agg [.d (.int .i64 x5.1.From), .d (.int .i64 x5.1.To), .d (.int .i64 x5.1.Kind)], .d (.bool x5.2)]) [] [(2, .box 28 [.d (slD AclRule.enc a0)]), (3, .box 28 [.d (slD AclRule.enc a1)]), (18, .arr 41 6 ((x3 ++ a1).length) (rows AclRule.enc (x3 ++ a1)))]) (LeB [(2, .box 28 [.d (slD AclRule.enc a0)]), (3, .box 28 [.d (slD AclRule.enc a1)]), (18, .arr 41 6 ((x3 ++ a1).length) (rows AclRule.enc (x3 ++ a1)))] [(2, .box 28 [.d (slD AclRule.enc a0)]), (3, .box 28 [.d (slD AclRule.enc a1)]), (18, .arr 41 6 ((x3 ++ a1).length) (rows AclRule.enc (x3 ++ a1)))])) | _ => none) (fun j => match j with | 0 => [(2, .box 28 [.d (slD AclRule.enc a0)])] | 2 => [(3, .box 28 [.d (slD AclRule.enc a1)])] | 3 => [(6001, .arr 41 6 x3.length (rows AclRule.enc x3))] | 5 => [(2, .box 28 [.d (slD AclRule.enc a0)]), (3, .box 28 [.d (slD AclRule.enc a1)]), (18, .arr 41 6 ((x3 ++ a1).length) (rows AclRule.enc (x3 ++ a1)))] | _ => []) (fun j => match j with | 0 => [2] | 2 => [3] | 5 => [2, 3, 18] | _ => []) 8 [] [[], [true], [], [true, true, true], [], [true, true, true, true, true], [true, true, true, true, true, true], [true, true, true, true, true, true]] [[true, true, true, true, true, true, true, true], [true, true, true, true, true, true, true, true, true]] [2, 3] (by decide) (by kernel_rfl) (chainG_pure rfl (chainG_pure rfl (chainG_eff rfl (fun _ _ h => h) (fun h => h) rfl rfl (chainG_pure rfl (chainG_app rfl rfl rfl rfl (chainG_app rfl rfl rfl rfl (chainG_eff rfl (fun _ _ h => h) (fun h => h) rfl rfl (chainG_app rfl rfl rfl rfl (chainG_nil))))))))) (by kernel_rfl) ?_
    conv => whnf
    refine And.intro (by (conv => whnf); exact ⟨rfl, rfl⟩) ?_
    conv => whnf
    refine And.intro (effD_mkH [] 1000 ((impl_clone_AclRule_c hx3).eff rfl rfl) (by (repeat' first | ((conv => whnf); first | exact trivial | refine And.intro ?_ ?_ | exact BLe.refl _ | exact VLe.refl _) | exact trivial | refine And.intro ?_ ?_ | exact VLe.refl _ | exact VLe.any _ | exact VLe.nil_osl rfl | exact VLe.nil_sl rfl | exact VLe.built rfl rfl | (refine VLe.osl rfl ?_; (first | rfl | (simp; done) | assumption | (simp [dsub_eq] <;> omega) | omega)) | exact VLe.rows (by first | rfl | (simp; done) | assumption | (simp [dsub_eq] <;> omega) | omega) (fun _ _ => rfl) | exact VLe.rows (by simp [dsub_eq] <;> omega) rows_take | exact VLe.rows (by simp [dsub_eq] <;> omega) rows_dt | exact VLe.rows (by simp [dsub_eq] <;> omega) rows_vt | exact VLe.rows (by simp) (fun i _ => by simp [viewRow_eq, Nat.add_comm]) | refine VLe.aggL ?_)) (by (repeat' first | ((conv => whnf); first | exact trivial | refine And.intro ?_ ?_ | exact BLe.refl _ | exact VLe.refl _) | exact trivial | exact rfl | refine And.intro ?_ ?_ | exact BLe.refl _ | exact VLe.refl _ | exact VLe.any _ | exact VLe.nil_osl rfl | exact VLe.nil_sl rfl | exact VLe.built rfl rfl | (refine VLe.osl rfl ?_; (first | rfl | (simp; done) | assumption | (simp [dsub_eq] <;> omega) | omega)) | exact VLe.rows (by first | rfl | (simp; done) | assumption | (simp [dsub_eq] <;> omega) | omega) (fun _ _ => rfl) | exact VLe.rows (by simp [dsub_eq] <;> omega) rows_take | exact VLe.rows (by simp [dsub_eq] <;> omega) rows_dt | exact VLe.rows (by simp [dsub_eq] <;> omega) rows_vt | exact VLe.rows (by simp) (fun i _ => by simp [viewRow_eq, Nat.add_comm]) | refine VLe.aggL ?_ | (refine BLe.rows rfl ?_ fun _ _ => rfl; (first | rfl | (simp; done) | assumption | (simp [dsub_eq] <;> omega) | omega)) | refine BLe.box ?_ | (simp; done))) rfl rfl rfl rfl) ?_
    conv => whnf
    refine And.intro (by (conv => whnf); exact ⟨rfl, rfl⟩) ?_
    conv => whnf
    refine And.intro (by (conv => whnf); exact ⟨g4, (x3 ++ a1).length, rows AclRule.enc (x3 ++ a1), (by first | rfl | (simp; done) | assumption | (simp [dsub_eq] <;> omega) | omega), (by first | exact app_rows (m := a1.length) (by first | rfl | (simp; done) | assumption | (simp [dsub_eq] <;> omega) | omega) (by first | rfl | (simp; done) | assumption | (simp [dsub_eq] <;> omega) | omega) (fun _ _ => rfl) (fun _ _ => rfl) | exact app_rows0 (m := a1.length) (by first | rfl | (simp; done) | assumption | (simp [dsub_eq] <;> omega) | omega) (fun _ _ => rfl) | exact app_rows (m := a1.length) (by first | rfl | (simp; done) | assumption | (simp [dsub_eq] <;> omega) | omega) (by first | rfl | (simp; done) | assumption | (simp [dsub_eq] <;> omega) | omega) (by first | exact fun _ _ => rfl | exact rows_take | (intro i hi; simp only [viewRow_eq, addOff_eq, Int.toNat_zero, Nat.zero_add, Nat.add_zero]; exact rows_take i hi) | exact rows_vt | exact rows_dt | (intro i hi; simp only [viewRow_eq, Nat.zero_add]) | (intro i hi; simp [viewRow_eq])) (by first | exact fun _ _ => rfl | exact rows_take | (intro i hi; simp only [viewRow_eq, addOff_eq, Int.toNat_zero, Nat.zero_add, Nat.add_zero]; exact rows_take i hi) | exact rows_vt | exact rows_dt | (intro i hi; simp only [viewRow_eq, Nat.zero_add]) | (intro i hi; simp [viewRow_eq])) | exact app_rows0 (m := a1.length) (by first | rfl | (simp; done) | assumption | (simp [dsub_eq] <;> omega) | omega) (by first | exact fun _ _ => rfl | exact rows_take | (intro i hi; simp only [viewRow_eq, addOff_eq, Int.toNat_zero, Nat.zero_add, Nat.add_zero]; exact rows_take i hi) | exact rows_vt | exact rows_dt | (intro i hi; simp only [viewRow_eq, Nat.zero_add]) | (intro i hi; simp [viewRow_eq]))), rfl, rfl⟩) ?_
    conv => whnf
    refine And.intro (effD_mk [(2, 2), (3, 3), (18, 18)] 0 ((impl_least_impl_AclDiffer_1_c hx5).effV (args := [.osl 18 0 ((x3 ++ a1).length), .fn 45 [.ref 2 0 0, .ref 3 0 0]]) (bs := [(2, .box 28 [.d (slD AclRule.enc a0)]), (3, .box 28 [.d (slD AclRule.enc a1)]), (18, .arr 41 6 ((x3 ++ a1).length) (rows AclRule.enc (x3 ++ a1)))]) rfl (by kernel_rfl) rfl rfl rfl) (by (repeat' first | ((conv => whnf); first | exact trivial | refine And.intro ?_ ?_ | exact BLe.refl _ | exact VLe.refl _) | exact trivial | refine And.intro ?_ ?_ | exact VLe.refl _ | exact VLe.any _ | exact VLe.nil_osl rfl | exact VLe.nil_sl rfl | exact VLe.built rfl rfl | (refine VLe.osl rfl ?_; (first | rfl | (simp; done) | assumption | (simp [dsub_eq] <;> omega) | omega)) | exact VLe.rows (by first | rfl | (simp; done) | assumption | (simp [dsub_eq] <;> omega) | omega) (fun _ _ => rfl) | exact VLe.rows (by simp [dsub_eq] <;> omega) rows_take | exact VLe.rows (by simp [dsub_eq] <;> omega) rows_dt | exact VLe.rows (by simp [dsub_eq] <;> omega) rows_vt | exact VLe.rows (by simp) (fun i _ => by simp [viewRow_eq, Nat.add_comm]) | refine VLe.aggL ?_)) (by (repeat' first | ((conv => whnf); first | exact trivial | refine And.intro ?_ ?_ | exact BLe.refl _ | exact VLe.refl _) | exact trivial | exact rfl | refine And.intro ?_ ?_ | exact BLe.refl _ | exact VLe.refl _ | exact VLe.any _ | exact VLe.nil_osl rfl | exact VLe.nil_sl rfl | exact VLe.built rfl rfl | (refine VLe.osl rfl ?_; (first | rfl | (simp; done) | assumption | (simp [dsub_eq] <;> omega) | omega)) | exact VLe.rows (by first | rfl | (simp; done) | assumption | (simp [dsub_eq] <;> omega) | omega) (fun _ _ => rfl) | exact VLe.rows (by simp [dsub_eq] <;> omega) rows_take | exact VLe.rows (by simp [dsub_eq] <;> omega) rows_dt | exact VLe.rows (by simp [dsub_eq] <;> omega) rows_vt | exact VLe.rows (by simp) (fun i _ => by simp [viewRow_eq, Nat.add_comm]) | refine VLe.aggL ?_ | (refine BLe.rows rfl ?_ fun _ _ => rfl; (first | rfl | (simp; done) | assumption | (simp [dsub_eq] <;> omega) | omega)) | refine BLe.box ?_ | (simp; done))) rfl rfl rfl rfl) ?_
    conv => whnf
    refine And.intro (by kernel_rfl) ?_
    conv => whnf
    obtain rfl := Option.some.inj h
    exact ⟨_, LE.refl _, And.intro rfl trivial⟩

noncomputable def laws_eqAclPacket_m (a0 : AclPacket) (a1 : AclPacket) : Option (Bool) :=
(if (a0.From != a1.From) = true then
 some false
else
(if (a0.To != a1.To) = true then
 some false
else
(if (a0.Kind != a1.Kind) = true then
 some false
else
 some true)))

theorem laws_eqAclPacket_c {a0 : AclPacket} {a1 : AclPacket} {r : Bool} (h : laws_eqAclPacket_m a0 a1 = some r) : PureC Try.prog 19 [.agg [.d (.int .i64 a0.From), .d (.int .i64 a0.To), .d (.int .i64 a0.Kind)], .agg [.d (.int .i64 a1.From), .d (.int .i64 a1.To), .d (.int .i64 a1.Kind)]] (.d (.bool r)) [] := by
  refine pureC_m tOk (fn := Try.f19) (c := codeOf Try.f19) rfl rfl (by kernel_rfl) rfl rfl (by simp) (by simp) (ids_of rfl) ?_
  unfold laws_eqAclPacket_m at h
  conv => whnf
  refine seq_in tOk ?_
  conv => whnf
  refine And.intro (fun e => ?_) (fun e => ?_)
  · replace h := ite_t h e; clear e
    conv => whnf
    obtain rfl := Option.some.inj h
    exact ⟨_, LE.refl _, And.intro rfl trivial⟩
  · replace h := ite_f h e; clear e
    conv => whnf
    refine seq_in tOk ?_
    conv => whnf
    refine And.intro (fun e => ?_) (fun e => ?_)
    · replace h := ite_t h e; clear e
      conv => whnf
      obtain rfl := Option.some.inj h
      exact ⟨_, LE.refl _, And.intro rfl trivial⟩
    · replace h := ite_f h e; clear e
      conv => whnf
      refine seq_in tOk ?_
      conv => whnf
      refine And.intro (fun e => ?_) (fun e => ?_)
      · replace h := ite_t h e; clear e
        conv => whnf
        obtain rfl := Option.some.inj h
        exact ⟨_, LE.refl _, And.intro rfl trivial⟩
      · replace h := ite_f h e; clear e
        conv => whnf
        obtain rfl := Option.some.inj h
        exact ⟨_, LE.refl _, And.intro rfl trivial⟩

noncomputable def laws_eqNetPrefix_m (a0 : NetPrefix) (a1 : NetPrefix) : Option (Bool) :=
(if (a0.Addr != a1.Addr) = true then
 some false
else
(if (a0.Len != a1.Len) = true then
 some false
else
 some true))

theorem laws_eqNetPrefix_c {a0 : NetPrefix} {a1 : NetPrefix} {r : Bool} (h : laws_eqNetPrefix_m a0 a1 = some r) : PureC Try.prog 55 [.agg [.d (.int .i64 a0.Addr), .d (.int .i64 a0.Len)], .agg [.d (.int .i64 a1.Addr), .d (.int .i64 a1.Len)]] (.d (.bool r)) [] := by
  refine pureC_m tOk (fn := Try.f55) (c := codeOf Try.f55) rfl rfl (by kernel_rfl) rfl rfl (by simp) (by simp) (ids_of rfl) ?_
  unfold laws_eqNetPrefix_m at h
  conv => whnf
  refine seq_in tOk ?_
  conv => whnf
  refine And.intro (fun e => ?_) (fun e => ?_)
  · replace h := ite_t h e; clear e
    conv => whnf
    obtain rfl := Option.some.inj h
    exact ⟨_, LE.refl _, And.intro rfl trivial⟩
  · replace h := ite_f h e; clear e
    conv => whnf
    refine seq_in tOk ?_
    conv => whnf
    refine And.intro (fun e => ?_) (fun e => ?_)
    · replace h := ite_t h e; clear e
      conv => whnf
      obtain rfl := Option.some.inj h
      exact ⟨_, LE.refl _, And.intro rfl trivial⟩
    · replace h := ite_f h e; clear e
      conv => whnf
      obtain rfl := Option.some.inj h
      exact ⟨_, LE.refl _, And.intro rfl trivial⟩

noncomputable def laws_eqAclRule_m (a0 : AclRule) (a1 : AclRule) : Option (Bool) :=
(if (!(a0.Permit == a1.Permit)) = true then
 some false
else
 bd (laws_eqNetPrefix_m a0.From a1.From) fun x1 =>
(if (!x1) = true then
 some false
else
 bd (laws_eqNetPrefix_m a0.To a1.To) fun x2 =>
(if (!x2) = true then
 some false
else
(if (a0.Kind != a1.Kind) = true then
 some false
else
 some true))))

theorem laws_eqAclRule_c {a0 : AclRule} {a1 : AclRule} {r : Bool} (h : laws_eqAclRule_m a0 a1 = some r) : PureC Try.prog 36 [.agg [.d (.bool a0.Permit), .d (.int .i64 a0.From.Addr), .d (.int .i64 a0.From.Len), .d (.int .i64 a0.To.Addr), .d (.int .i64 a0.To.Len), .d (.int .i64 a0.Kind)], .agg [.d (.bool a1.Permit), .d (.int .i64 a1.From.Addr), .d (.int .i64 a1.From.Len), .d (.int .i64 a1.To.Addr), .d (.int .i64 a1.To.Len), .d (.int .i64 a1.Kind)]] (.d (.bool r)) [] := by
  refine pureC_m tOk (fn := Try.f36) (c := codeOf Try.f36) rfl rfl (by kernel_rfl) rfl rfl (by simp) (by simp) (ids_of rfl) ?_
  unfold laws_eqAclRule_m at h
  conv => whnf
  refine seq_in tOk ?_
  conv => whnf
  refine And.intro (fun e => ?_) (fun e => ?_)
  · replace h := ite_t h e; clear e
    conv => whnf
    obtain rfl := Option.some.inj h
    exact ⟨_, LE.refl _, And.intro rfl trivial⟩
  · replace h := ite_f h e; clear e
    conv => whnf
    refine seq_in tOk ?_
    conv => whnf
    obtain ⟨x1, hx1, h⟩ := bd_some h
    refine callC 0 (laws_eqNetPrefix_c hx1) (by kernel_rfl) (by kernel_rfl) ?_
    clear hx1
    conv => whnf
    refine And.intro (fun e => ?_) (fun e => ?_)
    · replace h := ite_t h e; clear e
      conv => whnf
      obtain rfl := Option.some.inj h
      exact ⟨_, LE.refl _, And.intro rfl trivial⟩
    · replace h := ite_f h e; clear e
      conv => whnf
      refine seq_in tOk ?_
      conv => whnf
      obtain ⟨x2, hx2, h⟩ := bd_some h
      refine callC 0 (laws_eqNetPrefix_c hx2) (by kernel_rfl) (by kernel_rfl) ?_
      clear hx2
      conv => whnf
      refine And.intro (fun e => ?_) (fun e => ?_)
      · replace h := ite_t h e; clear e
        conv => whnf
        obtain rfl := Option.some.inj h
        exact ⟨_, LE.refl _, And.intro rfl trivial⟩
      · replace h := ite_f h e; clear e
        conv => whnf
        refine seq_in tOk ?_
        conv => whnf
        refine And.intro (fun e => ?_) (fun e => ?_)
        · replace h := ite_t h e; clear e
          conv => whnf
          obtain rfl := Option.some.inj h
          exact ⟨_, LE.refl _, And.intro rfl trivial⟩
        · replace h := ite_f h e; clear e
          conv => whnf
          obtain rfl := Option.some.inj h
          exact ⟨_, LE.refl _, And.intro rfl trivial⟩

noncomputable def laws_eqAclRuleS_m (a0 : (List AclRule)) (a1 : (List AclRule)) : Option (Bool) :=
(if (((a0.length : Nat) : Int) != ((a1.length : Nat) : Int)) = true then
 some false
else
 bd (lp (σ := Int) (β := (Unit ⊕ Unit)) (fun s1 =>
(if (decide (s1 < ((a0.length : Nat) : Int))) = true then
 gd ((0 : Int) ≤ s1 ∧ s1 < ((a0.length : Nat) : Int)) <|
 gd ((0 : Int) ≤ s1 ∧ s1 < ((a1.length : Nat) : Int)) <|
 bd (laws_eqAclRule_m ({ (a0.getD s1.toNat default) with From := ((a0.getD s1.toNat default).From), To := ((a0.getD s1.toNat default).To) }) ({ (a1.getD s1.toNat default) with From := ((a1.getD s1.toNat default).From), To := ((a1.getD s1.toNat default).To) })) fun x7 =>
(if (!x7) = true then
 some (.inr (.inl ()))
else
 some (.inl (IntKind.i64.wrap (s1 + 1))))
else
 some (.inr (.inr ())))) 0) fun x4 =>
(match x4 with
| .inl d8 =>
 some false
| .inr d9 =>
 some true))

theorem laws_eqAclRuleS_c {a0 : (List AclRule)} {a1 : (List AclRule)} {r : Bool} (h : laws_eqAclRuleS_m a0 a1 = some r) : PureC Try.prog 14 [.d (slD AclRule.enc a0), .d (slD AclRule.enc a1)] (.d (.bool r)) [] := by
  refine pureC_m tOk (fn := Try.f14) (c := codeOf Try.f14) rfl rfl (by kernel_rfl) rfl rfl (by simp) (by simp) (ids_of rfl) ?_
  unfold laws_eqAclRuleS_m at h
  conv => whnf
  refine seq_in tOk ?_
  conv => whnf
  refine And.intro (fun e => ?_) (fun e => ?_)
  · replace h := ite_t h e; clear e
    conv => whnf
    obtain rfl := Option.some.inj h
    exact ⟨_, LE.refl _, And.intro rfl trivial⟩
  · replace h := ite_f h e; clear e
    conv => whnf
    refine seq_in tOk ?_
    conv => whnf
    obtain ⟨x4, hx4, h⟩ := bd_some h
    refine loop_m tOk hx4 (fun s1 => ⟨0, 27, [(0, .d (slD AclRule.enc a0)), (1, .d (slD AclRule.enc a1)), (5, .d (.int .i64 s1))], [], [], []⟩) ?_ ?_
    · refine le_mk ?_ ?_ ?_ <;> (repeat' first | ((conv => whnf); first | exact trivial | refine And.intro ?_ ?_ | exact BLe.refl _ | exact VLe.refl _) | exact trivial | exact rfl | refine And.intro ?_ ?_ | exact BLe.refl _ | exact VLe.refl _ | exact VLe.any _ | exact VLe.nil_osl rfl | exact VLe.nil_sl rfl | exact VLe.built rfl rfl | (refine VLe.osl rfl ?_; (first | rfl | (simp; done) | assumption | (simp [dsub_eq] <;> omega) | omega)) | exact VLe.rows (by first | rfl | (simp; done) | assumption | (simp [dsub_eq] <;> omega) | omega) (fun _ _ => rfl) | exact VLe.rows (by simp [dsub_eq] <;> omega) rows_take | exact VLe.rows (by simp [dsub_eq] <;> omega) rows_dt | exact VLe.rows (by simp [dsub_eq] <;> omega) rows_vt | exact VLe.rows (by simp) (fun i _ => by simp [viewRow_eq, Nat.add_comm]) | refine VLe.aggL ?_ | (refine BLe.rows rfl ?_ fun _ _ => rfl; (first | rfl | (simp; done) | assumption | (simp [dsub_eq] <;> omega) | omega)) | (refine BLe.rows rfl rfl ?_; first | exact rows_take) | refine BLe.box ?_)
    · clear hx4
      intro s1 y2 g3 hy2
      conv => whnf
      refine seq_in tOk ?_
      conv => whnf
      refine And.intro (fun e => ?_) (fun e => ?_)
      · replace g3 := ite_t g3 e; clear e
        conv => whnf
        refine seq_in tOk ?_
        conv => whnf
        obtain ⟨g5, g3⟩ := gd_some g3
        obtain ⟨g6, g3⟩ := gd_some g3
        obtain ⟨x7, hx7, g3⟩ := bd_some g3
        refine draw_k tOk (by kernel_rfl) (fun j => match j with | 8 => some (.pure 0 (.d (.bool x7)) []) | _ => none) 10 [] [[], [], [true, true], [true, true, true], [], [], [false, false, false, false, true, true], [false, false, false, false, true, true, true], [true, true, true, true, true, true, true, true], [true, true, true, true, true, true, true, true, true]] [] (by decide) (by kernel_rfl) (by kernel_rfl) ?_
        conv => whnf
        refine And.intro g5 ?_
        clear g5
        conv => whnf
        refine And.intro g6 ?_
        clear g6
        conv => whnf
        refine And.intro (callD_any (laws_eqAclRule_c hx7) (by kernel_rfl)) ?_
        conv => whnf
        refine And.intro (by kernel_rfl) ?_
        conv => whnf
        refine And.intro (fun e => ?_) (fun e => ?_)
        · replace g3 := ite_t g3 e; clear e
          conv => whnf
          obtain rfl := Option.some.inj g3
          obtain rfl := hy2 _ rfl
          obtain rfl := Option.some.inj h
          exact ⟨_, LE.refl _, And.intro rfl trivial⟩
        · replace g3 := ite_f g3 e; clear e
          conv => whnf
          obtain rfl := Option.some.inj g3
          refine ⟨_, rfl, le_mk ?_ ?_ ?_⟩ <;> (repeat' first | ((conv => whnf); first | exact trivial | refine And.intro ?_ ?_ | exact BLe.refl _ | exact VLe.refl _) | exact trivial | exact rfl | refine And.intro ?_ ?_ | exact BLe.refl _ | exact VLe.refl _ | exact VLe.any _ | exact VLe.nil_osl rfl | exact VLe.nil_sl rfl | exact VLe.built rfl rfl | (refine VLe.osl rfl ?_; (first | rfl | (simp; done) | assumption | (simp [dsub_eq] <;> omega) | omega)) | exact VLe.rows (by first | rfl | (simp; done) | assumption | (simp [dsub_eq] <;> omega) | omega) (fun _ _ => rfl) | exact VLe.rows (by simp [dsub_eq] <;> omega) rows_take | exact VLe.rows (by simp [dsub_eq] <;> omega) rows_dt | exact VLe.rows (by simp [dsub_eq] <;> omega) rows_vt | exact VLe.rows (by simp) (fun i _ => by simp [viewRow_eq, Nat.add_comm]) | refine VLe.aggL ?_ | (refine BLe.rows rfl ?_ fun _ _ => rfl; (first | rfl | (simp; done) | assumption | (simp [dsub_eq] <;> omega) | omega)) | (refine BLe.rows rfl rfl ?_; first | exact rows_take) | refine BLe.box ?_)
      · replace g3 := ite_f g3 e; clear e
        conv => whnf
        obtain rfl := Option.some.inj g3
        obtain rfl := hy2 _ rfl
        obtain rfl := Option.some.inj h
        exact ⟨_, LE.refl _, And.intro rfl trivial⟩

noncomputable def laws_FnExactAclDiffer_m (a0 : (List AclRule)) (a1 : (List AclRule)) : Option (Bool) :=
 bd (laws_szAclRuleS_m a0 1048576) fun x1 =>
(if (decide (x1 < 0)) = true then
 some true
else
 bd (laws_szAclRuleS_m a1 x1) fun x2 =>
(if (decide (x2 < 0)) = true then
 some true
else
 bd (laws_toAclRuleS_m a0) fun x3 =>
 bd (laws_toAclRuleS_m a1) fun x4 =>
 bd (spec_AclDiffer_m x3 x4) fun x5 =>
 bd (laws_toAclRuleS_m a0) fun x6 =>
 bd (laws_toAclRuleS_m a1) fun x7 =>
 bd (impl_AclDiffer_m x6 x7) fun x8 =>
 bd (laws_eqAclPacket_m x8.1 x5.1) fun x9 =>
(if ((!x9) || (!(x8.2 == x5.2))) = true then
 some false
else
 bd (laws_toAclRuleS_m a0) fun x10 =>
 bd (laws_eqAclRuleS_m x6 x10) fun x11 =>
(if (!x11) = true then
 some false
else
 bd (laws_toAclRuleS_m a1) fun x12 =>
 bd (laws_eqAclRuleS_m x7 x12) fun x13 =>
(if (!x13) = true then
 some false
else
 some true)))))

theorem laws_FnExactAclDiffer_c {a0 : (List AclRule)} {a1 : (List AclRule)} {r : Bool} (h : laws_FnExactAclDiffer_m a0 a1 = some r) : PureC Try.prog 5 [.d (slD AclRule.enc a0), .d (slD AclRule.enc a1)] (.d (.bool r)) [] := by
  refine pureC_m tOk (fn := Try.f5) (c := codeOf Try.f5) rfl rfl (by kernel_rfl) rfl rfl (by simp) (by simp) (ids_of rfl) ?_
  unfold laws_FnExactAclDiffer_m at h
  conv => whnf
  obtain ⟨x1, hx1, h⟩ := bd_some h
  refine callC 0 (laws_szAclRuleS_c hx1) (by kernel_rfl) (by kernel_rfl) ?_
  clear hx1
  conv => whnf
  refine seq_in tOk ?_
  conv => whnf
  refine And.intro (fun e => ?_) (fun e => ?_)
  · replace h := ite_t h e; clear e
    conv => whnf
    obtain rfl := Option.some.inj h
    exact ⟨_, LE.refl _, And.intro rfl trivial⟩
  · replace h := ite_f h e; clear e
    conv => whnf
    obtain ⟨x2, hx2, h⟩ := bd_some h
    refine callC 0 (laws_szAclRuleS_c hx2) (by kernel_rfl) (by kernel_rfl) ?_
    clear hx2
    conv => whnf
    refine seq_in tOk ?_
    conv => whnf
    refine And.intro (fun e => ?_) (fun e => ?_)
    · replace h := ite_t h e; clear e
      conv => whnf
      obtain rfl := Option.some.inj h
      exact ⟨_, LE.refl _, And.intro rfl trivial⟩
    · replace h := ite_f h e; clear e
      conv => whnf
      obtain ⟨x3, hx3, h⟩ := bd_some h
      refine callC 1000 (laws_toAclRuleS_c hx3) (by kernel_rfl) (by kernel_rfl) ?_
      clear hx3
      conv => whnf
      obtain ⟨x4, hx4, h⟩ := bd_some h
      refine callC 2000 (laws_toAclRuleS_c hx4) (by kernel_rfl) (by kernel_rfl) ?_
      clear hx4
      conv => whnf
      obtain ⟨x5, hx5, h⟩ := bd_some h
      refine callC 0 (spec_AclDiffer_c hx5) (by kernel_rfl) (by kernel_rfl) ?_
      clear hx5
      conv => whnf
      obtain ⟨x6, hx6, h⟩ := bd_some h
      refine callC 3000 (laws_toAclRuleS_c hx6) (by kernel_rfl) (by kernel_rfl) ?_
      clear hx6
      conv => whnf
      obtain ⟨x7, hx7, h⟩ := bd_some h
      refine callC 4000 (laws_toAclRuleS_c hx7) (by kernel_rfl) (by kernel_rfl) ?_
      clear hx7
      conv => whnf
      obtain ⟨x8, hx8, h⟩ := bd_some h
      refine callC 0 (impl_AclDiffer_c hx8) (by kernel_rfl) (by kernel_rfl) ?_
      clear hx8
      conv => whnf
      refine seq_in tOk ?_
      conv => whnf
      obtain ⟨x9, hx9, h⟩ := bd_some h
      refine callC 0 (laws_eqAclPacket_c hx9) (by kernel_rfl) (by kernel_rfl) ?_
      clear hx9
      conv => whnf
      refine And.intro (fun e => ?_) (fun e => ?_)
      · replace h := ite_t h e; clear e
        conv => whnf
        obtain rfl := Option.some.inj h
        exact ⟨_, LE.refl _, And.intro rfl trivial⟩
      · replace h := ite_f h e; clear e
        conv => whnf
        refine seq_in tOk ?_
        conv => whnf
        obtain ⟨x10, hx10, h⟩ := bd_some h
        refine callC 5000 (laws_toAclRuleS_c hx10) (by kernel_rfl) (by kernel_rfl) ?_
        clear hx10
        conv => whnf
        obtain ⟨x11, hx11, h⟩ := bd_some h
        refine callC 0 (laws_eqAclRuleS_c hx11) (by kernel_rfl) (by kernel_rfl) ?_
        clear hx11
        conv => whnf
        refine And.intro (fun e => ?_) (fun e => ?_)
        · replace h := ite_t h e; clear e
          conv => whnf
          obtain rfl := Option.some.inj h
          exact ⟨_, LE.refl _, And.intro rfl trivial⟩
        · replace h := ite_f h e; clear e
          conv => whnf
          refine seq_in tOk ?_
          conv => whnf
          obtain ⟨x12, hx12, h⟩ := bd_some h
          refine callC 6000 (laws_toAclRuleS_c hx12) (by kernel_rfl) (by kernel_rfl) ?_
          clear hx12
          conv => whnf
          obtain ⟨x13, hx13, h⟩ := bd_some h
          refine callC 0 (laws_eqAclRuleS_c hx13) (by kernel_rfl) (by kernel_rfl) ?_
          clear hx13
          conv => whnf
          refine And.intro (fun e => ?_) (fun e => ?_)
          · replace h := ite_t h e; clear e
            conv => whnf
            obtain rfl := Option.some.inj h
            exact ⟨_, LE.refl _, And.intro rfl trivial⟩
          · replace h := ite_f h e; clear e
            conv => whnf
            obtain rfl := Option.some.inj h
            exact ⟨_, LE.refl _, And.intro rfl trivial⟩

noncomputable def impl_AclSays_m (a0 : (List AclRule)) (a1 : AclPacket) : Option (Int × Bool) :=
 bd (impl_AclOk_m a0) fun x1 =>
 bd (gcall ((!x1) = false) (impl_within_m a1.From 0 65535)) fun x2 =>
 bd (gcall (((!x1) || (!x2)) = false) (impl_within_m a1.To 0 65535)) fun x3 =>
 bd (gcall ((((!x1) || (!x2)) || (!x3)) = false) (impl_within_m a1.Kind 1 7)) fun x4 =>
(if ((((!x1) || (!x2)) || (!x3)) || (!x4)) = true then
 some (-1, false)
else
 bd (impl_decides_m a0 a1) fun x5 =>
 bd (impl_passes_m a0 a1) fun x6 =>
 some (x5, x6))

theorem impl_AclSays_c {a0 : (List AclRule)} {a1 : AclPacket} {r : Int × Bool} (h : impl_AclSays_m a0 a1 = some r) : PureC Try.prog 13 [.d (slD AclRule.enc a0), .agg [.d (.int .i64 a1.From), .d (.int .i64 a1.To), .d (.int .i64 a1.Kind)]] (.tup [.d (.int .i64 r.1), .d (.bool r.2)]) [] := by
  refine pureC_m tOk (fn := Try.f13) (c := codeOf Try.f13) rfl rfl (by kernel_rfl) rfl rfl (by simp) (by simp) (ids_of rfl) ?_
  unfold impl_AclSays_m at h
  conv => whnf
  refine seq_in tOk ?_
  conv => whnf
  obtain ⟨x1, hx1, h⟩ := bd_some h
  refine callC 0 (impl_AclOk_c hx1) (by kernel_rfl) (by kernel_rfl) ?_
  clear hx1
  conv => whnf
  obtain ⟨x2, hx2, h⟩ := bd_some h
  refine callG_m rfl rfl rfl rfl rfl rfl (by intro c0; exact impl_within_c (gcall_some hx2 c0)) ?_
  conv => whnf
  obtain ⟨x3, hx3, h⟩ := bd_some h
  refine callG_m rfl rfl rfl rfl rfl rfl (by intro c0; exact impl_within_c (gcall_some hx3 c0)) ?_
  conv => whnf
  obtain ⟨x4, hx4, h⟩ := bd_some h
  refine callG_m rfl rfl rfl rfl rfl rfl (by intro c0; exact impl_within_c (gcall_some hx4 c0)) ?_
  conv => whnf
  refine And.intro (fun e => ?_) (fun e => ?_)
  · replace h := ite_t h e; clear e
    conv => whnf
    obtain rfl := Option.some.inj h
    exact ⟨_, LE.refl _, And.intro rfl trivial⟩
  · replace h := ite_f h e; clear e
    conv => whnf
    obtain ⟨x5, hx5, h⟩ := bd_some h
    obtain ⟨x6, hx6, h⟩ := bd_some h
    refine draw_k tOk (by kernel_rfl) (fun j => match j with | 2 => some (.pure 0 (.d (.int .i64 x5)) []) | 5 => some (.pure 0 (.d (.bool x6)) []) | _ => none) 8 [] [[], [], [true, true], [], [], [true, true, true, true, true], [true, true, true, true, true, true], [true, true, true, true, true, true, true]] [] (by decide) (by kernel_rfl) (by kernel_rfl) ?_
    conv => whnf
    refine And.intro (callD_any (impl_decides_c hx5) (by kernel_rfl)) ?_
    conv => whnf
    refine And.intro (callD_any (impl_passes_c hx6) (by kernel_rfl)) ?_
    conv => whnf
    refine And.intro (by kernel_rfl) ?_
    conv => whnf
    obtain rfl := Option.some.inj h
    exact ⟨_, LE.refl _, And.intro rfl trivial⟩

noncomputable def impl_AclWitness_1_m (a0 : AclPacket) (a1 : (List AclRule)) (a2 : Int) : Option (Bool) :=
 bd (impl_decides_m a1 a0) fun x1 =>
 some (x1 == a2)

theorem impl_AclWitness_1_c {a0 : AclPacket} {a1 : (List AclRule)} {a2 : Int} {r : Bool} (h : impl_AclWitness_1_m a0 a1 a2 = some r) : PureC Try.prog 47 [.agg [.d (.int .i64 a0.From), .d (.int .i64 a0.To), .d (.int .i64 a0.Kind)], .rp [slD AclRule.enc a1], .rp [.int .i64 a2]] (.d (.bool r)) [] := by
  refine pureC_m tOk (fn := Try.f47) (c := codeOf Try.f47) rfl rfl (by kernel_rfl) rfl rfl (by simp) (by simp) (ids_of rfl) ?_
  unfold impl_AclWitness_1_m at h
  conv => whnf
  obtain ⟨x1, hx1, h⟩ := bd_some h
  refine draw_k tOk (by kernel_rfl) (fun j => match j with | 2 => some (.pure 0 (.d (.int .i64 x1)) []) | _ => none) 6 [] [[], [], [true, true], [], [true, true, true, true], [true, true, true, true, true]] [] (by decide) (by kernel_rfl) (by kernel_rfl) ?_
  conv => whnf
  refine And.intro (callD_any (impl_decides_c hx1) (by kernel_rfl)) ?_
  conv => whnf
  refine And.intro (by kernel_rfl) ?_
  conv => whnf
  obtain rfl := Option.some.inj h
  exact ⟨_, LE.refl _, And.intro rfl trivial⟩

end Go.Proofs.Ytjpfiaejakidnaa
