/-
  What some of the program's functions compute: their models, and that the functions compute these; no condition.
-/
import Derived.Test.YtbolhcpkpncmfaaTyz
import Derived.Test.YtbolhcpkpncmfaaTbz
import Derived.Test.YtbolhcpkpncmfaaKz1
set_option linter.all false
namespace Go.Proofs.Ytbolhcpkpncmfaa
open Go Go.Ab
set_option maxRecDepth 100000
set_option maxHeartbeats 4000000
noncomputable def spec_l84Relax_m (a0 : (List Int)) (a1 : Int) (a2 : Int) (a3 : Int) : Option ((List Int)) :=
 gd ((0 : Int) ≤ a1 ∧ a1 < ((a0.length : Nat) : Int)) <|
 gd ((decide ((a0.getD a1.toNat default) ≥ 0)) = true → ((0 : Int) ≤ a2 ∧ a2 < ((a0.length : Nat) : Int))) <|
 gd ((decide ((a0.getD a2.toNat default) < 0)) = false → ((decide ((a0.getD a1.toNat default) ≥ 0)) = true → ((0 : Int) ≤ a2 ∧ a2 < ((a0.length : Nat) : Int)))) <|
 gd ((decide ((a0.getD a2.toNat default) < 0)) = false → ((decide ((a0.getD a1.toNat default) ≥ 0)) = true → ((0 : Int) ≤ a1 ∧ a1 < ((a0.length : Nat) : Int)))) <|
(if ((decide ((a0.getD a1.toNat default) ≥ 0)) && ((decide ((a0.getD a2.toNat default) < 0)) || (decide ((a0.getD a2.toNat default) > (IntKind.i64.wrap ((a0.getD a1.toNat default) + a3)))))) = true then
 gd ((0 : Int) ≤ a1 ∧ a1 < ((a0.length : Nat) : Int)) <|
 gd ((0 : Int) ≤ a2 ∧ a2 < ((a0.length : Nat) : Int)) <|
 some (a0.set a2.toNat (IntKind.i64.wrap ((a0.getD a1.toNat default) + a3)))
else
 some a0)

theorem spec_l84Relax_c {a0 : (List Int)} {a1 : Int} {a2 : Int} {a3 : Int} {r : (List Int)} (h : spec_l84Relax_m a0 a1 a2 a3 = some r) : EffC Try.prog 124 [.osl 9000 0 a0.length, .d (.int .i64 a1), .d (.int .i64 a2), .d (.int .i64 a3)] [(9000, .arr 3 1 a0.length (rows encInt a0))] (.osl 5001 0 r.length) [(5001, .arr 3 1 r.length (rows encInt r))] := by
  refine effC_m tOk (fn := Try.f124) (c := codeOf Try.f124) rfl rfl (by kernel_rfl) rfl rfl rfl rfl ?_
  unfold spec_l84Relax_m at h
  conv => whnf
  refine seq_in tOk ?_
  conv => whnf
  obtain ⟨g1, h⟩ := gd_some h
  obtain ⟨g2, h⟩ := gd_some h
  obtain ⟨g3, h⟩ := gd_some h
  obtain ⟨g4, h⟩ := gd_some h
  refine draw_k tOk (by kernel_rfl) (fun _ => none) 25 [] [[], [], [true, true], [true, true, true], [true, true, true, true], [true, true, true, true, true], [true, true, true, true, true, true], [true, true, true, true, true, true], [true, true, true, true, true, true, true, true], [true, true, true, true, true, true, true, true, true], [true, true, true, true, true, true, true, true, true, true], [true, true, true, true, true, true, true, true, true, true, true], [true, true, true, true, true, true, true, true, true, true, true, true], [true, true, true, true, true, true, true, true, true, true, true, true], [true, true, true, true, true, true, true, true, true, true, true, true, true, true], [true, true, true, true, true, true, true, true, true, true, true, true, true, true, true], [true, true, true, true, true, true, true, true, true, true, true, true], [true, true, true, true, true, true, true, true, true, true, true, true], [true, true, true, true, true, true, true, true, true, true, true, true, false, false, false, false, true, true], [true, true, true, true, true, true, true, true, true, true, true, true, false, false, false, false, true, true, true], [true, true, true, true, true, true, true, true, true, true, true, true], [true, true, true, true, true, true, true, true, true, true, true, true, false, false, false, false, true, true, true, true, true], [true, true, true, true, true, true, true, true, true, true, true, true, true, true, true, true, true, true, true, true, true, true], [true, true, true, true, true, true, true, true, true, true, true, true, true, true, true, true, true, true, true, true, true, true, true], [true, true, true, true, true, true, true, true, true, true, true, true, true, true, true, true, true, true, true, true, true, true, true, true]] [] (by decide) (by kernel_rfl) (by kernel_rfl) ?_
  conv => whnf
  refine And.intro g1 ?_
  clear g1
  conv => whnf
  refine And.intro g2 ?_
  clear g2
  conv => whnf
  refine And.intro g3 ?_
  clear g3
  conv => whnf
  refine And.intro g4 ?_
  clear g4
  conv => whnf
  refine And.intro (by kernel_rfl) ?_
  conv => whnf
  refine And.intro (fun e => ?_) (fun e => ?_)
  · replace h := ite_t h e; clear e
    conv => whnf
    obtain ⟨g5, h⟩ := gd_some h
    refine And.intro g5 ?_
    clear g5
    conv => whnf
    obtain ⟨g6, h⟩ := gd_some h
    refine And.intro g6 ?_
    clear g6
    conv => whnf
    refine ⟨rows encInt (a0.set a2.toNat (IntKind.i64.wrap ((a0.getD a1.toNat default) + a3))), store_rows' ((by first | rfl | (simp; done) | assumption | (simp [dsub_eq] <;> omega) | omega)) rfl, ?_⟩
    conv => whnf
    obtain rfl := Option.some.inj h
    refine ⟨⟨0, 44, [(8, .osl 5001 0 ((a0.set a2.toNat (IntKind.i64.wrap ((a0.getD a1.toNat default) + a3))).length))], [], [(5001, .arr 3 1 ((a0.set a2.toNat (IntKind.i64.wrap ((a0.getD a1.toNat default) + a3))).length) (rows encInt (a0.set a2.toNat (IntKind.i64.wrap ((a0.getD a1.toNat default) + a3)))))], [⟨[], []⟩]⟩, ?_, And.intro rfl (And.intro ?_ ?_)⟩
    · refine LE.trans (S' := ⟨0, 44, [(8, .osl 9000 0 a0.length)], [], [(9000, .arr 3 1 a0.length (rows encInt (a0.set a2.toNat (IntKind.i64.wrap ((a0.getD a1.toNat default) + a3)))))], [⟨[], []⟩]⟩) (le_mk ?_ ?_ ?_) (LE.trans (S' := ⟨0, 44, [(8, .osl 5001 0 a0.length)], [], [(5001, .arr 3 1 a0.length (rows encInt (a0.set a2.toNat (IntKind.i64.wrap ((a0.getD a1.toNat default) + a3)))))], [⟨[], []⟩]⟩) (le_swaps [(9000, 5001)] rfl) (le_mk ?_ ?_ ?_)) <;> (repeat' first | ((conv => whnf); first | exact trivial | refine And.intro ?_ ?_ | exact BLe.refl _ | exact VLe.refl _) | exact trivial | exact rfl | refine And.intro ?_ ?_ | exact BLe.refl _ | exact VLe.refl _ | exact VLe.any _ | exact VLe.nil_osl rfl | exact VLe.nil_sl rfl | exact VLe.built rfl rfl | (refine VLe.osl rfl ?_; (first | rfl | (simp; done) | assumption | (simp [dsub_eq] <;> omega) | omega)) | exact VLe.rows (by first | rfl | (simp; done) | assumption | (simp [dsub_eq] <;> omega) | omega) (fun _ _ => rfl) | exact VLe.rows (by simp [dsub_eq] <;> omega) rows_take | exact VLe.rows (by simp [dsub_eq] <;> omega) rows_dt | exact VLe.rows (by simp [dsub_eq] <;> omega) rows_vt | exact VLe.rows (by simp) (fun i _ => by simp [viewRow_eq, Nat.add_comm]) | refine VLe.aggL ?_ | (refine BLe.rows rfl ?_ fun _ _ => rfl; (first | rfl | (simp; done) | assumption | (simp [dsub_eq] <;> omega) | omega)) | (refine BLe.rows rfl rfl ?_; first | exact rows_take) | refine BLe.box ?_)
    · (repeat' first | ((conv => whnf); first | exact trivial | refine And.intro ?_ ?_ | exact BLe.refl _ | exact VLe.refl _) | exact trivial | exact rfl | refine And.intro ?_ ?_ | exact BLe.refl _ | exact VLe.refl _ | exact VLe.any _ | exact VLe.nil_osl rfl | exact VLe.nil_sl rfl | exact VLe.built rfl rfl | (refine VLe.osl rfl ?_; (first | rfl | (simp; done) | assumption | (simp [dsub_eq] <;> omega) | omega)) | exact VLe.rows (by first | rfl | (simp; done) | assumption | (simp [dsub_eq] <;> omega) | omega) (fun _ _ => rfl) | exact VLe.rows (by simp [dsub_eq] <;> omega) rows_take | exact VLe.rows (by simp [dsub_eq] <;> omega) rows_dt | exact VLe.rows (by simp [dsub_eq] <;> omega) rows_vt | exact VLe.rows (by simp) (fun i _ => by simp [viewRow_eq, Nat.add_comm]) | refine VLe.aggL ?_ | (refine BLe.rows rfl ?_ fun _ _ => rfl; (first | rfl | (simp; done) | assumption | (simp [dsub_eq] <;> omega) | omega)) | refine BLe.box ?_ | (simp; done))
    · (repeat' first | ((conv => whnf); first | exact trivial | refine And.intro ?_ ?_ | exact BLe.refl _ | exact VLe.refl _) | exact trivial | exact rfl | refine And.intro ?_ ?_ | exact BLe.refl _ | exact VLe.refl _ | exact VLe.any _ | exact VLe.nil_osl rfl | exact VLe.nil_sl rfl | exact VLe.built rfl rfl | (refine VLe.osl rfl ?_; (first | rfl | (simp; done) | assumption | (simp [dsub_eq] <;> omega) | omega)) | exact VLe.rows (by first | rfl | (simp; done) | assumption | (simp [dsub_eq] <;> omega) | omega) (fun _ _ => rfl) | exact VLe.rows (by simp [dsub_eq] <;> omega) rows_take | exact VLe.rows (by simp [dsub_eq] <;> omega) rows_dt | exact VLe.rows (by simp [dsub_eq] <;> omega) rows_vt | exact VLe.rows (by simp) (fun i _ => by simp [viewRow_eq, Nat.add_comm]) | refine VLe.aggL ?_ | (refine BLe.rows rfl ?_ fun _ _ => rfl; (first | rfl | (simp; done) | assumption | (simp [dsub_eq] <;> omega) | omega)) | refine BLe.box ?_ | (simp; done))
  · replace h := ite_f h e; clear e
    conv => whnf
    obtain rfl := Option.some.inj h
    refine ⟨⟨0, 44, [(8, .osl 5001 0 a0.length)], [], [(5001, .arr 3 1 a0.length (rows encInt a0))], [⟨[], []⟩]⟩, ?_, And.intro rfl (And.intro ?_ ?_)⟩
    · refine LE.trans (S' := ⟨0, 44, [(8, .osl 9000 0 a0.length)], [], [(9000, .arr 3 1 a0.length (rows encInt a0))], [⟨[], []⟩]⟩) (le_mk ?_ ?_ ?_) (le_swaps [(9000, 5001)] rfl) <;> (repeat' first | ((conv => whnf); first | exact trivial | refine And.intro ?_ ?_ | exact BLe.refl _ | exact VLe.refl _) | exact trivial | exact rfl | refine And.intro ?_ ?_ | exact BLe.refl _ | exact VLe.refl _ | exact VLe.any _ | exact VLe.nil_osl rfl | exact VLe.nil_sl rfl | exact VLe.built rfl rfl | (refine VLe.osl rfl ?_; (first | rfl | (simp; done) | assumption | (simp [dsub_eq] <;> omega) | omega)) | exact VLe.rows (by first | rfl | (simp; done) | assumption | (simp [dsub_eq] <;> omega) | omega) (fun _ _ => rfl) | exact VLe.rows (by simp [dsub_eq] <;> omega) rows_take | exact VLe.rows (by simp [dsub_eq] <;> omega) rows_dt | exact VLe.rows (by simp [dsub_eq] <;> omega) rows_vt | exact VLe.rows (by simp) (fun i _ => by simp [viewRow_eq, Nat.add_comm]) | refine VLe.aggL ?_ | (refine BLe.rows rfl ?_ fun _ _ => rfl; (first | rfl | (simp; done) | assumption | (simp [dsub_eq] <;> omega) | omega)) | (refine BLe.rows rfl rfl ?_; first | exact rows_take) | refine BLe.box ?_)
    · (repeat' first | ((conv => whnf); first | exact trivial | refine And.intro ?_ ?_ | exact BLe.refl _ | exact VLe.refl _) | exact trivial | exact rfl | refine And.intro ?_ ?_ | exact BLe.refl _ | exact VLe.refl _ | exact VLe.any _ | exact VLe.nil_osl rfl | exact VLe.nil_sl rfl | exact VLe.built rfl rfl | (refine VLe.osl rfl ?_; (first | rfl | (simp; done) | assumption | (simp [dsub_eq] <;> omega) | omega)) | exact VLe.rows (by first | rfl | (simp; done) | assumption | (simp [dsub_eq] <;> omega) | omega) (fun _ _ => rfl) | exact VLe.rows (by simp [dsub_eq] <;> omega) rows_take | exact VLe.rows (by simp [dsub_eq] <;> omega) rows_dt | exact VLe.rows (by simp [dsub_eq] <;> omega) rows_vt | exact VLe.rows (by simp) (fun i _ => by simp [viewRow_eq, Nat.add_comm]) | refine VLe.aggL ?_ | (refine BLe.rows rfl ?_ fun _ _ => rfl; (first | rfl | (simp; done) | assumption | (simp [dsub_eq] <;> omega) | omega)) | refine BLe.box ?_ | (simp; done))
    · (repeat' first | ((conv => whnf); first | exact trivial | refine And.intro ?_ ?_ | exact BLe.refl _ | exact VLe.refl _) | exact trivial | exact rfl | refine And.intro ?_ ?_ | exact BLe.refl _ | exact VLe.refl _ | exact VLe.any _ | exact VLe.nil_osl rfl | exact VLe.nil_sl rfl | exact VLe.built rfl rfl | (refine VLe.osl rfl ?_; (first | rfl | (simp; done) | assumption | (simp [dsub_eq] <;> omega) | omega)) | exact VLe.rows (by first | rfl | (simp; done) | assumption | (simp [dsub_eq] <;> omega) | omega) (fun _ _ => rfl) | exact VLe.rows (by simp [dsub_eq] <;> omega) rows_take | exact VLe.rows (by simp [dsub_eq] <;> omega) rows_dt | exact VLe.rows (by simp [dsub_eq] <;> omega) rows_vt | exact VLe.rows (by simp) (fun i _ => by simp [viewRow_eq, Nat.add_comm]) | refine VLe.aggL ?_ | (refine BLe.rows rfl ?_ fun _ _ => rfl; (first | rfl | (simp; done) | assumption | (simp [dsub_eq] <;> omega) | omega)) | refine BLe.box ?_ | (simp; done))

noncomputable def spec_l84Costs_m (a0 : TreeWorld) (a1 : Int) : Option ((List Int)) :=
 gd ((0 : Int) ≤ ((a0.Bridges.length : Nat) : Int) ∧ ((a0.Bridges.length : Nat) : Int) ≤ ((a0.Bridges.length : Nat) : Int) ∧ ((a0.Bridges.length : Nat) : Int) * 8 ≤ 140737488355328 ∧ ((a0.Bridges.length : Nat) : Int) ≤ 140737488355328) <|
 bd (lp (σ := List Int × Int) (β := (Nat × (List Int))) (fun s1 =>
(if (decide (s1.2 < ((s1.1.length : Nat) : Int))) = true then
 gd ((0 : Int) ≤ s1.2 ∧ s1.2 < ((s1.1.length : Nat) : Int)) <|
 some (.inl (s1.1.set s1.2.toNat (-1), IntKind.i64.wrap (s1.2 + 1)))
else
 some (.inr (s1.1.length, s1.1)))) ((List.replicate (((a0.Bridges.length : Nat) : Int) : Int).toNat (default : Int)), 0)) fun x4 =>
 gd ((0 : Int) ≤ a1 ∧ a1 < ((x4.1 : Nat) : Int)) <|
 bd (lp (σ := List Int × Int) (β := (Nat × (List Int))) (fun s8 =>
(if (decide (s8.2 < ((s8.1.length : Nat) : Int))) = true then
 bd (lp (σ := List Int × Int) (β := (Nat × (List Int))) (fun s12 =>
(if (decide (s12.2 < ((a0.Links.length : Nat) : Int))) = true then
 bd (spec_l83Open_m a0 s12.2) fun x16 =>
(if x16 = true then
 gd ((0 : Int) ≤ s12.2 ∧ s12.2 < ((a0.Links.length : Nat) : Int)) <|
 gd ((0 : Int) ≤ s12.2 ∧ s12.2 < ((a0.Links.length : Nat) : Int)) <|
 gd ((0 : Int) ≤ s12.2 ∧ s12.2 < ((a0.Links.length : Nat) : Int)) <|
 bd (spec_l84Relax_m s12.1 ((a0.Links.getD s12.2.toNat default).A) ((a0.Links.getD s12.2.toNat default).B) ((a0.Links.getD s12.2.toNat default).Cost)) fun x20 =>
 gd ((0 : Int) ≤ s12.2 ∧ s12.2 < ((a0.Links.length : Nat) : Int)) <|
 gd ((0 : Int) ≤ s12.2 ∧ s12.2 < ((a0.Links.length : Nat) : Int)) <|
 gd ((0 : Int) ≤ s12.2 ∧ s12.2 < ((a0.Links.length : Nat) : Int)) <|
 bd (spec_l84Relax_m x20 ((a0.Links.getD s12.2.toNat default).B) ((a0.Links.getD s12.2.toNat default).A) ((a0.Links.getD s12.2.toNat default).Cost)) fun x24 =>
 some (.inl (x24, IntKind.i64.wrap (s12.2 + 1)))
else
 some (.inl (s12.1, IntKind.i64.wrap (s12.2 + 1))))
else
 some (.inr (s12.1.length, s12.1)))) (s8.1, 0)) fun x15 =>
 some (.inl (x15.2, IntKind.i64.wrap (s8.2 + 1)))
else
 some (.inr (s8.1.length, s8.1)))) (x4.2.set a1.toNat 0, 0)) fun x11 =>
 some x11.2

theorem spec_l84Costs_c {a0 : TreeWorld} {a1 : Int} {r : (List Int)} (h : spec_l84Costs_m a0 a1 = some r) : PureC Try.prog 118 [.agg [.d (slD TreeBridge.enc a0.Bridges), .d (slD TreeLink.enc a0.Links), .d (slD encInt a0.Down), .d (slD TreeSlot.enc a0.AtA), .d (slD TreeSlot.enc a0.AtB), .d (slD TreeWord.enc a0.Radio)], .d (.int .i64 a1)] (.osl 5001 0 r.length) [⟨5001, 3, 1, r.length, rows encInt r⟩] := by
  refine pureC_m tOk (fn := Try.f118) (c := codeOf Try.f118) rfl rfl (by kernel_rfl) rfl rfl (by simp [atomD]) (by simp) (ids_of rfl) ?_
  unfold spec_l84Costs_m at h
  conv => whnf
  obtain ⟨g27, h⟩ := gd_some h
  refine And.intro g27 ?_
  clear g27
  refine ⟨(List.replicate (((a0.Bridges.length : Nat) : Int) : Int).toNat (default : Int)).length, rows encInt (List.replicate (((a0.Bridges.length : Nat) : Int) : Int).toNat (default : Int)), by simp, make_rows rfl, ?_⟩
  conv => whnf
  refine seq_in tOk ?_
  conv => whnf
  obtain ⟨x4, hx4, h⟩ := bd_some h
  refine loop_m tOk hx4 (fun s1 => ⟨0, 82, [(1, .d (.int .i64 a1)), (2, .ref 2 0 0), (5, .osl 12 0 s1.1.length), (6, .d (.int .i64 s1.2))], [], [(12, .arr 3 1 s1.1.length (rows encInt s1.1)), (2, .box 31 [.d (slD TreeBridge.enc a0.Bridges), .d (slD TreeLink.enc a0.Links), .d (slD encInt a0.Down), .d (slD TreeSlot.enc a0.AtA), .d (slD TreeSlot.enc a0.AtB), .d (slD TreeWord.enc a0.Radio)])], []⟩) ?_ ?_
  · refine le_mk ?_ ?_ ?_ <;> (repeat' first | ((conv => whnf); first | exact trivial | refine And.intro ?_ ?_ | exact BLe.refl _ | exact VLe.refl _) | exact trivial | exact rfl | refine And.intro ?_ ?_ | exact BLe.refl _ | exact VLe.refl _ | exact VLe.any _ | exact VLe.nil_osl rfl | exact VLe.nil_sl rfl | exact VLe.built rfl rfl | (refine VLe.osl rfl ?_; (first | rfl | (simp; done) | assumption | (simp [dsub_eq] <;> omega) | omega)) | exact VLe.rows (by first | rfl | (simp; done) | assumption | (simp [dsub_eq] <;> omega) | omega) (fun _ _ => rfl) | exact VLe.rows (by simp [dsub_eq] <;> omega) rows_take | exact VLe.rows (by simp [dsub_eq] <;> omega) rows_dt | exact VLe.rows (by simp [dsub_eq] <;> omega) rows_vt | exact VLe.rows (by simp) (fun i _ => by simp [viewRow_eq, Nat.add_comm]) | refine VLe.aggL ?_ | (refine BLe.rows rfl ?_ fun _ _ => rfl; (first | rfl | (simp; done) | assumption | (simp [dsub_eq] <;> omega) | omega)) | (refine BLe.rows rfl rfl ?_; first | exact rows_take) | refine BLe.box ?_)
  · clear hx4
    intro s1 y2 g3 hy2
    conv => whnf
    refine seq_in tOk ?_
    conv => whnf
    refine And.intro (fun e => ?_) (fun e => ?_)
    · replace g3 := ite_t g3 e; clear e
      conv => whnf
      refine seq_in tOk ?_
      conv => whnf
      obtain ⟨g5, g3⟩ := gd_some g3
      refine And.intro g5 ?_
      clear g5
      conv => whnf
      refine ⟨rows encInt (s1.1.set s1.2.toNat (-1)), store_rows' ((by first | rfl | (simp; done) | assumption | (simp [dsub_eq] <;> omega) | omega)) rfl, ?_⟩
      conv => whnf
      obtain rfl := Option.some.inj g3
      refine ⟨_, rfl, le_mk ?_ ?_ ?_⟩ <;> (repeat' first | ((conv => whnf); first | exact trivial | refine And.intro ?_ ?_ | exact BLe.refl _ | exact VLe.refl _) | exact trivial | exact rfl | refine And.intro ?_ ?_ | exact BLe.refl _ | exact VLe.refl _ | exact VLe.any _ | exact VLe.nil_osl rfl | exact VLe.nil_sl rfl | exact VLe.built rfl rfl | (refine VLe.osl rfl ?_; (first | rfl | (simp; done) | assumption | (simp [dsub_eq] <;> omega) | omega)) | exact VLe.rows (by first | rfl | (simp; done) | assumption | (simp [dsub_eq] <;> omega) | omega) (fun _ _ => rfl) | exact VLe.rows (by simp [dsub_eq] <;> omega) rows_take | exact VLe.rows (by simp [dsub_eq] <;> omega) rows_dt | exact VLe.rows (by simp [dsub_eq] <;> omega) rows_vt | exact VLe.rows (by simp) (fun i _ => by simp [viewRow_eq, Nat.add_comm]) | refine VLe.aggL ?_ | (refine BLe.rows rfl ?_ fun _ _ => rfl; (first | rfl | (simp; done) | assumption | (simp [dsub_eq] <;> omega) | omega)) | (refine BLe.rows rfl rfl ?_; first | exact rows_take) | refine BLe.box ?_)
    · replace g3 := ite_f g3 e; clear e
      conv => whnf
      obtain rfl := Option.some.inj g3
      obtain rfl := hy2 _ rfl
      obtain ⟨g7, h⟩ := gd_some h
      refine And.intro g7 ?_
      clear g7
      conv => whnf
      refine ⟨rows encInt ((s1.1.length, s1.1).2.set a1.toNat 0), store_rows' ((by first | rfl | (simp; done) | assumption | (simp [dsub_eq] <;> omega) | omega)) rfl, ?_⟩
      conv => whnf
      refine seq_in tOk ?_
      conv => whnf
      obtain ⟨x11, hx11, h⟩ := bd_some h
      refine loop_m tOk hx11 (fun s8 => ⟨0, 82, [(2, .ref 2 0 0), (5, .osl 12 0 s8.1.length), (7, .d (.int .i64 s8.2))], [], [(12, .arr 3 1 s8.1.length (rows encInt s8.1)), (2, .box 31 [.d (slD TreeBridge.enc a0.Bridges), .d (slD TreeLink.enc a0.Links), .d (slD encInt a0.Down), .d (slD TreeSlot.enc a0.AtA), .d (slD TreeSlot.enc a0.AtB), .d (slD TreeWord.enc a0.Radio)])], []⟩) ?_ ?_
      · refine le_mk ?_ ?_ ?_ <;> (repeat' first | ((conv => whnf); first | exact trivial | refine And.intro ?_ ?_ | exact BLe.refl _ | exact VLe.refl _) | exact trivial | exact rfl | refine And.intro ?_ ?_ | exact BLe.refl _ | exact VLe.refl _ | exact VLe.any _ | exact VLe.nil_osl rfl | exact VLe.nil_sl rfl | exact VLe.built rfl rfl | (refine VLe.osl rfl ?_; (first | rfl | (simp; done) | assumption | (simp [dsub_eq] <;> omega) | omega)) | exact VLe.rows (by first | rfl | (simp; done) | assumption | (simp [dsub_eq] <;> omega) | omega) (fun _ _ => rfl) | exact VLe.rows (by simp [dsub_eq] <;> omega) rows_take | exact VLe.rows (by simp [dsub_eq] <;> omega) rows_dt | exact VLe.rows (by simp [dsub_eq] <;> omega) rows_vt | exact VLe.rows (by simp) (fun i _ => by simp [viewRow_eq, Nat.add_comm]) | refine VLe.aggL ?_ | (refine BLe.rows rfl ?_ fun _ _ => rfl; (first | rfl | (simp; done) | assumption | (simp [dsub_eq] <;> omega) | omega)) | (refine BLe.rows rfl rfl ?_; first | exact rows_take) | refine BLe.box ?_)
      · clear hx11
        intro s8 y9 g10 hy9
        conv => whnf
        refine seq_in tOk ?_
        conv => whnf
        refine And.intro (fun e => ?_) (fun e => ?_)
        · replace g10 := ite_t g10 e; clear e
          conv => whnf
          refine seq_in tOk ?_
          conv => whnf
          obtain ⟨x15, hx15, g10⟩ := bd_some g10
          refine loop_m tOk hx15 (fun s12 => ⟨0, 82, [(2, .ref 2 0 0), (5, .osl 12 0 s12.1.length), (7, .d (.int .i64 s8.2)), (8, .d (.int .i64 s12.2))], [], [(12, .arr 3 1 s12.1.length (rows encInt s12.1)), (2, .box 31 [.d (slD TreeBridge.enc a0.Bridges), .d (slD TreeLink.enc a0.Links), .d (slD encInt a0.Down), .d (slD TreeSlot.enc a0.AtA), .d (slD TreeSlot.enc a0.AtB), .d (slD TreeWord.enc a0.Radio)])], []⟩) ?_ ?_
          · refine le_mk ?_ ?_ ?_ <;> (repeat' first | ((conv => whnf); first | exact trivial | refine And.intro ?_ ?_ | exact BLe.refl _ | exact VLe.refl _) | exact trivial | exact rfl | refine And.intro ?_ ?_ | exact BLe.refl _ | exact VLe.refl _ | exact VLe.any _ | exact VLe.nil_osl rfl | exact VLe.nil_sl rfl | exact VLe.built rfl rfl | (refine VLe.osl rfl ?_; (first | rfl | (simp; done) | assumption | (simp [dsub_eq] <;> omega) | omega)) | exact VLe.rows (by first | rfl | (simp; done) | assumption | (simp [dsub_eq] <;> omega) | omega) (fun _ _ => rfl) | exact VLe.rows (by simp [dsub_eq] <;> omega) rows_take | exact VLe.rows (by simp [dsub_eq] <;> omega) rows_dt | exact VLe.rows (by simp [dsub_eq] <;> omega) rows_vt | exact VLe.rows (by simp) (fun i _ => by simp [viewRow_eq, Nat.add_comm]) | refine VLe.aggL ?_ | (refine BLe.rows rfl ?_ fun _ _ => rfl; (first | rfl | (simp; done) | assumption | (simp [dsub_eq] <;> omega) | omega)) | (refine BLe.rows rfl rfl ?_; first | exact rows_take) | refine BLe.box ?_)
          · clear hx15
            intro s12 y13 g14 hy13
            conv => whnf
            refine seq_in tOk ?_
            conv => whnf
            refine And.intro (fun e => ?_) (fun e => ?_)
            · replace g14 := ite_t g14 e; clear e
              conv => whnf
              refine seq_in tOk ?_
              conv => whnf
              obtain ⟨x16, hx16, g14⟩ := bd_some g14
              refine callC 0 (spec_l83Open_c hx16) (by kernel_rfl) (by kernel_rfl) ?_
              clear hx16
              conv => whnf
              refine And.intro (fun e => ?_) (fun e => ?_)
              · replace g14 := ite_t g14 e; clear e
                conv => whnf
                obtain ⟨g17, g14⟩ := gd_some g14
                obtain ⟨g18, g14⟩ := gd_some g14
                obtain ⟨g19, g14⟩ := gd_some g14
                obtain ⟨x20, hx20, g14⟩ := bd_some g14
                refine draw_gk tOk (by kernel_rfl) (fun j => match j with | 19 => some (.eff (.osl 6001 0 x20.length) [(6001, .arr 3 1 x20.length (rows encInt x20))] [] (fun g vs => EffD Try.prog [(12, .arr 3 1 s12.1.length (rows encInt s12.1))] g vs (.osl 6001 0 x20.length) [(6001, .arr 3 1 x20.length (rows encInt x20))] []) (LeB [(12, .arr 3 1 s12.1.length (rows encInt s12.1))] [])) | _ => none) (fun j => match j with | 19 => [(12, .arr 3 1 s12.1.length (rows encInt s12.1))] | _ => []) (fun _ => []) 20 [] [[], [], [false, true], [], [false, true, true, true], [false, true, true, true, true], [false, true, true, true, true, true], [], [false, false, false, false, false, false, false, true], [], [false, false, false, false, false, false, false, true, true, true], [false, false, false, false, false, false, false, true, true, true, true], [false, false, false, false, false, false, false, true, true, true, true, true], [], [false, false, false, false, false, false, false, false, false, false, false, false, false, true], [], [false, false, false, false, false, false, false, false, false, false, false, false, false, true, true, true], [false, false, false, false, false, false, false, false, false, false, false, false, false, true, true, true, true], [false, false, false, false, false, false, false, false, false, false, false, false, false, true, true, true, true, true], [true, true, true, true, true, true, true, true, true, true, true, true, true, true, true, true, true, true, true]] [[true, true, true, true, true, true, true, true, true, true, true, true, true, true, true, true, true, true, true, true]] [12] (by decide) (by kernel_rfl) (chainG_eff rfl (fun _ _ h => h) (fun h => h) rfl rfl (chainG_pure rfl (chainG_pure rfl (chainG_pure rfl (chainG_pure rfl (chainG_pure rfl (chainG_pure rfl (chainG_pure rfl (chainG_pure rfl (chainG_pure rfl (chainG_pure rfl (chainG_pure rfl (chainG_pure rfl (chainG_pure rfl (chainG_pure rfl (chainG_pure rfl (chainG_pure rfl (chainG_pure rfl (chainG_pure rfl (chainG_pure rfl (chainG_nil))))))))))))))))))))) (by kernel_rfl) ?_
                conv => whnf
                refine And.intro g17 ?_
                clear g17
                conv => whnf
                refine And.intro g18 ?_
                clear g18
                conv => whnf
                refine And.intro g19 ?_
                clear g19
                conv => whnf
                refine And.intro (effD_mk [(9000, 12)] 1000 (spec_l84Relax_c hx20) (by (repeat' first | ((conv => whnf); first | exact trivial | refine And.intro ?_ ?_ | exact BLe.refl _ | exact VLe.refl _) | exact trivial | refine And.intro ?_ ?_ | exact VLe.refl _ | exact VLe.any _ | exact VLe.nil_osl rfl | exact VLe.nil_sl rfl | exact VLe.built rfl rfl | (refine VLe.osl rfl ?_; (first | rfl | (simp; done) | assumption | (simp [dsub_eq] <;> omega) | omega)) | exact VLe.rows (by first | rfl | (simp; done) | assumption | (simp [dsub_eq] <;> omega) | omega) (fun _ _ => rfl) | exact VLe.rows (by simp [dsub_eq] <;> omega) rows_take | exact VLe.rows (by simp [dsub_eq] <;> omega) rows_dt | exact VLe.rows (by simp [dsub_eq] <;> omega) rows_vt | exact VLe.rows (by simp) (fun i _ => by simp [viewRow_eq, Nat.add_comm]) | refine VLe.aggL ?_)) (by (repeat' first | ((conv => whnf); first | exact trivial | refine And.intro ?_ ?_ | exact BLe.refl _ | exact VLe.refl _) | exact trivial | exact rfl | refine And.intro ?_ ?_ | exact BLe.refl _ | exact VLe.refl _ | exact VLe.any _ | exact VLe.nil_osl rfl | exact VLe.nil_sl rfl | exact VLe.built rfl rfl | (refine VLe.osl rfl ?_; (first | rfl | (simp; done) | assumption | (simp [dsub_eq] <;> omega) | omega)) | exact VLe.rows (by first | rfl | (simp; done) | assumption | (simp [dsub_eq] <;> omega) | omega) (fun _ _ => rfl) | exact VLe.rows (by simp [dsub_eq] <;> omega) rows_take | exact VLe.rows (by simp [dsub_eq] <;> omega) rows_dt | exact VLe.rows (by simp [dsub_eq] <;> omega) rows_vt | exact VLe.rows (by simp) (fun i _ => by simp [viewRow_eq, Nat.add_comm]) | refine VLe.aggL ?_ | (refine BLe.rows rfl ?_ fun _ _ => rfl; (first | rfl | (simp; done) | assumption | (simp [dsub_eq] <;> omega) | omega)) | refine BLe.box ?_ | (simp; done))) rfl rfl rfl rfl) ?_
                conv => whnf
                refine And.intro (by kernel_rfl) ?_
                conv => whnf
                obtain ⟨g21, g14⟩ := gd_some g14
                obtain ⟨g22, g14⟩ := gd_some g14
                obtain ⟨g23, g14⟩ := gd_some g14
                obtain ⟨x24, hx24, g14⟩ := bd_some g14
                refine draw_gk tOk (by kernel_rfl) (fun j => match j with | 19 => some (.eff (.osl 7001 0 x24.length) [(7001, .arr 3 1 x24.length (rows encInt x24))] [] (fun g vs => EffD Try.prog [(6001, .arr 3 1 x20.length (rows encInt x20))] g vs (.osl 7001 0 x24.length) [(7001, .arr 3 1 x24.length (rows encInt x24))] []) (LeB [(6001, .arr 3 1 x20.length (rows encInt x20))] [])) | _ => none) (fun j => match j with | 19 => [(6001, .arr 3 1 x20.length (rows encInt x20))] | _ => []) (fun _ => []) 20 [] [[], [], [false, true], [], [false, true, true, true], [false, true, true, true, true], [false, true, true, true, true, true], [], [false, false, false, false, false, false, false, true], [], [false, false, false, false, false, false, false, true, true, true], [false, false, false, false, false, false, false, true, true, true, true], [false, false, false, false, false, false, false, true, true, true, true, true], [], [false, false, false, false, false, false, false, false, false, false, false, false, false, true], [], [false, false, false, false, false, false, false, false, false, false, false, false, false, true, true, true], [false, false, false, false, false, false, false, false, false, false, false, false, false, true, true, true, true], [false, false, false, false, false, false, false, false, false, false, false, false, false, true, true, true, true, true], [true, true, true, true, true, true, true, true, true, true, true, true, true, true, true, true, true, true, true]] [[true, true, true, true, true, true, true, true, true, true, true, true, true, true, true, true, true, true, true, true]] [6001] (by decide) (by kernel_rfl) (chainG_eff rfl (fun _ _ h => h) (fun h => h) rfl rfl (chainG_pure rfl (chainG_pure rfl (chainG_pure rfl (chainG_pure rfl (chainG_pure rfl (chainG_pure rfl (chainG_pure rfl (chainG_pure rfl (chainG_pure rfl (chainG_pure rfl (chainG_pure rfl (chainG_pure rfl (chainG_pure rfl (chainG_pure rfl (chainG_pure rfl (chainG_pure rfl (chainG_pure rfl (chainG_pure rfl (chainG_pure rfl (chainG_nil))))))))))))))))))))) (by kernel_rfl) ?_
                conv => whnf
                refine And.intro g21 ?_
                clear g21
                conv => whnf
                refine And.intro g22 ?_
                clear g22
                conv => whnf
                refine And.intro g23 ?_
                clear g23
                conv => whnf
                refine And.intro (effD_mk [(9000, 6001)] 2000 (spec_l84Relax_c hx24) (by (repeat' first | ((conv => whnf); first | exact trivial | refine And.intro ?_ ?_ | exact BLe.refl _ | exact VLe.refl _) | exact trivial | refine And.intro ?_ ?_ | exact VLe.refl _ | exact VLe.any _ | exact VLe.nil_osl rfl | exact VLe.nil_sl rfl | exact VLe.built rfl rfl | (refine VLe.osl rfl ?_; (first | rfl | (simp; done) | assumption | (simp [dsub_eq] <;> omega) | omega)) | exact VLe.rows (by first | rfl | (simp; done) | assumption | (simp [dsub_eq] <;> omega) | omega) (fun _ _ => rfl) | exact VLe.rows (by simp [dsub_eq] <;> omega) rows_take | exact VLe.rows (by simp [dsub_eq] <;> omega) rows_dt | exact VLe.rows (by simp [dsub_eq] <;> omega) rows_vt | exact VLe.rows (by simp) (fun i _ => by simp [viewRow_eq, Nat.add_comm]) | refine VLe.aggL ?_)) (by (repeat' first | ((conv => whnf); first | exact trivial | refine And.intro ?_ ?_ | exact BLe.refl _ | exact VLe.refl _) | exact trivial | exact rfl | refine And.intro ?_ ?_ | exact BLe.refl _ | exact VLe.refl _ | exact VLe.any _ | exact VLe.nil_osl rfl | exact VLe.nil_sl rfl | exact VLe.built rfl rfl | (refine VLe.osl rfl ?_; (first | rfl | (simp; done) | assumption | (simp [dsub_eq] <;> omega) | omega)) | exact VLe.rows (by first | rfl | (simp; done) | assumption | (simp [dsub_eq] <;> omega) | omega) (fun _ _ => rfl) | exact VLe.rows (by simp [dsub_eq] <;> omega) rows_take | exact VLe.rows (by simp [dsub_eq] <;> omega) rows_dt | exact VLe.rows (by simp [dsub_eq] <;> omega) rows_vt | exact VLe.rows (by simp) (fun i _ => by simp [viewRow_eq, Nat.add_comm]) | refine VLe.aggL ?_ | (refine BLe.rows rfl ?_ fun _ _ => rfl; (first | rfl | (simp; done) | assumption | (simp [dsub_eq] <;> omega) | omega)) | refine BLe.box ?_ | (simp; done))) rfl rfl rfl rfl) ?_
                conv => whnf
                refine And.intro (by kernel_rfl) ?_
                conv => whnf
                obtain rfl := Option.some.inj g14
                refine ⟨_, rfl, LE.trans (S' := ⟨0, 82, [(2, .ref 2 0 0), (5, .osl 7001 0 x24.length), (7, .d (.int .i64 s8.2)), (8, .d (.int .i64 (IntKind.i64.wrap (s12.2 + 1))))], [], [(7001, .arr 3 1 x24.length (rows encInt x24)), (2, .box 31 [.d (slD TreeBridge.enc a0.Bridges), .d (slD TreeLink.enc a0.Links), .d (slD encInt a0.Down), .d (slD TreeSlot.enc a0.AtA), .d (slD TreeSlot.enc a0.AtB), .d (slD TreeWord.enc a0.Radio)])], []⟩) (le_mk ?_ ?_ ?_) (LE.trans (S' := ⟨0, 82, [(2, .ref 2 0 0), (5, .osl 12 0 x24.length), (7, .d (.int .i64 s8.2)), (8, .d (.int .i64 (IntKind.i64.wrap (s12.2 + 1))))], [], [(12, .arr 3 1 x24.length (rows encInt x24)), (2, .box 31 [.d (slD TreeBridge.enc a0.Bridges), .d (slD TreeLink.enc a0.Links), .d (slD encInt a0.Down), .d (slD TreeSlot.enc a0.AtA), .d (slD TreeSlot.enc a0.AtB), .d (slD TreeWord.enc a0.Radio)])], []⟩) (le_swaps [(7001, 12)] rfl) (le_mk ?_ ?_ ?_))⟩ <;> (repeat' first | ((conv => whnf); first | exact trivial | refine And.intro ?_ ?_ | exact BLe.refl _ | exact VLe.refl _) | exact trivial | exact rfl | refine And.intro ?_ ?_ | exact BLe.refl _ | exact VLe.refl _ | exact VLe.any _ | exact VLe.nil_osl rfl | exact VLe.nil_sl rfl | exact VLe.built rfl rfl | (refine VLe.osl rfl ?_; (first | rfl | (simp; done) | assumption | (simp [dsub_eq] <;> omega) | omega)) | exact VLe.rows (by first | rfl | (simp; done) | assumption | (simp [dsub_eq] <;> omega) | omega) (fun _ _ => rfl) | exact VLe.rows (by simp [dsub_eq] <;> omega) rows_take | exact VLe.rows (by simp [dsub_eq] <;> omega) rows_dt | exact VLe.rows (by simp [dsub_eq] <;> omega) rows_vt | exact VLe.rows (by simp) (fun i _ => by simp [viewRow_eq, Nat.add_comm]) | refine VLe.aggL ?_ | (refine BLe.rows rfl ?_ fun _ _ => rfl; (first | rfl | (simp; done) | assumption | (simp [dsub_eq] <;> omega) | omega)) | (refine BLe.rows rfl rfl ?_; first | exact rows_take) | refine BLe.box ?_)
              · replace g14 := ite_f g14 e; clear e
                conv => whnf
                obtain rfl := Option.some.inj g14
                refine ⟨_, rfl, le_mk ?_ ?_ ?_⟩ <;> (repeat' first | ((conv => whnf); first | exact trivial | refine And.intro ?_ ?_ | exact BLe.refl _ | exact VLe.refl _) | exact trivial | exact rfl | refine And.intro ?_ ?_ | exact BLe.refl _ | exact VLe.refl _ | exact VLe.any _ | exact VLe.nil_osl rfl | exact VLe.nil_sl rfl | exact VLe.built rfl rfl | (refine VLe.osl rfl ?_; (first | rfl | (simp; done) | assumption | (simp [dsub_eq] <;> omega) | omega)) | exact VLe.rows (by first | rfl | (simp; done) | assumption | (simp [dsub_eq] <;> omega) | omega) (fun _ _ => rfl) | exact VLe.rows (by simp [dsub_eq] <;> omega) rows_take | exact VLe.rows (by simp [dsub_eq] <;> omega) rows_dt | exact VLe.rows (by simp [dsub_eq] <;> omega) rows_vt | exact VLe.rows (by simp) (fun i _ => by simp [viewRow_eq, Nat.add_comm]) | refine VLe.aggL ?_ | (refine BLe.rows rfl ?_ fun _ _ => rfl; (first | rfl | (simp; done) | assumption | (simp [dsub_eq] <;> omega) | omega)) | (refine BLe.rows rfl rfl ?_; first | exact rows_take) | refine BLe.box ?_)
            · replace g14 := ite_f g14 e; clear e
              conv => whnf
              obtain rfl := Option.some.inj g14
              obtain rfl := hy13 _ rfl
              obtain rfl := Option.some.inj g10
              refine ⟨_, rfl, le_mk ?_ ?_ ?_⟩ <;> (repeat' first | ((conv => whnf); first | exact trivial | refine And.intro ?_ ?_ | exact BLe.refl _ | exact VLe.refl _) | exact trivial | exact rfl | refine And.intro ?_ ?_ | exact BLe.refl _ | exact VLe.refl _ | exact VLe.any _ | exact VLe.nil_osl rfl | exact VLe.nil_sl rfl | exact VLe.built rfl rfl | (refine VLe.osl rfl ?_; (first | rfl | (simp; done) | assumption | (simp [dsub_eq] <;> omega) | omega)) | exact VLe.rows (by first | rfl | (simp; done) | assumption | (simp [dsub_eq] <;> omega) | omega) (fun _ _ => rfl) | exact VLe.rows (by simp [dsub_eq] <;> omega) rows_take | exact VLe.rows (by simp [dsub_eq] <;> omega) rows_dt | exact VLe.rows (by simp [dsub_eq] <;> omega) rows_vt | exact VLe.rows (by simp) (fun i _ => by simp [viewRow_eq, Nat.add_comm]) | refine VLe.aggL ?_ | (refine BLe.rows rfl ?_ fun _ _ => rfl; (first | rfl | (simp; done) | assumption | (simp [dsub_eq] <;> omega) | omega)) | (refine BLe.rows rfl rfl ?_; first | exact rows_take) | refine BLe.box ?_)
        · replace g10 := ite_f g10 e; clear e
          conv => whnf
          obtain rfl := Option.some.inj g10
          obtain rfl := hy9 _ rfl
          obtain rfl := Option.some.inj h
          refine ⟨⟨0, 82, [(4, .osl 5001 0 (s8.1.length, s8.1).2.length)], [], [(5001, .arr 3 1 (s8.1.length, s8.1).2.length (rows encInt (s8.1.length, s8.1).2))], []⟩, ?_, And.intro rfl ?_⟩
          · refine LE.trans (S' := ⟨0, 82, [(4, .osl 12 0 (s8.1.length, s8.1).1)], [], [(12, .arr 3 1 (s8.1.length, s8.1).1 (rows encInt (s8.1.length, s8.1).2))], []⟩) (le_mk ?_ ?_ ?_) (LE.trans (S' := ⟨0, 82, [(4, .osl 5001 0 (s8.1.length, s8.1).1)], [], [(5001, .arr 3 1 (s8.1.length, s8.1).1 (rows encInt (s8.1.length, s8.1).2))], []⟩) (le_swaps [(12, 5001)] rfl) (le_mk ?_ ?_ ?_)) <;> (repeat' first | ((conv => whnf); first | exact trivial | refine And.intro ?_ ?_ | exact BLe.refl _ | exact VLe.refl _) | exact trivial | exact rfl | refine And.intro ?_ ?_ | exact BLe.refl _ | exact VLe.refl _ | exact VLe.any _ | exact VLe.nil_osl rfl | exact VLe.nil_sl rfl | exact VLe.built rfl rfl | (refine VLe.osl rfl ?_; (first | rfl | (simp; done) | assumption | (simp [dsub_eq] <;> omega) | omega)) | exact VLe.rows (by first | rfl | (simp; done) | assumption | (simp [dsub_eq] <;> omega) | omega) (fun _ _ => rfl) | exact VLe.rows (by simp [dsub_eq] <;> omega) rows_take | exact VLe.rows (by simp [dsub_eq] <;> omega) rows_dt | exact VLe.rows (by simp [dsub_eq] <;> omega) rows_vt | exact VLe.rows (by simp) (fun i _ => by simp [viewRow_eq, Nat.add_comm]) | refine VLe.aggL ?_ | (refine BLe.rows rfl ?_ fun _ _ => rfl; (first | rfl | (simp; done) | assumption | (simp [dsub_eq] <;> omega) | omega)) | (refine BLe.rows rfl rfl ?_; first | exact rows_take) | refine BLe.box ?_)
          · exact And.intro (And.intro rfl (And.intro rfl (fun _ _ => rfl))) (trivial)

noncomputable def spec_l84Root_m (a0 : TreeWorld) (a1 : Int) : Option (Int) :=
 bd (spec_l84Costs_m a0 a1) fun x1 =>
 bd (lp (σ := Int × Int) (β := (Int)) (fun s2 =>
(if (decide (s2.2 < ((x1.length : Nat) : Int))) = true then
 gd ((0 : Int) ≤ s2.2 ∧ s2.2 < ((x1.length : Nat) : Int)) <|
 gd ((decide ((x1.getD s2.2.toNat default) ≥ 0)) = true → ((0 : Int) ≤ s2.2 ∧ s2.2 < ((a0.Bridges.length : Nat) : Int))) <|
 gd ((decide ((x1.getD s2.2.toNat default) ≥ 0)) = true → ((0 : Int) ≤ s2.1 ∧ s2.1 < ((a0.Bridges.length : Nat) : Int))) <|
(if ((decide ((x1.getD s2.2.toNat default) ≥ 0)) && (decide (((a0.Bridges.getD s2.2.toNat default).Id) < ((a0.Bridges.getD s2.1.toNat default).Id)))) = true then
 some (.inl (s2.2, IntKind.i64.wrap (s2.2 + 1)))
else
 some (.inl (s2.1, IntKind.i64.wrap (s2.2 + 1))))
else
 some (.inr s2.1))) (a1, 0)) fun x5 =>
 some x5

theorem spec_l84Root_c {a0 : TreeWorld} {a1 : Int} {r : Int} (h : spec_l84Root_m a0 a1 = some r) : PureC Try.prog 117 [.agg [.d (slD TreeBridge.enc a0.Bridges), .d (slD TreeLink.enc a0.Links), .d (slD encInt a0.Down), .d (slD TreeSlot.enc a0.AtA), .d (slD TreeSlot.enc a0.AtB), .d (slD TreeWord.enc a0.Radio)], .d (.int .i64 a1)] (.d (.int .i64 r)) [] := by
  refine pureC_m tOk (fn := Try.f117) (c := codeOf Try.f117) rfl rfl (by kernel_rfl) rfl rfl (by simp) (by simp) (ids_of rfl) ?_
  unfold spec_l84Root_m at h
  conv => whnf
  obtain ⟨x1, hx1, h⟩ := bd_some h
  refine callC 1000 (spec_l84Costs_c hx1) (by kernel_rfl) (by kernel_rfl) ?_
  clear hx1
  conv => whnf
  refine seq_in tOk ?_
  conv => whnf
  obtain ⟨x5, hx5, h⟩ := bd_some h
  refine loop_m tOk hx5 (fun s2 => ⟨0, 40, [(2, .ref 2 0 0), (5, .osl 6001 0 x1.length), (6, .d (.int .i64 s2.1)), (7, .d (.int .i64 s2.2))], [], [(6001, .arr 3 1 x1.length (rows encInt x1)), (2, .box 31 [.d (slD TreeBridge.enc a0.Bridges), .d (slD TreeLink.enc a0.Links), .d (slD encInt a0.Down), .d (slD TreeSlot.enc a0.AtA), .d (slD TreeSlot.enc a0.AtB), .d (slD TreeWord.enc a0.Radio)])], []⟩) ?_ ?_
  · refine le_mk ?_ ?_ ?_ <;> (repeat' first | ((conv => whnf); first | exact trivial | refine And.intro ?_ ?_ | exact BLe.refl _ | exact VLe.refl _) | exact trivial | exact rfl | refine And.intro ?_ ?_ | exact BLe.refl _ | exact VLe.refl _ | exact VLe.any _ | exact VLe.nil_osl rfl | exact VLe.nil_sl rfl | exact VLe.built rfl rfl | (refine VLe.osl rfl ?_; (first | rfl | (simp; done) | assumption | (simp [dsub_eq] <;> omega) | omega)) | exact VLe.rows (by first | rfl | (simp; done) | assumption | (simp [dsub_eq] <;> omega) | omega) (fun _ _ => rfl) | exact VLe.rows (by simp [dsub_eq] <;> omega) rows_take | exact VLe.rows (by simp [dsub_eq] <;> omega) rows_dt | exact VLe.rows (by simp [dsub_eq] <;> omega) rows_vt | exact VLe.rows (by simp) (fun i _ => by simp [viewRow_eq, Nat.add_comm]) | refine VLe.aggL ?_ | (refine BLe.rows rfl ?_ fun _ _ => rfl; (first | rfl | (simp; done) | assumption | (simp [dsub_eq] <;> omega) | omega)) | (refine BLe.rows rfl rfl ?_; first | exact rows_take) | refine BLe.box ?_)
  · clear hx5
    intro s2 y3 g4 hy3
    conv => whnf
    refine seq_in tOk ?_
    conv => whnf
    refine And.intro (fun e => ?_) (fun e => ?_)
    · replace g4 := ite_t g4 e; clear e
      conv => whnf
      refine seq_in tOk ?_
      conv => whnf
      obtain ⟨g6, g4⟩ := gd_some g4
      obtain ⟨g7, g4⟩ := gd_some g4
      obtain ⟨g8, g4⟩ := gd_some g4
      refine draw_k tOk (by kernel_rfl) (fun _ => none) 20 [] [[], [], [true, true], [true, true, true], [true, true, true, true], [true, true, true, true, true], [true, true, true, true, true, true], [true, true, true, true, true, true, true], [true, true, true, true, true, true], [true, true, true, true, true, true, true, true, true], [true, true, true, true, true, true, true, true, true, true], [true, true, true, true, true, true, true, true, true, true, true], [true, true, true, true, true, true], [true, true, true, true, true, true, false, false, false, false, false, false, true], [true, true, true, true, true, true], [true, true, true, true, true, true, false, false, false, false, false, false, true, true, true], [true, true, true, true, true, true, false, false, false, false, false, false, true, true, true, true], [true, true, true, true, true, true, false, false, false, false, false, false, true, true, true, true, true], [true, true, true, true, true, true, true, true, true, true, true, true, true, true, true, true, true, true], [true, true, true, true, true, true, true, true, true, true, true, true, true, true, true, true, true, true, true]] [] (by decide) (by kernel_rfl) (by kernel_rfl) ?_
      conv => whnf
      refine And.intro g6 ?_
      clear g6
      conv => whnf
      refine And.intro g7 ?_
      clear g7
      conv => whnf
      refine And.intro g8 ?_
      clear g8
      conv => whnf
      refine And.intro (by kernel_rfl) ?_
      conv => whnf
      refine And.intro (fun e => ?_) (fun e => ?_)
      · replace g4 := ite_t g4 e; clear e
        conv => whnf
        obtain rfl := Option.some.inj g4
        refine ⟨_, rfl, le_mk ?_ ?_ ?_⟩ <;> (repeat' first | ((conv => whnf); first | exact trivial | refine And.intro ?_ ?_ | exact BLe.refl _ | exact VLe.refl _) | exact trivial | exact rfl | refine And.intro ?_ ?_ | exact BLe.refl _ | exact VLe.refl _ | exact VLe.any _ | exact VLe.nil_osl rfl | exact VLe.nil_sl rfl | exact VLe.built rfl rfl | (refine VLe.osl rfl ?_; (first | rfl | (simp; done) | assumption | (simp [dsub_eq] <;> omega) | omega)) | exact VLe.rows (by first | rfl | (simp; done) | assumption | (simp [dsub_eq] <;> omega) | omega) (fun _ _ => rfl) | exact VLe.rows (by simp [dsub_eq] <;> omega) rows_take | exact VLe.rows (by simp [dsub_eq] <;> omega) rows_dt | exact VLe.rows (by simp [dsub_eq] <;> omega) rows_vt | exact VLe.rows (by simp) (fun i _ => by simp [viewRow_eq, Nat.add_comm]) | refine VLe.aggL ?_ | (refine BLe.rows rfl ?_ fun _ _ => rfl; (first | rfl | (simp; done) | assumption | (simp [dsub_eq] <;> omega) | omega)) | (refine BLe.rows rfl rfl ?_; first | exact rows_take) | refine BLe.box ?_)
      · replace g4 := ite_f g4 e; clear e
        conv => whnf
        obtain rfl := Option.some.inj g4
        refine ⟨_, rfl, le_mk ?_ ?_ ?_⟩ <;> (repeat' first | ((conv => whnf); first | exact trivial | refine And.intro ?_ ?_ | exact BLe.refl _ | exact VLe.refl _) | exact trivial | exact rfl | refine And.intro ?_ ?_ | exact BLe.refl _ | exact VLe.refl _ | exact VLe.any _ | exact VLe.nil_osl rfl | exact VLe.nil_sl rfl | exact VLe.built rfl rfl | (refine VLe.osl rfl ?_; (first | rfl | (simp; done) | assumption | (simp [dsub_eq] <;> omega) | omega)) | exact VLe.rows (by first | rfl | (simp; done) | assumption | (simp [dsub_eq] <;> omega) | omega) (fun _ _ => rfl) | exact VLe.rows (by simp [dsub_eq] <;> omega) rows_take | exact VLe.rows (by simp [dsub_eq] <;> omega) rows_dt | exact VLe.rows (by simp [dsub_eq] <;> omega) rows_vt | exact VLe.rows (by simp) (fun i _ => by simp [viewRow_eq, Nat.add_comm]) | refine VLe.aggL ?_ | (refine BLe.rows rfl ?_ fun _ _ => rfl; (first | rfl | (simp; done) | assumption | (simp [dsub_eq] <;> omega) | omega)) | (refine BLe.rows rfl rfl ?_; first | exact rows_take) | refine BLe.box ?_)
    · replace g4 := ite_f g4 e; clear e
      conv => whnf
      obtain rfl := Option.some.inj g4
      obtain rfl := hy3 _ rfl
      obtain rfl := Option.some.inj h
      exact ⟨_, LE.refl _, And.intro rfl trivial⟩

noncomputable def spec_l82At_m (a0 : TreeWorld) (a1 : Int) (a2 : Int) : Option (TreeVector × Int) :=
 gd ((0 : Int) ≤ a2 ∧ a2 < ((a0.Links.length : Nat) : Int)) <|
(if (a1 == ((a0.Links.getD a2.toNat default).A)) = true then
 gd ((0 : Int) ≤ a2 ∧ a2 < ((a0.AtA.length : Nat) : Int)) <|
 some (((a0.AtA.getD a2.toNat default).Vector), (a0.Links.getD a2.toNat default).B)
else
(if (a1 == ((a0.Links.getD a2.toNat default).B)) = true then
 gd ((0 : Int) ≤ a2 ∧ a2 < ((a0.AtB.length : Nat) : Int)) <|
 some (((a0.AtB.getD a2.toNat default).Vector), (a0.Links.getD a2.toNat default).A)
else
 some ((⟨0, 0, 0⟩ : TreeVector), -1)))

theorem spec_l82At_c {a0 : TreeWorld} {a1 : Int} {a2 : Int} {r : TreeVector × Int} (h : spec_l82At_m a0 a1 a2 = some r) : PureC Try.prog 105 [.agg [.d (slD TreeBridge.enc a0.Bridges), .d (slD TreeLink.enc a0.Links), .d (slD encInt a0.Down), .d (slD TreeSlot.enc a0.AtA), .d (slD TreeSlot.enc a0.AtB), .d (slD TreeWord.enc a0.Radio)], .d (.int .i64 a1), .d (.int .i64 a2)] (.tup [.agg [.d (.int .i64 r.1.Root), .d (.int .i64 r.1.Cost), .d (.int .i64 r.1.Age)], .d (.int .i64 r.2)]) [] := by
  refine pureC_m tOk (fn := Try.f105) (c := codeOf Try.f105) rfl rfl (by kernel_rfl) rfl rfl (by simp) (by simp) (ids_of rfl) ?_
  unfold spec_l82At_m at h
  conv => whnf
  obtain ⟨g1, h⟩ := gd_some h
  refine And.intro g1 ?_
  clear g1
  conv => whnf
  refine seq_in tOk ?_
  conv => whnf
  refine And.intro (fun e => ?_) (fun e => ?_)
  · replace h := ite_t h e; clear e
    conv => whnf
    obtain ⟨g2, h⟩ := gd_some h
    refine draw_gk tOk (by kernel_rfl) (fun j => match j with | 8 => some (.app [(6, .box 49 [.d (.int .i64 0), .d (.int .i64 0), .d (.int .i64 0)])] (.any) [(6, .box 49 [.d (.int .i64 (((a0.AtA.getD a2.toNat default).Vector).Root)), .d (.int .i64 (((a0.AtA.getD a2.toNat default).Vector).Cost)), .d (.int .i64 (((a0.AtA.getD a2.toNat default).Vector).Age))])]) | _ => none) (fun j => match j with | 8 => [(6, .box 49 [.d (.int .i64 0), .d (.int .i64 0), .d (.int .i64 0)])] | _ => []) (fun _ => []) 10 [] [[], [true], [], [true, true, true], [true, true, true, true], [true, true, true, true, true], [], [false, false, false, false, false, false, true], [true, true, true, true, true, true], [true, true, true, true, true, true, true, true, true]] [] [6] (by decide) (by kernel_rfl) (chainG_pure rfl (chainG_app rfl rfl rfl rfl (chainG_pure rfl (chainG_pure rfl (chainG_pure rfl (chainG_pure rfl (chainG_pure rfl (chainG_pure rfl (chainG_pure rfl (chainG_pure rfl (chainG_nil))))))))))) (by kernel_rfl) ?_
    conv => whnf
    refine And.intro g2 ?_
    clear g2
    conv => whnf
    refine And.intro (by (conv => whnf); exact ⟨rfl, rfl⟩) ?_
    conv => whnf
    refine And.intro (by kernel_rfl) ?_
    conv => whnf
    obtain rfl := Option.some.inj h
    exact ⟨_, LE.refl _, And.intro rfl trivial⟩
  · replace h := ite_f h e; clear e
    conv => whnf
    refine And.intro (fun e => ?_) (fun e => ?_)
    · replace h := ite_t h e; clear e
      conv => whnf
      obtain ⟨g3, h⟩ := gd_some h
      refine draw_gk tOk (by kernel_rfl) (fun j => match j with | 8 => some (.app [(6, .box 49 [.d (.int .i64 0), .d (.int .i64 0), .d (.int .i64 0)])] (.any) [(6, .box 49 [.d (.int .i64 (((a0.AtB.getD a2.toNat default).Vector).Root)), .d (.int .i64 (((a0.AtB.getD a2.toNat default).Vector).Cost)), .d (.int .i64 (((a0.AtB.getD a2.toNat default).Vector).Age))])]) | _ => none) (fun j => match j with | 8 => [(6, .box 49 [.d (.int .i64 0), .d (.int .i64 0), .d (.int .i64 0)])] | _ => []) (fun _ => []) 10 [] [[], [true], [], [true, true, true], [true, true, true, true], [true, true, true, true, true], [], [false, false, false, false, false, false, true], [true, true, true, true, true, true], [true, true, true, true, true, true, true, true, true]] [] [6] (by decide) (by kernel_rfl) (chainG_pure rfl (chainG_app rfl rfl rfl rfl (chainG_pure rfl (chainG_pure rfl (chainG_pure rfl (chainG_pure rfl (chainG_pure rfl (chainG_pure rfl (chainG_pure rfl (chainG_pure rfl (chainG_nil))))))))))) (by kernel_rfl) ?_
      conv => whnf
      refine And.intro g3 ?_
      clear g3
      conv => whnf
      refine And.intro (by (conv => whnf); exact ⟨rfl, rfl⟩) ?_
      conv => whnf
      refine And.intro (by kernel_rfl) ?_
      conv => whnf
      obtain rfl := Option.some.inj h
      exact ⟨_, LE.refl _, And.intro rfl trivial⟩
    · replace h := ite_f h e; clear e
      conv => whnf
      obtain rfl := Option.some.inj h
      exact ⟨_, LE.refl _, And.intro rfl trivial⟩

noncomputable def spec_l84Up_m (a0 : TreeWorld) (a1 : (List Int)) (a2 : Int) : Option (Int) :=
 bd (lp (σ := Int × Int × Int) (β := (Int)) (fun s1 =>
(if (decide (s1.2.2 < ((a0.Links.length : Nat) : Int))) = true then
 bd (spec_l82At_m a0 a2 s1.2.2) fun x5 =>
 bd (gcall ((decide (x5.2 < 0)) = false) (spec_l83Open_m a0 s1.2.2)) fun x6 =>
 gd (((decide (x5.2 < 0)) || (!x6)) = false → ((0 : Int) ≤ x5.2 ∧ x5.2 < ((a1.length : Nat) : Int))) <|
 gd (((decide (x5.2 < 0)) || (!x6)) = false → ((0 : Int) ≤ s1.2.2 ∧ s1.2.2 < ((a0.Links.length : Nat) : Int))) <|
 gd (((decide (x5.2 < 0)) || (!x6)) = false → ((0 : Int) ≤ a2 ∧ a2 < ((a1.length : Nat) : Int))) <|
(if (((decide (x5.2 < 0)) || (!x6)) || ((IntKind.i64.wrap ((a1.getD x5.2.toNat default) + ((a0.Links.getD s1.2.2.toNat default).Cost))) != (a1.getD a2.toNat default))) = true then
 some (.inl (s1.1, s1.2.1, IntKind.i64.wrap (s1.2.2 + 1)))
else
 gd ((decide (s1.1 < 0)) = false → ((0 : Int) ≤ x5.2 ∧ x5.2 < ((a0.Bridges.length : Nat) : Int))) <|
(if ((decide (s1.1 < 0)) || (decide (((a0.Bridges.getD x5.2.toNat default).Id) < s1.2.1))) = true then
 gd ((0 : Int) ≤ x5.2 ∧ x5.2 < ((a0.Bridges.length : Nat) : Int)) <|
 some (.inl (s1.2.2, (a0.Bridges.getD x5.2.toNat default).Id, IntKind.i64.wrap (s1.2.2 + 1)))
else
 some (.inl (s1.1, s1.2.1, IntKind.i64.wrap (s1.2.2 + 1)))))
else
 some (.inr s1.1))) (-1, 0, 0)) fun x4 =>
 some x4

theorem spec_l84Up_c {a0 : TreeWorld} {a1 : (List Int)} {a2 : Int} {r : Int} (h : spec_l84Up_m a0 a1 a2 = some r) : PureC Try.prog 119 [.agg [.d (slD TreeBridge.enc a0.Bridges), .d (slD TreeLink.enc a0.Links), .d (slD encInt a0.Down), .d (slD TreeSlot.enc a0.AtA), .d (slD TreeSlot.enc a0.AtB), .d (slD TreeWord.enc a0.Radio)], .d (slD encInt a1), .d (.int .i64 a2)] (.d (.int .i64 r)) [] := by
  refine pureC_m tOk (fn := Try.f119) (c := codeOf Try.f119) rfl rfl (by kernel_rfl) rfl rfl (by simp) (by simp) (ids_of rfl) ?_
  unfold spec_l84Up_m at h
  conv => whnf
  refine seq_in tOk ?_
  conv => whnf
  obtain ⟨x4, hx4, h⟩ := bd_some h
  refine loop_m tOk hx4 (fun s1 => ⟨0, 72, [(1, .d (slD encInt a1)), (2, .d (.int .i64 a2)), (3, .ref 3 0 0), (7, .d (.int .i64 s1.1)), (8, .d (.int .i64 s1.2.1)), (9, .d (.int .i64 s1.2.2))], [], [(3, .box 31 [.d (slD TreeBridge.enc a0.Bridges), .d (slD TreeLink.enc a0.Links), .d (slD encInt a0.Down), .d (slD TreeSlot.enc a0.AtA), .d (slD TreeSlot.enc a0.AtB), .d (slD TreeWord.enc a0.Radio)])], []⟩) ?_ ?_
  · refine le_mk ?_ ?_ ?_ <;> (repeat' first | ((conv => whnf); first | exact trivial | refine And.intro ?_ ?_ | exact BLe.refl _ | exact VLe.refl _) | exact trivial | exact rfl | refine And.intro ?_ ?_ | exact BLe.refl _ | exact VLe.refl _ | exact VLe.any _ | exact VLe.nil_osl rfl | exact VLe.nil_sl rfl | exact VLe.built rfl rfl | (refine VLe.osl rfl ?_; (first | rfl | (simp; done) | assumption | (simp [dsub_eq] <;> omega) | omega)) | exact VLe.rows (by first | rfl | (simp; done) | assumption | (simp [dsub_eq] <;> omega) | omega) (fun _ _ => rfl) | exact VLe.rows (by simp [dsub_eq] <;> omega) rows_take | exact VLe.rows (by simp [dsub_eq] <;> omega) rows_dt | exact VLe.rows (by simp [dsub_eq] <;> omega) rows_vt | exact VLe.rows (by simp) (fun i _ => by simp [viewRow_eq, Nat.add_comm]) | refine VLe.aggL ?_ | (refine BLe.rows rfl ?_ fun _ _ => rfl; (first | rfl | (simp; done) | assumption | (simp [dsub_eq] <;> omega) | omega)) | (refine BLe.rows rfl rfl ?_; first | exact rows_take) | refine BLe.box ?_)
  · clear hx4
    intro s1 y2 g3 hy2
    conv => whnf
    refine seq_in tOk ?_
    conv => whnf
    refine And.intro (fun e => ?_) (fun e => ?_)
    · replace g3 := ite_t g3 e; clear e
      conv => whnf
      refine seq_in tOk ?_
      conv => whnf
      obtain ⟨x5, hx5, g3⟩ := bd_some g3
      refine callC 0 (spec_l82At_c hx5) (by kernel_rfl) (by kernel_rfl) ?_
      clear hx5
      conv => whnf
      refine seq_in tOk ?_
      conv => whnf
      obtain ⟨x6, hx6, g3⟩ := bd_some g3
      obtain ⟨g7, g3⟩ := gd_some g3
      obtain ⟨g8, g3⟩ := gd_some g3
      obtain ⟨g9, g3⟩ := gd_some g3
      refine draw_k tOk (by kernel_rfl) (fun j => match j with | 5 => some (.pure 0 (.d (.bool x6)) []) | _ => none) 26 [] [[], [true], [true, true], [true, true, true], [true, true, true], [true, true, true, true, true], [true, true, true, true, true, true], [true, true, true, true, true, true, true], [true, true, true, true, true, true, true, true], [true, true, true, true, true, true, true, true, true], [true, true, true, true, true, true, true, true, true], [true, true, true, true, true, true, true, true, true, true, true], [true, true, true, true, true, true, true, true, true, true, true, true], [true, true, true, true, true, true, true, true, true], [true, true, true, true, true, true, true, true, true, false, false, false, false, true], [true, true, true, true, true, true, true, true, true], [true, true, true, true, true, true, true, true, true, false, false, false, false, true, true, true], [true, true, true, true, true, true, true, true, true, false, false, false, false, true, true, true, true], [true, true, true, true, true, true, true, true, true, false, false, false, false, true, true, true, true, true], [true, true, true, true, true, true, true, true, true, true, true, true, true, true, true, true, true, true, true], [true, true, true, true, true, true, true, true, true], [true, true, true, true, true, true, true, true, true], [true, true, true, true, true, true, true, true, true, false, false, false, false, false, false, false, false, false, false, false, true, true], [true, true, true, true, true, true, true, true, true, false, false, false, false, false, false, false, false, false, false, false, true, true, true], [true, true, true, true, true, true, true, true, true, true, true, true, true, true, true, true, true, true, true, true, true, true, true, true], [true, true, true, true, true, true, true, true, true, true, true, true, true, true, true, true, true, true, true, true, true, true, true, true, true]] [] (by decide) (by kernel_rfl) (by kernel_rfl) ?_
      conv => whnf
      refine And.intro (callDG_if rfl rfl rfl rfl (by intro c0; exact spec_l83Open_c (gcall_some hx6 c0))) ?_
      conv => whnf
      refine And.intro g7 ?_
      clear g7
      conv => whnf
      refine And.intro g8 ?_
      clear g8
      conv => whnf
      refine And.intro g9 ?_
      clear g9
      conv => whnf
      refine And.intro (by kernel_rfl) ?_
      conv => whnf
      refine And.intro (fun e => ?_) (fun e => ?_)
      · replace g3 := ite_t g3 e; clear e
        conv => whnf
        obtain rfl := Option.some.inj g3
        refine ⟨_, rfl, le_mk ?_ ?_ ?_⟩ <;> (repeat' first | ((conv => whnf); first | exact trivial | refine And.intro ?_ ?_ | exact BLe.refl _ | exact VLe.refl _) | exact trivial | exact rfl | refine And.intro ?_ ?_ | exact BLe.refl _ | exact VLe.refl _ | exact VLe.any _ | exact VLe.nil_osl rfl | exact VLe.nil_sl rfl | exact VLe.built rfl rfl | (refine VLe.osl rfl ?_; (first | rfl | (simp; done) | assumption | (simp [dsub_eq] <;> omega) | omega)) | exact VLe.rows (by first | rfl | (simp; done) | assumption | (simp [dsub_eq] <;> omega) | omega) (fun _ _ => rfl) | exact VLe.rows (by simp [dsub_eq] <;> omega) rows_take | exact VLe.rows (by simp [dsub_eq] <;> omega) rows_dt | exact VLe.rows (by simp [dsub_eq] <;> omega) rows_vt | exact VLe.rows (by simp) (fun i _ => by simp [viewRow_eq, Nat.add_comm]) | refine VLe.aggL ?_ | (refine BLe.rows rfl ?_ fun _ _ => rfl; (first | rfl | (simp; done) | assumption | (simp [dsub_eq] <;> omega) | omega)) | (refine BLe.rows rfl rfl ?_; first | exact rows_take) | refine BLe.box ?_)
      · replace g3 := ite_f g3 e; clear e
        conv => whnf
        obtain ⟨g10, g3⟩ := gd_some g3
        refine And.intro g10 ?_
        clear g10
        conv => whnf
        refine And.intro (fun e => ?_) (fun e => ?_)
        · replace g3 := ite_t g3 e; clear e
          conv => whnf
          obtain ⟨g11, g3⟩ := gd_some g3
          refine And.intro g11 ?_
          clear g11
          conv => whnf
          obtain rfl := Option.some.inj g3
          refine ⟨_, rfl, le_mk ?_ ?_ ?_⟩ <;> (repeat' first | ((conv => whnf); first | exact trivial | refine And.intro ?_ ?_ | exact BLe.refl _ | exact VLe.refl _) | exact trivial | exact rfl | refine And.intro ?_ ?_ | exact BLe.refl _ | exact VLe.refl _ | exact VLe.any _ | exact VLe.nil_osl rfl | exact VLe.nil_sl rfl | exact VLe.built rfl rfl | (refine VLe.osl rfl ?_; (first | rfl | (simp; done) | assumption | (simp [dsub_eq] <;> omega) | omega)) | exact VLe.rows (by first | rfl | (simp; done) | assumption | (simp [dsub_eq] <;> omega) | omega) (fun _ _ => rfl) | exact VLe.rows (by simp [dsub_eq] <;> omega) rows_take | exact VLe.rows (by simp [dsub_eq] <;> omega) rows_dt | exact VLe.rows (by simp [dsub_eq] <;> omega) rows_vt | exact VLe.rows (by simp) (fun i _ => by simp [viewRow_eq, Nat.add_comm]) | refine VLe.aggL ?_ | (refine BLe.rows rfl ?_ fun _ _ => rfl; (first | rfl | (simp; done) | assumption | (simp [dsub_eq] <;> omega) | omega)) | (refine BLe.rows rfl rfl ?_; first | exact rows_take) | refine BLe.box ?_)
        · replace g3 := ite_f g3 e; clear e
          conv => whnf
          obtain rfl := Option.some.inj g3
          refine ⟨_, rfl, le_mk ?_ ?_ ?_⟩ <;> (repeat' first | ((conv => whnf); first | exact trivial | refine And.intro ?_ ?_ | exact BLe.refl _ | exact VLe.refl _) | exact trivial | exact rfl | refine And.intro ?_ ?_ | exact BLe.refl _ | exact VLe.refl _ | exact VLe.any _ | exact VLe.nil_osl rfl | exact VLe.nil_sl rfl | exact VLe.built rfl rfl | (refine VLe.osl rfl ?_; (first | rfl | (simp; done) | assumption | (simp [dsub_eq] <;> omega) | omega)) | exact VLe.rows (by first | rfl | (simp; done) | assumption | (simp [dsub_eq] <;> omega) | omega) (fun _ _ => rfl) | exact VLe.rows (by simp [dsub_eq] <;> omega) rows_take | exact VLe.rows (by simp [dsub_eq] <;> omega) rows_dt | exact VLe.rows (by simp [dsub_eq] <;> omega) rows_vt | exact VLe.rows (by simp) (fun i _ => by simp [viewRow_eq, Nat.add_comm]) | refine VLe.aggL ?_ | (refine BLe.rows rfl ?_ fun _ _ => rfl; (first | rfl | (simp; done) | assumption | (simp [dsub_eq] <;> omega) | omega)) | (refine BLe.rows rfl rfl ?_; first | exact rows_take) | refine BLe.box ?_)
    · replace g3 := ite_f g3 e; clear e
      conv => whnf
      obtain rfl := Option.some.inj g3
      obtain rfl := hy2 _ rfl
      obtain rfl := Option.some.inj h
      exact ⟨_, LE.refl _, And.intro rfl trivial⟩

noncomputable def spec_l84Mind_m (a0 : TreeWorld) (a1 : Int) : Option (TreeMind) :=
 bd (spec_l84Root_m a0 a1) fun x1 =>
 bd (spec_l84Costs_m a0 x1) fun x2 =>
 gd ((0 : Int) ≤ x1 ∧ x1 < ((a0.Bridges.length : Nat) : Int)) <|
 gd ((0 : Int) ≤ a1 ∧ a1 < ((x2.length : Nat) : Int)) <|
 bd (α := Int) ((if (a1 != x1) = true then
 bd (spec_l84Up_m a0 x2 a1) fun x8 =>
 some x8
else
 some (-1))) fun x5 =>
 bd (lp (σ := Int × Int) (β := (Int)) (fun s9 =>
(if ((s9.2 != x1) && (decide (s9.1 < ((a0.Bridges.length : Nat) : Int)))) = true then
 bd (spec_l84Up_m a0 x2 s9.2) fun x13 =>
 bd (spec_l82At_m a0 s9.2 x13) fun x14 =>
 some (.inl (IntKind.i64.wrap (s9.1 + 1), x14.2))
else
 some (.inr s9.1))) (0, a1)) fun x12 =>
 some (⟨(⟨(a0.Bridges.getD x1.toNat default).Id, (x2.getD a1.toNat default), x12⟩ : TreeVector), x5⟩ : TreeMind)

theorem spec_l84Mind_c {a0 : TreeWorld} {a1 : Int} {r : TreeMind} (h : spec_l84Mind_m a0 a1 = some r) : PureC Try.prog 111 [.agg [.d (slD TreeBridge.enc a0.Bridges), .d (slD TreeLink.enc a0.Links), .d (slD encInt a0.Down), .d (slD TreeSlot.enc a0.AtA), .d (slD TreeSlot.enc a0.AtB), .d (slD TreeWord.enc a0.Radio)], .d (.int .i64 a1)] (.agg [.d (.int .i64 r.Vector.Root), .d (.int .i64 r.Vector.Cost), .d (.int .i64 r.Vector.Age), .d (.int .i64 r.Link)]) [] := by
  refine pureC_m tOk (fn := Try.f111) (c := codeOf Try.f111) rfl rfl (by kernel_rfl) rfl rfl (by simp) (by simp) (ids_of rfl) ?_
  unfold spec_l84Mind_m at h
  conv => whnf
  obtain ⟨x1, hx1, h⟩ := bd_some h
  refine callC 0 (spec_l84Root_c hx1) (by kernel_rfl) (by kernel_rfl) ?_
  clear hx1
  conv => whnf
  obtain ⟨x2, hx2, h⟩ := bd_some h
  refine callC 1000 (spec_l84Costs_c hx2) (by kernel_rfl) (by kernel_rfl) ?_
  clear hx2
  conv => whnf
  obtain ⟨g3, h⟩ := gd_some h
  obtain ⟨g4, h⟩ := gd_some h
  refine draw_k tOk (by kernel_rfl) (fun _ => none) 13 [] [[], [true], [], [true, true, true], [true, true, true, true], [true, true, true, true, true], [], [], [false, false, false, false, false, false, true, true], [false, false, false, false, false, false, true, true, true], [true, true, true, true, true, true, true, true, true, true], [true, true, true, true, true, true, true, true, true, true, true], []] [[true, true, true, true, true, true, true, true, true, true, true, true, true]] (by decide) (by kernel_rfl) (by kernel_rfl) ?_
  conv => whnf
  refine And.intro g3 ?_
  clear g3
  conv => whnf
  refine And.intro g4 ?_
  clear g4
  conv => whnf
  refine And.intro (by kernel_rfl) ?_
  conv => whnf
  obtain ⟨x5, hx5, h⟩ := bd_some h
  refine seq_join tOk (fun s6 => ⟨0, 67, [(1, .d (.int .i64 a1)), (2, .ref 2 0 0), (4, .ref 4 0 0), (5, .d (.int .i64 x1)), (6, .osl 6001 0 x2.length), (7, .ref 7 0 0)], [], [(7, .box 51 [.d (.int .i64 ((a0.Bridges.getD x1.toNat default).Id)), .d (.int .i64 (x2.getD a1.toNat default)), .d (.int .i64 0), .d (.int .i64 s6)]), (6001, .arr 3 1 x2.length (rows encInt x2)), (4, .box 51 [.d (.int .i64 0), .d (.int .i64 0), .d (.int .i64 0), .d (.int .i64 0)]), (2, .box 31 [.d (slD TreeBridge.enc a0.Bridges), .d (slD TreeLink.enc a0.Links), .d (slD encInt a0.Down), .d (slD TreeSlot.enc a0.AtA), .d (slD TreeSlot.enc a0.AtB), .d (slD TreeWord.enc a0.Radio)])], []⟩) (fun s6 => x5 = s6) ?_ ?_
  · conv => whnf
    refine And.intro (fun e => ?_) (fun e => ?_)
    · replace hx5 := ite_t hx5 e; clear e
      conv => whnf
      obtain ⟨x8, hx8, hx5⟩ := bd_some hx5
      refine callC 0 (spec_l84Up_c hx8) (by kernel_rfl) (by kernel_rfl) ?_
      clear hx8
      conv => whnf
      obtain rfl := Option.some.inj hx5
      refine ⟨_, rfl, le_mk ?_ ?_ ?_⟩ <;> (repeat' first | ((conv => whnf); first | exact trivial | refine And.intro ?_ ?_ | exact BLe.refl _ | exact VLe.refl _) | exact trivial | exact rfl | refine And.intro ?_ ?_ | exact BLe.refl _ | exact VLe.refl _ | exact VLe.any _ | exact VLe.nil_osl rfl | exact VLe.nil_sl rfl | exact VLe.built rfl rfl | (refine VLe.osl rfl ?_; (first | rfl | (simp; done) | assumption | (simp [dsub_eq] <;> omega) | omega)) | exact VLe.rows (by first | rfl | (simp; done) | assumption | (simp [dsub_eq] <;> omega) | omega) (fun _ _ => rfl) | exact VLe.rows (by simp [dsub_eq] <;> omega) rows_take | exact VLe.rows (by simp [dsub_eq] <;> omega) rows_dt | exact VLe.rows (by simp [dsub_eq] <;> omega) rows_vt | exact VLe.rows (by simp) (fun i _ => by simp [viewRow_eq, Nat.add_comm]) | refine VLe.aggL ?_ | (refine BLe.rows rfl ?_ fun _ _ => rfl; (first | rfl | (simp; done) | assumption | (simp [dsub_eq] <;> omega) | omega)) | (refine BLe.rows rfl rfl ?_; first | exact rows_take) | refine BLe.box ?_)
    · replace hx5 := ite_f hx5 e; clear e
      conv => whnf
      obtain rfl := Option.some.inj hx5
      refine ⟨_, rfl, le_mk ?_ ?_ ?_⟩ <;> (repeat' first | ((conv => whnf); first | exact trivial | refine And.intro ?_ ?_ | exact BLe.refl _ | exact VLe.refl _) | exact trivial | exact rfl | refine And.intro ?_ ?_ | exact BLe.refl _ | exact VLe.refl _ | exact VLe.any _ | exact VLe.nil_osl rfl | exact VLe.nil_sl rfl | exact VLe.built rfl rfl | (refine VLe.osl rfl ?_; (first | rfl | (simp; done) | assumption | (simp [dsub_eq] <;> omega) | omega)) | exact VLe.rows (by first | rfl | (simp; done) | assumption | (simp [dsub_eq] <;> omega) | omega) (fun _ _ => rfl) | exact VLe.rows (by simp [dsub_eq] <;> omega) rows_take | exact VLe.rows (by simp [dsub_eq] <;> omega) rows_dt | exact VLe.rows (by simp [dsub_eq] <;> omega) rows_vt | exact VLe.rows (by simp) (fun i _ => by simp [viewRow_eq, Nat.add_comm]) | refine VLe.aggL ?_ | (refine BLe.rows rfl ?_ fun _ _ => rfl; (first | rfl | (simp; done) | assumption | (simp [dsub_eq] <;> omega) | omega)) | (refine BLe.rows rfl rfl ?_; first | exact rows_take) | refine BLe.box ?_)
  · rintro _ rfl
    conv => whnf
    refine seq_in tOk ?_
    conv => whnf
    obtain ⟨x12, hx12, h⟩ := bd_some h
    refine loop_m tOk hx12 (fun s9 => ⟨0, 67, [(2, .ref 2 0 0), (4, .ref 4 0 0), (5, .d (.int .i64 x1)), (6, .osl 6001 0 x2.length), (7, .ref 7 0 0), (8, .d (.int .i64 s9.2))], [], [(7, .box 51 [.d (.int .i64 ((a0.Bridges.getD x1.toNat default).Id)), .d (.int .i64 (x2.getD a1.toNat default)), .d (.int .i64 s9.1), .d (.int .i64 x5)]), (6001, .arr 3 1 x2.length (rows encInt x2)), (4, .box 51 [.d (.int .i64 0), .d (.int .i64 0), .d (.int .i64 0), .d (.int .i64 0)]), (2, .box 31 [.d (slD TreeBridge.enc a0.Bridges), .d (slD TreeLink.enc a0.Links), .d (slD encInt a0.Down), .d (slD TreeSlot.enc a0.AtA), .d (slD TreeSlot.enc a0.AtB), .d (slD TreeWord.enc a0.Radio)])], []⟩) ?_ ?_
    · refine le_mk ?_ ?_ ?_ <;> (repeat' first | ((conv => whnf); first | exact trivial | refine And.intro ?_ ?_ | exact BLe.refl _ | exact VLe.refl _) | exact trivial | exact rfl | refine And.intro ?_ ?_ | exact BLe.refl _ | exact VLe.refl _ | exact VLe.any _ | exact VLe.nil_osl rfl | exact VLe.nil_sl rfl | exact VLe.built rfl rfl | (refine VLe.osl rfl ?_; (first | rfl | (simp; done) | assumption | (simp [dsub_eq] <;> omega) | omega)) | exact VLe.rows (by first | rfl | (simp; done) | assumption | (simp [dsub_eq] <;> omega) | omega) (fun _ _ => rfl) | exact VLe.rows (by simp [dsub_eq] <;> omega) rows_take | exact VLe.rows (by simp [dsub_eq] <;> omega) rows_dt | exact VLe.rows (by simp [dsub_eq] <;> omega) rows_vt | exact VLe.rows (by simp) (fun i _ => by simp [viewRow_eq, Nat.add_comm]) | refine VLe.aggL ?_ | (refine BLe.rows rfl ?_ fun _ _ => rfl; (first | rfl | (simp; done) | assumption | (simp [dsub_eq] <;> omega) | omega)) | (refine BLe.rows rfl rfl ?_; first | exact rows_take) | refine BLe.box ?_)
    · clear hx12
      intro s9 y10 g11 hy10
      conv => whnf
      refine seq_in tOk ?_
      conv => whnf
      refine And.intro (fun e => ?_) (fun e => ?_)
      · replace g11 := ite_t g11 e; clear e
        conv => whnf
        obtain ⟨x13, hx13, g11⟩ := bd_some g11
        refine callC 0 (spec_l84Up_c hx13) (by kernel_rfl) (by kernel_rfl) ?_
        clear hx13
        conv => whnf
        obtain ⟨x14, hx14, g11⟩ := bd_some g11
        refine callC 0 (spec_l82At_c hx14) (by kernel_rfl) (by kernel_rfl) ?_
        clear hx14
        conv => whnf
        obtain rfl := Option.some.inj g11
        refine ⟨_, rfl, le_mk ?_ ?_ ?_⟩ <;> (repeat' first | ((conv => whnf); first | exact trivial | refine And.intro ?_ ?_ | exact BLe.refl _ | exact VLe.refl _) | exact trivial | exact rfl | refine And.intro ?_ ?_ | exact BLe.refl _ | exact VLe.refl _ | exact VLe.any _ | exact VLe.nil_osl rfl | exact VLe.nil_sl rfl | exact VLe.built rfl rfl | (refine VLe.osl rfl ?_; (first | rfl | (simp; done) | assumption | (simp [dsub_eq] <;> omega) | omega)) | exact VLe.rows (by first | rfl | (simp; done) | assumption | (simp [dsub_eq] <;> omega) | omega) (fun _ _ => rfl) | exact VLe.rows (by simp [dsub_eq] <;> omega) rows_take | exact VLe.rows (by simp [dsub_eq] <;> omega) rows_dt | exact VLe.rows (by simp [dsub_eq] <;> omega) rows_vt | exact VLe.rows (by simp) (fun i _ => by simp [viewRow_eq, Nat.add_comm]) | refine VLe.aggL ?_ | (refine BLe.rows rfl ?_ fun _ _ => rfl; (first | rfl | (simp; done) | assumption | (simp [dsub_eq] <;> omega) | omega)) | (refine BLe.rows rfl rfl ?_; first | exact rows_take) | refine BLe.box ?_)
      · replace g11 := ite_f g11 e; clear e
        conv => whnf
        obtain rfl := Option.some.inj g11
        obtain rfl := hy10 _ rfl
        obtain rfl := Option.some.inj h
        exact ⟨_, LE.refl _, And.intro rfl trivial⟩

noncomputable def spec_TreeBest_m (a0 : TreeWorld) : Option ((List TreeMind)) :=
 bd (spec_TreeWorldOk_m a0) fun x1 =>
(if (!x1) = true then
 some []
else
 bd (lp (σ := List TreeMind × Int) (β := (Nat × (List TreeMind))) (fun s2 =>
(if (decide (s2.2 < ((a0.Bridges.length : Nat) : Int))) = true then
 gd ((0 : Int) ≤ s2.2 ∧ s2.2 < ((a0.Bridges.length : Nat) : Int)) <|
(if (a0.Bridges.getD s2.2.toNat default).Up = true then
 bd (spec_l84Mind_m a0 s2.2) fun x7 =>
 gd (((s2.1.length) + (([x7] : List TreeMind).length)) * (32 + 1) ≤ 70368744177664) <|
 some (.inl ((s2.1 ++ ([x7] : List TreeMind)), IntKind.i64.wrap (s2.2 + 1)))
else
 gd (((s2.1.length) + (([(⟨(⟨0, 0, 0⟩ : TreeVector), 0⟩ : TreeMind)] : List TreeMind).length)) * (32 + 1) ≤ 70368744177664) <|
 some (.inl ((s2.1 ++ ([(⟨(⟨0, 0, 0⟩ : TreeVector), 0⟩ : TreeMind)] : List TreeMind)), IntKind.i64.wrap (s2.2 + 1))))
else
 some (.inr (s2.1.length, s2.1)))) (([] : List TreeMind), 0)) fun x5 =>
 some x5.2)

theorem spec_TreeBest_c {a0 : TreeWorld} {r : (List TreeMind)} (h : spec_TreeBest_m a0 = some r) : PureC Try.prog 84 [.agg [.d (slD TreeBridge.enc a0.Bridges), .d (slD TreeLink.enc a0.Links), .d (slD encInt a0.Down), .d (slD TreeSlot.enc a0.AtA), .d (slD TreeSlot.enc a0.AtB), .d (slD TreeWord.enc a0.Radio)]] (.osl 5001 0 r.length) [⟨5001, 51, 4, r.length, rows TreeMind.enc r⟩] := by
  refine pureC_m tOk (fn := Try.f84) (c := codeOf Try.f84) rfl rfl (by kernel_rfl) rfl rfl (by simp [atomD]) (by simp) (ids_of rfl) ?_
  unfold spec_TreeBest_m at h
  conv => whnf
  refine seq_in tOk ?_
  conv => whnf
  obtain ⟨x1, hx1, h⟩ := bd_some h
  refine callC 0 (spec_TreeWorldOk_c hx1) (by kernel_rfl) (by kernel_rfl) ?_
  clear hx1
  conv => whnf
  refine And.intro (fun e => ?_) (fun e => ?_)
  · replace h := ite_t h e; clear e
    conv => whnf
    obtain rfl := Option.some.inj h
    refine ⟨⟨0, 34, [(2, .osl 5001 0 (([] : List TreeMind).length))], [], [(5001, .arr 51 4 (([] : List TreeMind).length) (rows TreeMind.enc ([] : List TreeMind)))], []⟩, ?_, And.intro rfl ?_⟩
    · refine LE.trans (S' := ⟨0, 34, [(2, .d (.nil))], [], [], []⟩) (le_mk ?_ ?_ ?_) (LE.trans (S' := ⟨0, 34, [(2, .d (.nil))], [], [(5001, .arr 51 4 (([] : List TreeMind).length) (rows TreeMind.enc ([] : List TreeMind)))], []⟩) (le_ph 5001 51 4 (rows TreeMind.enc ([] : List TreeMind)) rfl rfl) (le_mk ?_ ?_ ?_)) <;> (repeat' first | ((conv => whnf); first | exact trivial | refine And.intro ?_ ?_ | exact BLe.refl _ | exact VLe.refl _) | exact trivial | exact rfl | refine And.intro ?_ ?_ | exact BLe.refl _ | exact VLe.refl _ | exact VLe.any _ | exact VLe.nil_osl rfl | exact VLe.nil_sl rfl | exact VLe.built rfl rfl | (refine VLe.osl rfl ?_; (first | rfl | (simp; done) | assumption | (simp [dsub_eq] <;> omega) | omega)) | exact VLe.rows (by first | rfl | (simp; done) | assumption | (simp [dsub_eq] <;> omega) | omega) (fun _ _ => rfl) | exact VLe.rows (by simp [dsub_eq] <;> omega) rows_take | exact VLe.rows (by simp [dsub_eq] <;> omega) rows_dt | exact VLe.rows (by simp [dsub_eq] <;> omega) rows_vt | exact VLe.rows (by simp) (fun i _ => by simp [viewRow_eq, Nat.add_comm]) | refine VLe.aggL ?_ | (refine BLe.rows rfl ?_ fun _ _ => rfl; (first | rfl | (simp; done) | assumption | (simp [dsub_eq] <;> omega) | omega)) | (refine BLe.rows rfl rfl ?_; first | exact rows_take) | refine BLe.box ?_)
    · exact And.intro (And.intro rfl (And.intro rfl (fun _ _ => rfl))) (trivial)
  · replace h := ite_f h e; clear e
    conv => whnf
    refine seq_in tOk ?_
    conv => whnf
    obtain ⟨x5, hx5, h⟩ := bd_some h
    refine loop_m tOk hx5 (fun s2 => ⟨0, 34, [(1, .ref 1 0 0), (3, .osl 7001 0 s2.1.length), (4, .d (.int .i64 s2.2))], [], [(7001, .arr 51 4 s2.1.length (rows TreeMind.enc s2.1)), (1, .box 31 [.d (slD TreeBridge.enc a0.Bridges), .d (slD TreeLink.enc a0.Links), .d (slD encInt a0.Down), .d (slD TreeSlot.enc a0.AtA), .d (slD TreeSlot.enc a0.AtB), .d (slD TreeWord.enc a0.Radio)])], []⟩) ?_ ?_
    · refine LE.trans (S' := ⟨0, 34, [(1, .ref 1 0 0), (3, .d (.nil)), (4, .d (.int .i64 0))], [], [(1, .box 31 [.d (slD TreeBridge.enc a0.Bridges), .d (slD TreeLink.enc a0.Links), .d (slD encInt a0.Down), .d (slD TreeSlot.enc a0.AtA), .d (slD TreeSlot.enc a0.AtB), .d (slD TreeWord.enc a0.Radio)])], []⟩) (le_mk ?_ ?_ ?_) (LE.trans (S' := ⟨0, 34, [(1, .ref 1 0 0), (3, .d (.nil)), (4, .d (.int .i64 0))], [], [(7001, .arr 51 4 (([] : List TreeMind).length) (rows TreeMind.enc ([] : List TreeMind))), (1, .box 31 [.d (slD TreeBridge.enc a0.Bridges), .d (slD TreeLink.enc a0.Links), .d (slD encInt a0.Down), .d (slD TreeSlot.enc a0.AtA), .d (slD TreeSlot.enc a0.AtB), .d (slD TreeWord.enc a0.Radio)])], []⟩) (le_ph 7001 51 4 (rows TreeMind.enc ([] : List TreeMind)) rfl rfl) (le_mk ?_ ?_ ?_)) <;> (repeat' first | ((conv => whnf); first | exact trivial | refine And.intro ?_ ?_ | exact BLe.refl _ | exact VLe.refl _) | exact trivial | exact rfl | refine And.intro ?_ ?_ | exact BLe.refl _ | exact VLe.refl _ | exact VLe.any _ | exact VLe.nil_osl rfl | exact VLe.nil_sl rfl | exact VLe.built rfl rfl | (refine VLe.osl rfl ?_; (first | rfl | (simp; done) | assumption | (simp [dsub_eq] <;> omega) | omega)) | exact VLe.rows (by first | rfl | (simp; done) | assumption | (simp [dsub_eq] <;> omega) | omega) (fun _ _ => rfl) | exact VLe.rows (by simp [dsub_eq] <;> omega) rows_take | exact VLe.rows (by simp [dsub_eq] <;> omega) rows_dt | exact VLe.rows (by simp [dsub_eq] <;> omega) rows_vt | exact VLe.rows (by simp) (fun i _ => by simp [viewRow_eq, Nat.add_comm]) | refine VLe.aggL ?_ | (refine BLe.rows rfl ?_ fun _ _ => rfl; (first | rfl | (simp; done) | assumption | (simp [dsub_eq] <;> omega) | omega)) | (refine BLe.rows rfl rfl ?_; first | exact rows_take) | refine BLe.box ?_)
    · clear hx5
      intro s2 y3 g4 hy3
      conv => whnf
      refine seq_in tOk ?_
      conv => whnf
      refine And.intro (fun e => ?_) (fun e => ?_)
      · replace g4 := ite_t g4 e; clear e
        conv => whnf
        refine seq_in tOk ?_
        conv => whnf
        obtain ⟨g6, g4⟩ := gd_some g4
        refine And.intro g6 ?_
        clear g6
        conv => whnf
        refine And.intro (fun e => ?_) (fun e => ?_)
        · replace g4 := ite_t g4 e; clear e
          conv => whnf
          obtain ⟨x7, hx7, g4⟩ := bd_some g4
          refine callC 0 (spec_l84Mind_c hx7) (by kernel_rfl) (by kernel_rfl) ?_
          clear hx7
          conv => whnf
          refine ⟨([x7] : List TreeMind).length, rows TreeMind.enc ([x7] : List TreeMind), rfl, build_rows, ?_⟩
          conv => whnf
          obtain ⟨g8, g4⟩ := gd_some g4
          refine And.intro g8 ?_
          clear g8
          refine ⟨(s2.1 ++ ([x7] : List TreeMind)).length, rows TreeMind.enc (s2.1 ++ ([x7] : List TreeMind)), (by first | rfl | (simp; done) | assumption | (simp [dsub_eq] <;> omega) | omega), (by first | exact app_rows (m := ([x7] : List TreeMind).length) (by first | rfl | (simp; done) | assumption | (simp [dsub_eq] <;> omega) | omega) (by first | rfl | (simp; done) | assumption | (simp [dsub_eq] <;> omega) | omega) (fun _ _ => rfl) (fun _ _ => rfl) | exact app_rows0 (m := ([x7] : List TreeMind).length) (by first | rfl | (simp; done) | assumption | (simp [dsub_eq] <;> omega) | omega) (fun _ _ => rfl) | exact app_rows (m := ([x7] : List TreeMind).length) (by first | rfl | (simp; done) | assumption | (simp [dsub_eq] <;> omega) | omega) (by first | rfl | (simp; done) | assumption | (simp [dsub_eq] <;> omega) | omega) (by first | exact fun _ _ => rfl | exact rows_take | (intro i hi; simp only [viewRow_eq, addOff_eq, Int.toNat_zero, Nat.zero_add, Nat.add_zero]; exact rows_take i hi) | exact rows_vt | exact rows_dt | (intro i hi; simp only [viewRow_eq, Nat.zero_add]) | (intro i hi; simp [viewRow_eq])) (by first | exact fun _ _ => rfl | exact rows_take | (intro i hi; simp only [viewRow_eq, addOff_eq, Int.toNat_zero, Nat.zero_add, Nat.add_zero]; exact rows_take i hi) | exact rows_vt | exact rows_dt | (intro i hi; simp only [viewRow_eq, Nat.zero_add]) | (intro i hi; simp [viewRow_eq])) | exact app_rows0 (m := ([x7] : List TreeMind).length) (by first | rfl | (simp; done) | assumption | (simp [dsub_eq] <;> omega) | omega) (by first | exact fun _ _ => rfl | exact rows_take | (intro i hi; simp only [viewRow_eq, addOff_eq, Int.toNat_zero, Nat.zero_add, Nat.add_zero]; exact rows_take i hi) | exact rows_vt | exact rows_dt | (intro i hi; simp only [viewRow_eq, Nat.zero_add]) | (intro i hi; simp [viewRow_eq]))), ?_⟩
          conv => whnf
          obtain rfl := Option.some.inj g4
          refine ⟨_, rfl, le_mk ?_ ?_ ?_⟩ <;> (repeat' first | ((conv => whnf); first | exact trivial | refine And.intro ?_ ?_ | exact BLe.refl _ | exact VLe.refl _) | exact trivial | exact rfl | refine And.intro ?_ ?_ | exact BLe.refl _ | exact VLe.refl _ | exact VLe.any _ | exact VLe.nil_osl rfl | exact VLe.nil_sl rfl | exact VLe.built rfl rfl | (refine VLe.osl rfl ?_; (first | rfl | (simp; done) | assumption | (simp [dsub_eq] <;> omega) | omega)) | exact VLe.rows (by first | rfl | (simp; done) | assumption | (simp [dsub_eq] <;> omega) | omega) (fun _ _ => rfl) | exact VLe.rows (by simp [dsub_eq] <;> omega) rows_take | exact VLe.rows (by simp [dsub_eq] <;> omega) rows_dt | exact VLe.rows (by simp [dsub_eq] <;> omega) rows_vt | exact VLe.rows (by simp) (fun i _ => by simp [viewRow_eq, Nat.add_comm]) | refine VLe.aggL ?_ | (refine BLe.rows rfl ?_ fun _ _ => rfl; (first | rfl | (simp; done) | assumption | (simp [dsub_eq] <;> omega) | omega)) | (refine BLe.rows rfl rfl ?_; first | exact rows_take) | refine BLe.box ?_)
        · replace g4 := ite_f g4 e; clear e
          conv => whnf
          refine ⟨([(⟨(⟨0, 0, 0⟩ : TreeVector), 0⟩ : TreeMind)] : List TreeMind).length, rows TreeMind.enc ([(⟨(⟨0, 0, 0⟩ : TreeVector), 0⟩ : TreeMind)] : List TreeMind), rfl, build_rows, ?_⟩
          conv => whnf
          obtain ⟨g9, g4⟩ := gd_some g4
          refine And.intro g9 ?_
          clear g9
          refine ⟨(s2.1 ++ ([(⟨(⟨0, 0, 0⟩ : TreeVector), 0⟩ : TreeMind)] : List TreeMind)).length, rows TreeMind.enc (s2.1 ++ ([(⟨(⟨0, 0, 0⟩ : TreeVector), 0⟩ : TreeMind)] : List TreeMind)), (by first | rfl | (simp; done) | assumption | (simp [dsub_eq] <;> omega) | omega), (by first | exact app_rows (m := ([(⟨(⟨0, 0, 0⟩ : TreeVector), 0⟩ : TreeMind)] : List TreeMind).length) (by first | rfl | (simp; done) | assumption | (simp [dsub_eq] <;> omega) | omega) (by first | rfl | (simp; done) | assumption | (simp [dsub_eq] <;> omega) | omega) (fun _ _ => rfl) (fun _ _ => rfl) | exact app_rows0 (m := ([(⟨(⟨0, 0, 0⟩ : TreeVector), 0⟩ : TreeMind)] : List TreeMind).length) (by first | rfl | (simp; done) | assumption | (simp [dsub_eq] <;> omega) | omega) (fun _ _ => rfl) | exact app_rows (m := ([(⟨(⟨0, 0, 0⟩ : TreeVector), 0⟩ : TreeMind)] : List TreeMind).length) (by first | rfl | (simp; done) | assumption | (simp [dsub_eq] <;> omega) | omega) (by first | rfl | (simp; done) | assumption | (simp [dsub_eq] <;> omega) | omega) (by first | exact fun _ _ => rfl | exact rows_take | (intro i hi; simp only [viewRow_eq, addOff_eq, Int.toNat_zero, Nat.zero_add, Nat.add_zero]; exact rows_take i hi) | exact rows_vt | exact rows_dt | (intro i hi; simp only [viewRow_eq, Nat.zero_add]) | (intro i hi; simp [viewRow_eq])) (by first | exact fun _ _ => rfl | exact rows_take | (intro i hi; simp only [viewRow_eq, addOff_eq, Int.toNat_zero, Nat.zero_add, Nat.add_zero]; exact rows_take i hi) | exact rows_vt | exact rows_dt | (intro i hi; simp only [viewRow_eq, Nat.zero_add]) | (intro i hi; simp [viewRow_eq])) | exact app_rows0 (m := ([(⟨(⟨0, 0, 0⟩ : TreeVector), 0⟩ : TreeMind)] : List TreeMind).length) (by first | rfl | (simp; done) | assumption | (simp [dsub_eq] <;> omega) | omega) (by first | exact fun _ _ => rfl | exact rows_take | (intro i hi; simp only [viewRow_eq, addOff_eq, Int.toNat_zero, Nat.zero_add, Nat.add_zero]; exact rows_take i hi) | exact rows_vt | exact rows_dt | (intro i hi; simp only [viewRow_eq, Nat.zero_add]) | (intro i hi; simp [viewRow_eq]))), ?_⟩
          conv => whnf
          obtain rfl := Option.some.inj g4
          refine ⟨_, rfl, le_mk ?_ ?_ ?_⟩ <;> (repeat' first | ((conv => whnf); first | exact trivial | refine And.intro ?_ ?_ | exact BLe.refl _ | exact VLe.refl _) | exact trivial | exact rfl | refine And.intro ?_ ?_ | exact BLe.refl _ | exact VLe.refl _ | exact VLe.any _ | exact VLe.nil_osl rfl | exact VLe.nil_sl rfl | exact VLe.built rfl rfl | (refine VLe.osl rfl ?_; (first | rfl | (simp; done) | assumption | (simp [dsub_eq] <;> omega) | omega)) | exact VLe.rows (by first | rfl | (simp; done) | assumption | (simp [dsub_eq] <;> omega) | omega) (fun _ _ => rfl) | exact VLe.rows (by simp [dsub_eq] <;> omega) rows_take | exact VLe.rows (by simp [dsub_eq] <;> omega) rows_dt | exact VLe.rows (by simp [dsub_eq] <;> omega) rows_vt | exact VLe.rows (by simp) (fun i _ => by simp [viewRow_eq, Nat.add_comm]) | refine VLe.aggL ?_ | (refine BLe.rows rfl ?_ fun _ _ => rfl; (first | rfl | (simp; done) | assumption | (simp [dsub_eq] <;> omega) | omega)) | (refine BLe.rows rfl rfl ?_; first | exact rows_take) | refine BLe.box ?_)
      · replace g4 := ite_f g4 e; clear e
        conv => whnf
        obtain rfl := Option.some.inj g4
        obtain rfl := hy3 _ rfl
        obtain rfl := Option.some.inj h
        refine ⟨⟨0, 34, [(2, .osl 5001 0 (s2.1.length, s2.1).2.length)], [], [(5001, .arr 51 4 (s2.1.length, s2.1).2.length (rows TreeMind.enc (s2.1.length, s2.1).2))], []⟩, ?_, And.intro rfl ?_⟩
        · refine LE.trans (S' := ⟨0, 34, [(2, .osl 7001 0 (s2.1.length, s2.1).1)], [], [(7001, .arr 51 4 (s2.1.length, s2.1).1 (rows TreeMind.enc (s2.1.length, s2.1).2))], []⟩) (le_mk ?_ ?_ ?_) (LE.trans (S' := ⟨0, 34, [(2, .osl 5001 0 (s2.1.length, s2.1).1)], [], [(5001, .arr 51 4 (s2.1.length, s2.1).1 (rows TreeMind.enc (s2.1.length, s2.1).2))], []⟩) (le_swaps [(7001, 5001)] rfl) (le_mk ?_ ?_ ?_)) <;> (repeat' first | ((conv => whnf); first | exact trivial | refine And.intro ?_ ?_ | exact BLe.refl _ | exact VLe.refl _) | exact trivial | exact rfl | refine And.intro ?_ ?_ | exact BLe.refl _ | exact VLe.refl _ | exact VLe.any _ | exact VLe.nil_osl rfl | exact VLe.nil_sl rfl | exact VLe.built rfl rfl | (refine VLe.osl rfl ?_; (first | rfl | (simp; done) | assumption | (simp [dsub_eq] <;> omega) | omega)) | exact VLe.rows (by first | rfl | (simp; done) | assumption | (simp [dsub_eq] <;> omega) | omega) (fun _ _ => rfl) | exact VLe.rows (by simp [dsub_eq] <;> omega) rows_take | exact VLe.rows (by simp [dsub_eq] <;> omega) rows_dt | exact VLe.rows (by simp [dsub_eq] <;> omega) rows_vt | exact VLe.rows (by simp) (fun i _ => by simp [viewRow_eq, Nat.add_comm]) | refine VLe.aggL ?_ | (refine BLe.rows rfl ?_ fun _ _ => rfl; (first | rfl | (simp; done) | assumption | (simp [dsub_eq] <;> omega) | omega)) | (refine BLe.rows rfl rfl ?_; first | exact rows_take) | refine BLe.box ?_)
        · exact And.intro (And.intro rfl (And.intro rfl (fun _ _ => rfl))) (trivial)

noncomputable def spec_TreeRight_m (a0 : TreeWorld) : Option (Bool) :=
 bd (spec_TreeWorldOk_m a0) fun x1 =>
(if (!x1) = true then
 some false
else
 bd (spec_TreeBest_m a0) fun x2 =>
 bd (lp (σ := Int) (β := (Unit ⊕ Unit)) (fun s3 =>
(if (decide (s3 < ((x2.length : Nat) : Int))) = true then
 gd ((0 : Int) ≤ s3 ∧ s3 < ((a0.Bridges.length : Nat) : Int)) <|
 gd ((0 : Int) ≤ s3 ∧ s3 < ((x2.length : Nat) : Int)) <|
(if (!(((((((a0.Bridges.getD s3.toNat default).Mind).Vector).Root) == (((x2.getD s3.toNat default).Vector).Root)) && ((((((a0.Bridges.getD s3.toNat default).Mind).Vector).Cost) == (((x2.getD s3.toNat default).Vector).Cost)) && ((((((a0.Bridges.getD s3.toNat default).Mind).Vector).Age) == (((x2.getD s3.toNat default).Vector).Age)) && true))) && (((((a0.Bridges.getD s3.toNat default).Mind).Link) == ((x2.getD s3.toNat default).Link)) && true))) = true then
 some (.inr (.inl ()))
else
 some (.inl (IntKind.i64.wrap (s3 + 1))))
else
 some (.inr (.inr ())))) 0) fun x6 =>
(match x6 with
| .inl d9 =>
 some false
| .inr d10 =>
 some true))

theorem spec_TreeRight_c {a0 : TreeWorld} {r : Bool} (h : spec_TreeRight_m a0 = some r) : PureC Try.prog 34 [.agg [.d (slD TreeBridge.enc a0.Bridges), .d (slD TreeLink.enc a0.Links), .d (slD encInt a0.Down), .d (slD TreeSlot.enc a0.AtA), .d (slD TreeSlot.enc a0.AtB), .d (slD TreeWord.enc a0.Radio)]] (.d (.bool r)) [] := by
  refine pureC_m tOk (fn := Try.f34) (c := codeOf Try.f34) rfl rfl (by kernel_rfl) rfl rfl (by simp) (by simp) (ids_of rfl) ?_
  unfold spec_TreeRight_m at h
  conv => whnf
  refine seq_in tOk ?_
  conv => whnf
  obtain ⟨x1, hx1, h⟩ := bd_some h
  refine callC 0 (spec_TreeWorldOk_c hx1) (by kernel_rfl) (by kernel_rfl) ?_
  clear hx1
  conv => whnf
  refine And.intro (fun e => ?_) (fun e => ?_)
  · replace h := ite_t h e; clear e
    conv => whnf
    obtain rfl := Option.some.inj h
    exact ⟨_, LE.refl _, And.intro rfl trivial⟩
  · replace h := ite_f h e; clear e
    conv => whnf
    obtain ⟨x2, hx2, h⟩ := bd_some h
    refine callC 1000 (spec_TreeBest_c hx2) (by kernel_rfl) (by kernel_rfl) ?_
    clear hx2
    conv => whnf
    refine seq_in tOk ?_
    conv => whnf
    obtain ⟨x6, hx6, h⟩ := bd_some h
    refine loop_m tOk hx6 (fun s3 => ⟨0, 27, [(1, .ref 1 0 0), (3, .osl 6001 0 x2.length), (4, .d (.int .i64 s3))], [], [(6001, .arr 51 4 x2.length (rows TreeMind.enc x2)), (1, .box 31 [.d (slD TreeBridge.enc a0.Bridges), .d (slD TreeLink.enc a0.Links), .d (slD encInt a0.Down), .d (slD TreeSlot.enc a0.AtA), .d (slD TreeSlot.enc a0.AtB), .d (slD TreeWord.enc a0.Radio)])], []⟩) ?_ ?_
    · refine le_mk ?_ ?_ ?_ <;> (repeat' first | ((conv => whnf); first | exact trivial | refine And.intro ?_ ?_ | exact BLe.refl _ | exact VLe.refl _) | exact trivial | exact rfl | refine And.intro ?_ ?_ | exact BLe.refl _ | exact VLe.refl _ | exact VLe.any _ | exact VLe.nil_osl rfl | exact VLe.nil_sl rfl | exact VLe.built rfl rfl | (refine VLe.osl rfl ?_; (first | rfl | (simp; done) | assumption | (simp [dsub_eq] <;> omega) | omega)) | exact VLe.rows (by first | rfl | (simp; done) | assumption | (simp [dsub_eq] <;> omega) | omega) (fun _ _ => rfl) | exact VLe.rows (by simp [dsub_eq] <;> omega) rows_take | exact VLe.rows (by simp [dsub_eq] <;> omega) rows_dt | exact VLe.rows (by simp [dsub_eq] <;> omega) rows_vt | exact VLe.rows (by simp) (fun i _ => by simp [viewRow_eq, Nat.add_comm]) | refine VLe.aggL ?_ | (refine BLe.rows rfl ?_ fun _ _ => rfl; (first | rfl | (simp; done) | assumption | (simp [dsub_eq] <;> omega) | omega)) | (refine BLe.rows rfl rfl ?_; first | exact rows_take) | refine BLe.box ?_)
    · clear hx6
      intro s3 y4 g5 hy4
      conv => whnf
      refine seq_in tOk ?_
      conv => whnf
      refine And.intro (fun e => ?_) (fun e => ?_)
      · replace g5 := ite_t g5 e; clear e
        conv => whnf
        refine seq_in tOk ?_
        conv => whnf
        obtain ⟨g7, g5⟩ := gd_some g5
        obtain ⟨g8, g5⟩ := gd_some g5
        refine draw_k tOk (by kernel_rfl) (fun _ => none) 11 [] [[], [true], [], [true, true, true], [true, true, true, true], [true, true, true, true, true], [], [], [false, false, false, false, false, false, true, true], [false, false, false, false, false, false, true, true, true], [true, true, true, true, true, true, true, true, true, true]] [] (by decide) (by kernel_rfl) (by kernel_rfl) ?_
        conv => whnf
        refine And.intro g7 ?_
        clear g7
        conv => whnf
        refine And.intro g8 ?_
        clear g8
        conv => whnf
        refine And.intro (by kernel_rfl) ?_
        conv => whnf
        refine And.intro (fun e => ?_) (fun e => ?_)
        · replace g5 := ite_t g5 e; clear e
          conv => whnf
          obtain rfl := Option.some.inj g5
          obtain rfl := hy4 _ rfl
          obtain rfl := Option.some.inj h
          exact ⟨_, LE.refl _, And.intro rfl trivial⟩
        · replace g5 := ite_f g5 e; clear e
          conv => whnf
          obtain rfl := Option.some.inj g5
          refine ⟨_, rfl, le_mk ?_ ?_ ?_⟩ <;> (repeat' first | ((conv => whnf); first | exact trivial | refine And.intro ?_ ?_ | exact BLe.refl _ | exact VLe.refl _) | exact trivial | exact rfl | refine And.intro ?_ ?_ | exact BLe.refl _ | exact VLe.refl _ | exact VLe.any _ | exact VLe.nil_osl rfl | exact VLe.nil_sl rfl | exact VLe.built rfl rfl | (refine VLe.osl rfl ?_; (first | rfl | (simp; done) | assumption | (simp [dsub_eq] <;> omega) | omega)) | exact VLe.rows (by first | rfl | (simp; done) | assumption | (simp [dsub_eq] <;> omega) | omega) (fun _ _ => rfl) | exact VLe.rows (by simp [dsub_eq] <;> omega) rows_take | exact VLe.rows (by simp [dsub_eq] <;> omega) rows_dt | exact VLe.rows (by simp [dsub_eq] <;> omega) rows_vt | exact VLe.rows (by simp) (fun i _ => by simp [viewRow_eq, Nat.add_comm]) | refine VLe.aggL ?_ | (refine BLe.rows rfl ?_ fun _ _ => rfl; (first | rfl | (simp; done) | assumption | (simp [dsub_eq] <;> omega) | omega)) | (refine BLe.rows rfl rfl ?_; first | exact rows_take) | refine BLe.box ?_)
      · replace g5 := ite_f g5 e; clear e
        conv => whnf
        obtain rfl := Option.some.inj g5
        obtain rfl := hy4 _ rfl
        obtain rfl := Option.some.inj h
        exact ⟨_, LE.refl _, And.intro rfl trivial⟩

noncomputable def impl_within_m (a0 : Int) (a1 : Int) (a2 : Int) : Option (Bool) :=
 some ((decide (a1 ≤ a0)) && (decide (a0 ≤ a2)))

theorem impl_within_c {a0 : Int} {a1 : Int} {a2 : Int} {r : Bool} (h : impl_within_m a0 a1 a2 = some r) : PureC Try.prog 47 [.d (.int .i64 a0), .d (.int .i64 a1), .d (.int .i64 a2)] (.d (.bool r)) [] := by
  refine pureC_m tOk (fn := Try.f47) (c := codeOf Try.f47) rfl rfl (by kernel_rfl) rfl rfl (by simp) (by simp) (ids_of rfl) ?_
  unfold impl_within_m at h
  conv => whnf
  obtain rfl := Option.some.inj h
  exact ⟨_, LE.refl _, And.intro rfl trivial⟩

noncomputable def impl_TreeLinksOk_m (a0 : Int) (a1 : (List TreeLink)) : Option (Bool) :=
 bd (lp (σ := Int) (β := (Unit ⊕ Unit)) (fun s1 =>
(if (decide (s1 < ((a1.length : Nat) : Int))) = true then
 gd ((0 : Int) ≤ s1 ∧ s1 < ((a1.length : Nat) : Int)) <|
 bd (gcall ((((decide (((a1.getD s1.toNat default).A) < 0)) || (decide (((a1.getD s1.toNat default).A) ≥ ((a1.getD s1.toNat default).B)))) || (decide (((a1.getD s1.toNat default).B) ≥ a0))) = false) (impl_within_m ((a1.getD s1.toNat default).Cost) 1 50)) fun x6 =>
(if ((((decide (((a1.getD s1.toNat default).A) < 0)) || (decide (((a1.getD s1.toNat default).A) ≥ ((a1.getD s1.toNat default).B)))) || (decide (((a1.getD s1.toNat default).B) ≥ a0))) || (!x6)) = true then
 some (.inr (.inl ()))
else
 some (.inl (IntKind.i64.wrap (s1 + 1))))
else
 some (.inr (.inr ())))) 0) fun x4 =>
(match x4 with
| .inl d7 =>
 some false
| .inr d8 =>
 bd (impl_within_m a0 1 8) fun x9 =>
 some (x9 && (decide (((a1.length : Nat) : Int) ≤ 12))))

theorem impl_TreeLinksOk_c {a0 : Int} {a1 : (List TreeLink)} {r : Bool} (h : impl_TreeLinksOk_m a0 a1 = some r) : PureC Try.prog 13 [.d (.int .i64 a0), .d (slD TreeLink.enc a1)] (.d (.bool r)) [] := by
  refine pureC_m tOk (fn := Try.f13) (c := codeOf Try.f13) rfl rfl (by kernel_rfl) rfl rfl (by simp) (by simp) (ids_of rfl) ?_
  unfold impl_TreeLinksOk_m at h
  conv => whnf
  refine seq_in tOk ?_
  conv => whnf
  obtain ⟨x4, hx4, h⟩ := bd_some h
  refine loop_m tOk hx4 (fun s1 => ⟨0, 43, [(0, .d (.int .i64 a0)), (1, .d (slD TreeLink.enc a1)), (7, .d (slD TreeLink.enc a1)), (8, .d (.int .i64 ((a1.length : Nat) : Int))), (9, .d (.int .i64 s1))], [], [], []⟩) ?_ ?_
  · refine le_mk ?_ ?_ ?_ <;> (repeat' first | ((conv => whnf); first | exact trivial | refine And.intro ?_ ?_ | exact BLe.refl _ | exact VLe.refl _) | exact trivial | exact rfl | refine And.intro ?_ ?_ | exact BLe.refl _ | exact VLe.refl _ | exact VLe.any _ | exact VLe.nil_osl rfl | exact VLe.nil_sl rfl | exact VLe.built rfl rfl | (refine VLe.osl rfl ?_; (first | rfl | (simp; done) | assumption | (simp [dsub_eq] <;> omega) | omega)) | exact VLe.rows (by first | rfl | (simp; done) | assumption | (simp [dsub_eq] <;> omega) | omega) (fun _ _ => rfl) | exact VLe.rows (by simp [dsub_eq] <;> omega) rows_take | exact VLe.rows (by simp [dsub_eq] <;> omega) rows_dt | exact VLe.rows (by simp [dsub_eq] <;> omega) rows_vt | exact VLe.rows (by simp) (fun i _ => by simp [viewRow_eq, Nat.add_comm]) | refine VLe.aggL ?_ | (refine BLe.rows rfl ?_ fun _ _ => rfl; (first | rfl | (simp; done) | assumption | (simp [dsub_eq] <;> omega) | omega)) | (refine BLe.rows rfl rfl ?_; first | exact rows_take) | refine BLe.box ?_)
  · clear hx4
    intro s1 y2 g3 hy2
    conv => whnf
    refine seq_in tOk ?_
    conv => whnf
    refine And.intro (fun e => ?_) (fun e => ?_)
    · replace g3 := ite_t g3 e; clear e
      conv => whnf
      refine seq_in tOk ?_
      conv => whnf
      obtain ⟨g5, g3⟩ := gd_some g3
      refine And.intro g5 ?_
      clear g5
      conv => whnf
      obtain ⟨x6, hx6, g3⟩ := bd_some g3
      refine callG_m rfl rfl rfl rfl rfl rfl (by intro c0; exact impl_within_c (gcall_some hx6 c0)) ?_
      conv => whnf
      refine And.intro (fun e => ?_) (fun e => ?_)
      · replace g3 := ite_t g3 e; clear e
        conv => whnf
        obtain rfl := Option.some.inj g3
        obtain rfl := hy2 _ rfl
        obtain rfl := Option.some.inj h
        exact ⟨_, LE.refl _, And.intro rfl trivial⟩
      · replace g3 := ite_f g3 e; clear e
        conv => whnf
        obtain rfl := Option.some.inj g3
        refine ⟨_, rfl, le_mk ?_ ?_ ?_⟩ <;> (repeat' first | ((conv => whnf); first | exact trivial | refine And.intro ?_ ?_ | exact BLe.refl _ | exact VLe.refl _) | exact trivial | exact rfl | refine And.intro ?_ ?_ | exact BLe.refl _ | exact VLe.refl _ | exact VLe.any _ | exact VLe.nil_osl rfl | exact VLe.nil_sl rfl | exact VLe.built rfl rfl | (refine VLe.osl rfl ?_; (first | rfl | (simp; done) | assumption | (simp [dsub_eq] <;> omega) | omega)) | exact VLe.rows (by first | rfl | (simp; done) | assumption | (simp [dsub_eq] <;> omega) | omega) (fun _ _ => rfl) | exact VLe.rows (by simp [dsub_eq] <;> omega) rows_take | exact VLe.rows (by simp [dsub_eq] <;> omega) rows_dt | exact VLe.rows (by simp [dsub_eq] <;> omega) rows_vt | exact VLe.rows (by simp) (fun i _ => by simp [viewRow_eq, Nat.add_comm]) | refine VLe.aggL ?_ | (refine BLe.rows rfl ?_ fun _ _ => rfl; (first | rfl | (simp; done) | assumption | (simp [dsub_eq] <;> omega) | omega)) | (refine BLe.rows rfl rfl ?_; first | exact rows_take) | refine BLe.box ?_)
    · replace g3 := ite_f g3 e; clear e
      conv => whnf
      obtain rfl := Option.some.inj g3
      obtain rfl := hy2 _ rfl
      obtain ⟨x9, hx9, h⟩ := bd_some h
      refine callC 0 (impl_within_c hx9) (by kernel_rfl) (by kernel_rfl) ?_
      clear hx9
      conv => whnf
      obtain rfl := Option.some.inj h
      exact ⟨_, LE.refl _, And.intro rfl trivial⟩

noncomputable def impl_TreeWorld_bridgesOk_1_m (a0 : TreeBridge) (a1 : TreeBridge) : Option (Bool) :=
 some (a0.Id == a1.Id)

theorem impl_TreeWorld_bridgesOk_1_c {a0 : TreeBridge} {a1 : TreeBridge} {r : Bool} (h : impl_TreeWorld_bridgesOk_1_m a0 a1 = some r) : PureC Try.prog 97 [.agg [.d (.int .i64 a0.Id), .d (.bool a0.Up), .d (.int .i64 a0.Mind.Vector.Root), .d (.int .i64 a0.Mind.Vector.Cost), .d (.int .i64 a0.Mind.Vector.Age), .d (.int .i64 a0.Mind.Link)], .rp [.int .i64 a1.Id, .bool a1.Up, .int .i64 a1.Mind.Vector.Root, .int .i64 a1.Mind.Vector.Cost, .int .i64 a1.Mind.Vector.Age, .int .i64 a1.Mind.Link]] (.d (.bool r)) [] := by
  refine pureC_m tOk (fn := Try.f97) (c := codeOf Try.f97) rfl rfl (by kernel_rfl) rfl rfl (by simp) (by simp) (ids_of rfl) ?_
  unfold impl_TreeWorld_bridgesOk_1_m at h
  conv => whnf
  obtain rfl := Option.some.inj h
  exact ⟨_, LE.refl _, And.intro rfl trivial⟩

noncomputable def slices_IndexFunc_TreeBridge_TreeBridge_impl_TreeWorld_bridgesOk_1_m (a0 : (List TreeBridge)) (a1c0 : TreeBridge) : Option (Int) :=
 bd (lp (σ := Int) (β := (Int ⊕ Unit)) (fun s1 =>
(if (decide (s1 < ((a0.length : Nat) : Int))) = true then
 gd ((0 : Int) ≤ s1 ∧ s1 < ((a0.length : Nat) : Int)) <|
 bd (impl_TreeWorld_bridgesOk_1_m ({ (a0.getD s1.toNat default) with Mind := (⟨(((a0.getD s1.toNat default).Mind).Vector), ((a0.getD s1.toNat default).Mind).Link⟩ : TreeMind) }) a1c0) fun x6 =>
(if x6 = true then
 some (.inr (.inl s1))
else
 some (.inl (IntKind.i64.wrap (s1 + 1))))
else
 some (.inr (.inr ())))) 0) fun x4 =>
(match x4 with
| .inl d7 =>
 some d7
| .inr d8 =>
 some (-1))

theorem slices_IndexFunc_TreeBridge_TreeBridge_impl_TreeWorld_bridgesOk_1_c {a0 : (List TreeBridge)} {a1c0 : TreeBridge} {r : Int} (h : slices_IndexFunc_TreeBridge_TreeBridge_impl_TreeWorld_bridgesOk_1_m a0 a1c0 = some r) : PureC Try.prog 115 [.d (slD TreeBridge.enc a0), .fn 97 [.rp [.int .i64 a1c0.Id, .bool a1c0.Up, .int .i64 a1c0.Mind.Vector.Root, .int .i64 a1c0.Mind.Vector.Cost, .int .i64 a1c0.Mind.Vector.Age, .int .i64 a1c0.Mind.Link]]] (.d (.int .i64 r)) [] := by
  refine pureC_m tOk (fn := Try.f115) (c := codeOf Try.f115) rfl rfl (by kernel_rfl) rfl rfl (by simp) (by simp) (ids_of rfl) ?_
  unfold slices_IndexFunc_TreeBridge_TreeBridge_impl_TreeWorld_bridgesOk_1_m at h
  conv => whnf
  refine seq_in tOk ?_
  conv => whnf
  obtain ⟨x4, hx4, h⟩ := bd_some h
  refine loop_m tOk hx4 (fun s1 => ⟨0, 19, [(0, .d (slD TreeBridge.enc a0)), (1, .fn 97 [.rp [.int .i64 a1c0.Id, .bool a1c0.Up, .int .i64 a1c0.Mind.Vector.Root, .int .i64 a1c0.Mind.Vector.Cost, .int .i64 a1c0.Mind.Vector.Age, .int .i64 a1c0.Mind.Link]]), (7, .d (.int .i64 ((a0.length : Nat) : Int))), (8, .d (.int .i64 s1))], [], [], []⟩) ?_ ?_
  · refine le_mk ?_ ?_ ?_ <;> (repeat' first | ((conv => whnf); first | exact trivial | refine And.intro ?_ ?_ | exact BLe.refl _ | exact VLe.refl _) | exact trivial | exact rfl | refine And.intro ?_ ?_ | exact BLe.refl _ | exact VLe.refl _ | exact VLe.any _ | exact VLe.nil_osl rfl | exact VLe.nil_sl rfl | exact VLe.built rfl rfl | (refine VLe.osl rfl ?_; (first | rfl | (simp; done) | assumption | (simp [dsub_eq] <;> omega) | omega)) | exact VLe.rows (by first | rfl | (simp; done) | assumption | (simp [dsub_eq] <;> omega) | omega) (fun _ _ => rfl) | exact VLe.rows (by simp [dsub_eq] <;> omega) rows_take | exact VLe.rows (by simp [dsub_eq] <;> omega) rows_dt | exact VLe.rows (by simp [dsub_eq] <;> omega) rows_vt | exact VLe.rows (by simp) (fun i _ => by simp [viewRow_eq, Nat.add_comm]) | refine VLe.aggL ?_ | (refine BLe.rows rfl ?_ fun _ _ => rfl; (first | rfl | (simp; done) | assumption | (simp [dsub_eq] <;> omega) | omega)) | (refine BLe.rows rfl rfl ?_; first | exact rows_take) | refine BLe.box ?_)
  · clear hx4
    intro s1 y2 g3 hy2
    conv => whnf
    refine seq_in tOk ?_
    conv => whnf
    refine And.intro (fun e => ?_) (fun e => ?_)
    · replace g3 := ite_t g3 e; clear e
      conv => whnf
      refine seq_in tOk ?_
      conv => whnf
      obtain ⟨g5, g3⟩ := gd_some g3
      refine And.intro g5 ?_
      clear g5
      conv => whnf
      obtain ⟨x6, hx6, g3⟩ := bd_some g3
      refine callC 0 (impl_TreeWorld_bridgesOk_1_c hx6) (by kernel_rfl) (by kernel_rfl) ?_
      clear hx6
      conv => whnf
      refine And.intro (fun e => ?_) (fun e => ?_)
      · replace g3 := ite_t g3 e; clear e
        conv => whnf
        obtain rfl := Option.some.inj g3
        obtain rfl := hy2 _ rfl
        obtain rfl := Option.some.inj h
        exact ⟨_, LE.refl _, And.intro rfl trivial⟩
      · replace g3 := ite_f g3 e; clear e
        conv => whnf
        obtain rfl := Option.some.inj g3
        refine ⟨_, rfl, le_mk ?_ ?_ ?_⟩ <;> (repeat' first | ((conv => whnf); first | exact trivial | refine And.intro ?_ ?_ | exact BLe.refl _ | exact VLe.refl _) | exact trivial | exact rfl | refine And.intro ?_ ?_ | exact BLe.refl _ | exact VLe.refl _ | exact VLe.any _ | exact VLe.nil_osl rfl | exact VLe.nil_sl rfl | exact VLe.built rfl rfl | (refine VLe.osl rfl ?_; (first | rfl | (simp; done) | assumption | (simp [dsub_eq] <;> omega) | omega)) | exact VLe.rows (by first | rfl | (simp; done) | assumption | (simp [dsub_eq] <;> omega) | omega) (fun _ _ => rfl) | exact VLe.rows (by simp [dsub_eq] <;> omega) rows_take | exact VLe.rows (by simp [dsub_eq] <;> omega) rows_dt | exact VLe.rows (by simp [dsub_eq] <;> omega) rows_vt | exact VLe.rows (by simp) (fun i _ => by simp [viewRow_eq, Nat.add_comm]) | refine VLe.aggL ?_ | (refine BLe.rows rfl ?_ fun _ _ => rfl; (first | rfl | (simp; done) | assumption | (simp [dsub_eq] <;> omega) | omega)) | (refine BLe.rows rfl rfl ?_; first | exact rows_take) | refine BLe.box ?_)
    · replace g3 := ite_f g3 e; clear e
      conv => whnf
      obtain rfl := Option.some.inj g3
      obtain rfl := hy2 _ rfl
      obtain rfl := Option.some.inj h
      exact ⟨_, LE.refl _, And.intro rfl trivial⟩

noncomputable def slices_ContainsFunc_TreeBridge_TreeBridge_impl_TreeWorld_bridgesOk_1_m (a0 : (List TreeBridge)) (a1c0 : TreeBridge) : Option (Bool) :=
 bd (slices_IndexFunc_TreeBridge_TreeBridge_impl_TreeWorld_bridgesOk_1_m a0 a1c0) fun x1 =>
 some (decide (x1 ≥ 0))

theorem slices_ContainsFunc_TreeBridge_TreeBridge_impl_TreeWorld_bridgesOk_1_c {a0 : (List TreeBridge)} {a1c0 : TreeBridge} {r : Bool} (h : slices_ContainsFunc_TreeBridge_TreeBridge_impl_TreeWorld_bridgesOk_1_m a0 a1c0 = some r) : PureC Try.prog 96 [.d (slD TreeBridge.enc a0), .fn 97 [.rp [.int .i64 a1c0.Id, .bool a1c0.Up, .int .i64 a1c0.Mind.Vector.Root, .int .i64 a1c0.Mind.Vector.Cost, .int .i64 a1c0.Mind.Vector.Age, .int .i64 a1c0.Mind.Link]]] (.d (.bool r)) [] := by
  refine pureC_m tOk (fn := Try.f96) (c := codeOf Try.f96) rfl rfl (by kernel_rfl) rfl rfl (by simp) (by simp) (ids_of rfl) ?_
  unfold slices_ContainsFunc_TreeBridge_TreeBridge_impl_TreeWorld_bridgesOk_1_m at h
  conv => whnf
  obtain ⟨x1, hx1, h⟩ := bd_some h
  refine callC 0 (slices_IndexFunc_TreeBridge_TreeBridge_impl_TreeWorld_bridgesOk_1_c hx1) (by kernel_rfl) (by kernel_rfl) ?_
  clear hx1
  conv => whnf
  obtain rfl := Option.some.inj h
  exact ⟨_, LE.refl _, And.intro rfl trivial⟩

noncomputable def impl_TreeVector_nothing_m (a0 : TreeVector) : Option (Bool) :=
 some ((a0.Root == 0) && ((a0.Cost == 0) && ((a0.Age == 0) && true)))

theorem impl_TreeVector_nothing_c {a0 : TreeVector} {r : Bool} (h : impl_TreeVector_nothing_m a0 = some r) : PureC Try.prog 65 [.agg [.d (.int .i64 a0.Root), .d (.int .i64 a0.Cost), .d (.int .i64 a0.Age)]] (.d (.bool r)) [] := by
  refine pureC_m tOk (fn := Try.f65) (c := codeOf Try.f65) rfl rfl (by kernel_rfl) rfl rfl (by simp) (by simp) (ids_of rfl) ?_
  unfold impl_TreeVector_nothing_m at h
  conv => whnf
  obtain rfl := Option.some.inj h
  exact ⟨_, LE.refl _, And.intro rfl trivial⟩

noncomputable def impl_TreeVectorOk_m (a0 : TreeVector) : Option (Bool) :=
 bd (impl_TreeVector_nothing_m a0) fun x1 =>
 bd (gcall (x1 = false) (impl_within_m a0.Root 1 1000)) fun x2 =>
 bd (gcall (x2 = true ∧ x1 = false) (impl_within_m a0.Cost 0 1000)) fun x3 =>
 bd (gcall ((x2 && x3) = true ∧ x1 = false) (impl_within_m a0.Age 0 10)) fun x4 =>
 some (x1 || ((x2 && x3) && x4))

theorem impl_TreeVectorOk_c {a0 : TreeVector} {r : Bool} (h : impl_TreeVectorOk_m a0 = some r) : PureC Try.prog 64 [.agg [.d (.int .i64 a0.Root), .d (.int .i64 a0.Cost), .d (.int .i64 a0.Age)]] (.d (.bool r)) [] := by
  refine pureC_m tOk (fn := Try.f64) (c := codeOf Try.f64) rfl rfl (by kernel_rfl) rfl rfl (by simp) (by simp) (ids_of rfl) ?_
  unfold impl_TreeVectorOk_m at h
  conv => whnf
  obtain ⟨x1, hx1, h⟩ := bd_some h
  refine callC 0 (impl_TreeVector_nothing_c hx1) (by kernel_rfl) (by kernel_rfl) ?_
  clear hx1
  conv => whnf
  obtain ⟨x2, hx2, h⟩ := bd_some h
  refine callG_m rfl rfl rfl rfl rfl rfl (by intro c0; exact impl_within_c (gcall_some hx2 c0)) ?_
  conv => whnf
  obtain ⟨x3, hx3, h⟩ := bd_some h
  refine callG_m rfl rfl rfl rfl rfl rfl (by intro c0 c1; exact impl_within_c (gcall_some hx3 ⟨c0, c1⟩)) ?_
  conv => whnf
  obtain ⟨x4, hx4, h⟩ := bd_some h
  refine callG_m rfl rfl rfl rfl rfl rfl (by intro c0 c1; exact impl_within_c (gcall_some hx4 ⟨c0, c1⟩)) ?_
  conv => whnf
  obtain rfl := Option.some.inj h
  exact ⟨_, LE.refl _, And.intro rfl trivial⟩

end Go.Proofs.Ytbolhcpkpncmfaa
