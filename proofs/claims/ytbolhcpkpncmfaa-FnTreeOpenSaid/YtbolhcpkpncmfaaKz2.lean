/-
  What some of the program's functions compute: their models, and that the functions compute these; no condition.
-/
import Derived.Test.YtbolhcpkpncmfaaTyz
import Derived.Test.YtbolhcpkpncmfaaTbz
import Derived.Test.YtbolhcpkpncmfaaKz1
set_option linter.all false
namespace Go.Proofs.Ytbolhcpkpncmfaa
open Go Go.Ab
set_option maxRecDepth 100000
set_option maxHeartbeats 4000000
noncomputable def spec_DrawTreeOpenWorld_m (a0 : (List Int)) : Option ((List Int) × (List TreeLink)) :=
 bd (spec_l81Open_m a0) fun x1 =>
 bd (spec_l81Rd_pick_m x1 8) fun x2 =>
 bd (spec_l85Ids_m (⟨x1.b, x2.2.p⟩ : l81Rd) (IntKind.i64.wrap (1 + x2.1))) fun x3 =>
 bd (spec_l85Links_m (⟨x1.b, x3.2.p⟩ : l81Rd) (IntKind.i64.wrap (1 + x2.1))) fun x4 =>
 bd (spec_l81Rd_pick_m (⟨x1.b, x4.2.p⟩ : l81Rd) 6) fun x5 =>
(if (x5.1 == 0) = true then
 bd (spec_l81Rd_pick_m (⟨x1.b, x5.2.p⟩ : l81Rd) (IntKind.i64.wrap (1 + x2.1))) fun x6 =>
 gd ((0 : Int) ≤ 0 ∧ 0 < ((x3.1.length : Nat) : Int)) <|
 bd (spec_l81Rd_pick_m (⟨x1.b, x6.2.p⟩ : l81Rd) 4) fun x8 =>
 gd ((0 : Int) ≤ x8.1 ∧ x8.1 < ((([0, (x3.1.getD 0 default), 1000, 1001] : List Int).length : Nat) : Int)) <|
 gd ((0 : Int) ≤ x6.1 ∧ x6.1 < ((x3.1.length : Nat) : Int)) <|
 bd (some (x3.1.set x6.1.toNat (([0, (x3.1.getD 0 default), 1000, 1001] : List Int).getD x8.1.toNat default))) fun x11 =>
 some (x11, x4.1)
else
(if (x5.1 == 1) = true then
 bd (spec_l81Rd_pick_m (⟨x1.b, x5.2.p⟩ : l81Rd) 9) fun x12 =>
 bd (spec_l81Rd_pick_m (⟨x1.b, x12.2.p⟩ : l81Rd) 9) fun x13 =>
 bd (spec_l81Rd_pick_m (⟨x1.b, x13.2.p⟩ : l81Rd) 4) fun x14 =>
 gd (((x4.1.length) + (([(⟨IntKind.i64.wrap (x12.1 - 1), x13.1, x14.1⟩ : TreeLink)] : List TreeLink).length)) * (24 + 1) ≤ 70368744177664) <|
 some (x3.1, (x4.1 ++ ([(⟨IntKind.i64.wrap (x12.1 - 1), x13.1, x14.1⟩ : TreeLink)] : List TreeLink)))
else
(if (x5.1 == 2) = true then
 gd (((x3.1.length) + (([999] : List Int).length)) * (8 + 1) ≤ 70368744177664) <|
 some ((x3.1 ++ ([999] : List Int)), x4.1)
else
 some (x3.1, x4.1))))

theorem spec_DrawTreeOpenWorld_c {a0 : (List Int)} {r : (List Int) × (List TreeLink)} (h : spec_DrawTreeOpenWorld_m a0 = some r) : PureC Try.prog 9 [.d (slD encByte a0)] (.tup [.osl 5001 0 r.1.length, .osl 5002 0 r.2.length]) [⟨5001, 3, 1, r.1.length, rows encInt r.1⟩, ⟨5002, 70, 3, r.2.length, rows TreeLink.enc r.2⟩] := by
  refine pureC_m tOk (fn := Try.f9) (c := codeOf Try.f9) rfl rfl (by kernel_rfl) rfl rfl (by simp [atomD]) (by simp) (ids_of rfl) ?_
  unfold spec_DrawTreeOpenWorld_m at h
  conv => whnf
  obtain ⟨x1, hx1, h⟩ := bd_some h
  refine callE [] 1000 (spec_l81Open_c hx1) (by (repeat' first | ((conv => whnf); first | exact trivial | refine And.intro ?_ ?_ | exact BLe.refl _ | exact VLe.refl _) | exact trivial | refine And.intro ?_ ?_ | exact VLe.refl _ | exact VLe.any _ | exact VLe.nil_osl rfl | exact VLe.nil_sl rfl | exact VLe.built rfl rfl | (refine VLe.osl rfl ?_; (first | rfl | (simp; done) | assumption | (simp [dsub_eq] <;> omega) | omega)) | exact VLe.rows (by first | rfl | (simp; done) | assumption | (simp [dsub_eq] <;> omega) | omega) (fun _ _ => rfl) | exact VLe.rows (by simp [dsub_eq] <;> omega) rows_take | exact VLe.rows (by simp [dsub_eq] <;> omega) rows_dt | exact VLe.rows (by simp [dsub_eq] <;> omega) rows_vt | exact VLe.rows (by simp) (fun i _ => by simp [viewRow_eq, Nat.add_comm]) | refine VLe.aggL ?_)) (by (repeat' first | ((conv => whnf); first | exact trivial | refine And.intro ?_ ?_ | exact BLe.refl _ | exact VLe.refl _) | exact trivial | exact rfl | refine And.intro ?_ ?_ | exact BLe.refl _ | exact VLe.refl _ | exact VLe.any _ | exact VLe.nil_osl rfl | exact VLe.nil_sl rfl | exact VLe.built rfl rfl | (refine VLe.osl rfl ?_; (first | rfl | (simp; done) | assumption | (simp [dsub_eq] <;> omega) | omega)) | exact VLe.rows (by first | rfl | (simp; done) | assumption | (simp [dsub_eq] <;> omega) | omega) (fun _ _ => rfl) | exact VLe.rows (by simp [dsub_eq] <;> omega) rows_take | exact VLe.rows (by simp [dsub_eq] <;> omega) rows_dt | exact VLe.rows (by simp [dsub_eq] <;> omega) rows_vt | exact VLe.rows (by simp) (fun i _ => by simp [viewRow_eq, Nat.add_comm]) | refine VLe.aggL ?_ | (refine BLe.rows rfl ?_ fun _ _ => rfl; (first | rfl | (simp; done) | assumption | (simp [dsub_eq] <;> omega) | omega)) | refine BLe.box ?_ | (simp; done))) rfl rfl ?_
  conv => whnf
  obtain ⟨x2, hx2, h⟩ := bd_some h
  refine callE [(9000, 6001)] 0 (spec_l81Rd_pick_c hx2) (by (repeat' first | ((conv => whnf); first | exact trivial | refine And.intro ?_ ?_ | exact BLe.refl _ | exact VLe.refl _) | exact trivial | refine And.intro ?_ ?_ | exact VLe.refl _ | exact VLe.any _ | exact VLe.nil_osl rfl | exact VLe.nil_sl rfl | exact VLe.built rfl rfl | (refine VLe.osl rfl ?_; (first | rfl | (simp; done) | assumption | (simp [dsub_eq] <;> omega) | omega)) | exact VLe.rows (by first | rfl | (simp; done) | assumption | (simp [dsub_eq] <;> omega) | omega) (fun _ _ => rfl) | exact VLe.rows (by simp [dsub_eq] <;> omega) rows_take | exact VLe.rows (by simp [dsub_eq] <;> omega) rows_dt | exact VLe.rows (by simp [dsub_eq] <;> omega) rows_vt | exact VLe.rows (by simp) (fun i _ => by simp [viewRow_eq, Nat.add_comm]) | refine VLe.aggL ?_)) (by (repeat' first | ((conv => whnf); first | exact trivial | refine And.intro ?_ ?_ | exact BLe.refl _ | exact VLe.refl _) | exact trivial | exact rfl | refine And.intro ?_ ?_ | exact BLe.refl _ | exact VLe.refl _ | exact VLe.any _ | exact VLe.nil_osl rfl | exact VLe.nil_sl rfl | exact VLe.built rfl rfl | (refine VLe.osl rfl ?_; (first | rfl | (simp; done) | assumption | (simp [dsub_eq] <;> omega) | omega)) | exact VLe.rows (by first | rfl | (simp; done) | assumption | (simp [dsub_eq] <;> omega) | omega) (fun _ _ => rfl) | exact VLe.rows (by simp [dsub_eq] <;> omega) rows_take | exact VLe.rows (by simp [dsub_eq] <;> omega) rows_dt | exact VLe.rows (by simp [dsub_eq] <;> omega) rows_vt | exact VLe.rows (by simp) (fun i _ => by simp [viewRow_eq, Nat.add_comm]) | refine VLe.aggL ?_ | (refine BLe.rows rfl ?_ fun _ _ => rfl; (first | rfl | (simp; done) | assumption | (simp [dsub_eq] <;> omega) | omega)) | refine BLe.box ?_ | (simp; done))) rfl rfl ?_
  conv => whnf
  obtain ⟨x3, hx3, h⟩ := bd_some h
  refine callE [(9000, 6001)] 2000 (spec_l85Ids_c hx3) (by (repeat' first | ((conv => whnf); first | exact trivial | refine And.intro ?_ ?_ | exact BLe.refl _ | exact VLe.refl _) | exact trivial | refine And.intro ?_ ?_ | exact VLe.refl _ | exact VLe.any _ | exact VLe.nil_osl rfl | exact VLe.nil_sl rfl | exact VLe.built rfl rfl | (refine VLe.osl rfl ?_; (first | rfl | (simp; done) | assumption | (simp [dsub_eq] <;> omega) | omega)) | exact VLe.rows (by first | rfl | (simp; done) | assumption | (simp [dsub_eq] <;> omega) | omega) (fun _ _ => rfl) | exact VLe.rows (by simp [dsub_eq] <;> omega) rows_take | exact VLe.rows (by simp [dsub_eq] <;> omega) rows_dt | exact VLe.rows (by simp [dsub_eq] <;> omega) rows_vt | exact VLe.rows (by simp) (fun i _ => by simp [viewRow_eq, Nat.add_comm]) | refine VLe.aggL ?_)) (by (repeat' first | ((conv => whnf); first | exact trivial | refine And.intro ?_ ?_ | exact BLe.refl _ | exact VLe.refl _) | exact trivial | exact rfl | refine And.intro ?_ ?_ | exact BLe.refl _ | exact VLe.refl _ | exact VLe.any _ | exact VLe.nil_osl rfl | exact VLe.nil_sl rfl | exact VLe.built rfl rfl | (refine VLe.osl rfl ?_; (first | rfl | (simp; done) | assumption | (simp [dsub_eq] <;> omega) | omega)) | exact VLe.rows (by first | rfl | (simp; done) | assumption | (simp [dsub_eq] <;> omega) | omega) (fun _ _ => rfl) | exact VLe.rows (by simp [dsub_eq] <;> omega) rows_take | exact VLe.rows (by simp [dsub_eq] <;> omega) rows_dt | exact VLe.rows (by simp [dsub_eq] <;> omega) rows_vt | exact VLe.rows (by simp) (fun i _ => by simp [viewRow_eq, Nat.add_comm]) | refine VLe.aggL ?_ | (refine BLe.rows rfl ?_ fun _ _ => rfl; (first | rfl | (simp; done) | assumption | (simp [dsub_eq] <;> omega) | omega)) | refine BLe.box ?_ | (simp; done))) rfl rfl ?_
  conv => whnf
  obtain ⟨x4, hx4, h⟩ := bd_some h
  refine callE [(9000, 6001)] 3000 (spec_l85Links_c hx4) (by (repeat' first | ((conv => whnf); first | exact trivial | refine And.intro ?_ ?_ | exact BLe.refl _ | exact VLe.refl _) | exact trivial | refine And.intro ?_ ?_ | exact VLe.refl _ | exact VLe.any _ | exact VLe.nil_osl rfl | exact VLe.nil_sl rfl | exact VLe.built rfl rfl | (refine VLe.osl rfl ?_; (first | rfl | (simp; done) | assumption | (simp [dsub_eq] <;> omega) | omega)) | exact VLe.rows (by first | rfl | (simp; done) | assumption | (simp [dsub_eq] <;> omega) | omega) (fun _ _ => rfl) | exact VLe.rows (by simp [dsub_eq] <;> omega) rows_take | exact VLe.rows (by simp [dsub_eq] <;> omega) rows_dt | exact VLe.rows (by simp [dsub_eq] <;> omega) rows_vt | exact VLe.rows (by simp) (fun i _ => by simp [viewRow_eq, Nat.add_comm]) | refine VLe.aggL ?_)) (by (repeat' first | ((conv => whnf); first | exact trivial | refine And.intro ?_ ?_ | exact BLe.refl _ | exact VLe.refl _) | exact trivial | exact rfl | refine And.intro ?_ ?_ | exact BLe.refl _ | exact VLe.refl _ | exact VLe.any _ | exact VLe.nil_osl rfl | exact VLe.nil_sl rfl | exact VLe.built rfl rfl | (refine VLe.osl rfl ?_; (first | rfl | (simp; done) | assumption | (simp [dsub_eq] <;> omega) | omega)) | exact VLe.rows (by first | rfl | (simp; done) | assumption | (simp [dsub_eq] <;> omega) | omega) (fun _ _ => rfl) | exact VLe.rows (by simp [dsub_eq] <;> omega) rows_take | exact VLe.rows (by simp [dsub_eq] <;> omega) rows_dt | exact VLe.rows (by simp [dsub_eq] <;> omega) rows_vt | exact VLe.rows (by simp) (fun i _ => by simp [viewRow_eq, Nat.add_comm]) | refine VLe.aggL ?_ | (refine BLe.rows rfl ?_ fun _ _ => rfl; (first | rfl | (simp; done) | assumption | (simp [dsub_eq] <;> omega) | omega)) | refine BLe.box ?_ | (simp; done))) rfl rfl ?_
  conv => whnf
  refine seq_in tOk ?_
  conv => whnf
  obtain ⟨x5, hx5, h⟩ := bd_some h
  refine callE [(9000, 6001)] 0 (spec_l81Rd_pick_c hx5) (by (repeat' first | ((conv => whnf); first | exact trivial | refine And.intro ?_ ?_ | exact BLe.refl _ | exact VLe.refl _) | exact trivial | refine And.intro ?_ ?_ | exact VLe.refl _ | exact VLe.any _ | exact VLe.nil_osl rfl | exact VLe.nil_sl rfl | exact VLe.built rfl rfl | (refine VLe.osl rfl ?_; (first | rfl | (simp; done) | assumption | (simp [dsub_eq] <;> omega) | omega)) | exact VLe.rows (by first | rfl | (simp; done) | assumption | (simp [dsub_eq] <;> omega) | omega) (fun _ _ => rfl) | exact VLe.rows (by simp [dsub_eq] <;> omega) rows_take | exact VLe.rows (by simp [dsub_eq] <;> omega) rows_dt | exact VLe.rows (by simp [dsub_eq] <;> omega) rows_vt | exact VLe.rows (by simp) (fun i _ => by simp [viewRow_eq, Nat.add_comm]) | refine VLe.aggL ?_)) (by (repeat' first | ((conv => whnf); first | exact trivial | refine And.intro ?_ ?_ | exact BLe.refl _ | exact VLe.refl _) | exact trivial | exact rfl | refine And.intro ?_ ?_ | exact BLe.refl _ | exact VLe.refl _ | exact VLe.any _ | exact VLe.nil_osl rfl | exact VLe.nil_sl rfl | exact VLe.built rfl rfl | (refine VLe.osl rfl ?_; (first | rfl | (simp; done) | assumption | (simp [dsub_eq] <;> omega) | omega)) | exact VLe.rows (by first | rfl | (simp; done) | assumption | (simp [dsub_eq] <;> omega) | omega) (fun _ _ => rfl) | exact VLe.rows (by simp [dsub_eq] <;> omega) rows_take | exact VLe.rows (by simp [dsub_eq] <;> omega) rows_dt | exact VLe.rows (by simp [dsub_eq] <;> omega) rows_vt | exact VLe.rows (by simp) (fun i _ => by simp [viewRow_eq, Nat.add_comm]) | refine VLe.aggL ?_ | (refine BLe.rows rfl ?_ fun _ _ => rfl; (first | rfl | (simp; done) | assumption | (simp [dsub_eq] <;> omega) | omega)) | refine BLe.box ?_ | (simp; done))) rfl rfl ?_
  conv => whnf
  refine And.intro (fun e => ?_) (fun e => ?_)
  · replace h := ite_t h e; clear e
    conv => whnf
    obtain ⟨x6, hx6, h⟩ := bd_some h
    obtain ⟨g7, h⟩ := gd_some h
    obtain ⟨x8, hx8, h⟩ := bd_some h
    obtain ⟨g9, h⟩ := gd_some h
    obtain ⟨g10, h⟩ := gd_some h
    refine draw_gk tOk (by kernel_rfl) (fun j => match j with | 3 => some (.eff (.d (.int .i64 x6.1)) [] [(6001, .box 109 [.d (slD encByte x1.b), .d (.int .i64 x6.2.p)])] (fun g vs => EffD Try.prog [(6001, .box 109 [.d (slD encByte x1.b), .d (.int .i64 x5.2.p)])] g vs (.d (.int .i64 x6.1)) [] [(6001, .box 109 [.d (slD encByte x1.b), .d (.int .i64 x6.2.p)])]) (LeB [(6001, .box 109 [.d (slD encByte x1.b), .d (.int .i64 x5.2.p)])] [(6001, .box 109 [.d (slD encByte x1.b), .d (.int .i64 x6.2.p)])])) | 9 => some (.eff (.d (.int .i64 x8.1)) [] [(6001, .box 109 [.d (slD encByte x1.b), .d (.int .i64 x8.2.p)])] (fun g vs => EffD Try.prog [(6001, .box 109 [.d (slD encByte x1.b), .d (.int .i64 x6.2.p)])] g vs (.d (.int .i64 x8.1)) [] [(6001, .box 109 [.d (slD encByte x1.b), .d (.int .i64 x8.2.p)])]) (LeB [(6001, .box 109 [.d (slD encByte x1.b), .d (.int .i64 x6.2.p)])] [(6001, .box 109 [.d (slD encByte x1.b), .d (.int .i64 x8.2.p)])])) | _ => none) (fun j => match j with | 3 => [(6001, .box 109 [.d (slD encByte x1.b), .d (.int .i64 x5.2.p)])] | 9 => [(6001, .box 109 [.d (slD encByte x1.b), .d (.int .i64 x6.2.p)])] | _ => []) (fun _ => []) 13 [] [[], [], [], [false, true, true], [], [false, false, false, false, true], [false, false, false, false, true, true], [false, false, false, false, true, true, true], [], [false, true, true, true, false, false, false, false, true], [false, true, true, true, true, true, true, true, true, true], [false, true, true, true, true, true, true, true, true, true, true], [true, true, true, true, true, true, true, true, true, true, true, true]] [[true, true, true, true, true, true, true, true, true, true, true, true, true]] [6001] (by decide) (by kernel_rfl) (chainG_pure rfl (chainG_pure rfl (chainG_pure rfl (chainG_eff rfl (fun _ _ h => h) (fun h => h) rfl rfl (chainG_pure rfl (chainG_pure rfl (chainG_pure rfl (chainG_pure rfl (chainG_pure rfl (chainG_eff rfl (fun _ _ h => h) (fun h => h) rfl rfl (chainG_pure rfl (chainG_pure rfl (chainG_pure rfl (chainG_nil)))))))))))))) (by kernel_rfl) ?_
    conv => whnf
    refine And.intro (effD_mk [(9000, 6001)] 0 (spec_l81Rd_pick_c hx6) (by (repeat' first | ((conv => whnf); first | exact trivial | refine And.intro ?_ ?_ | exact BLe.refl _ | exact VLe.refl _) | exact trivial | refine And.intro ?_ ?_ | exact VLe.refl _ | exact VLe.any _ | exact VLe.nil_osl rfl | exact VLe.nil_sl rfl | exact VLe.built rfl rfl | (refine VLe.osl rfl ?_; (first | rfl | (simp; done) | assumption | (simp [dsub_eq] <;> omega) | omega)) | exact VLe.rows (by first | rfl | (simp; done) | assumption | (simp [dsub_eq] <;> omega) | omega) (fun _ _ => rfl) | exact VLe.rows (by simp [dsub_eq] <;> omega) rows_take | exact VLe.rows (by simp [dsub_eq] <;> omega) rows_dt | exact VLe.rows (by simp [dsub_eq] <;> omega) rows_vt | exact VLe.rows (by simp) (fun i _ => by simp [viewRow_eq, Nat.add_comm]) | refine VLe.aggL ?_)) (by (repeat' first | ((conv => whnf); first | exact trivial | refine And.intro ?_ ?_ | exact BLe.refl _ | exact VLe.refl _) | exact trivial | exact rfl | refine And.intro ?_ ?_ | exact BLe.refl _ | exact VLe.refl _ | exact VLe.any _ | exact VLe.nil_osl rfl | exact VLe.nil_sl rfl | exact VLe.built rfl rfl | (refine VLe.osl rfl ?_; (first | rfl | (simp; done) | assumption | (simp [dsub_eq] <;> omega) | omega)) | exact VLe.rows (by first | rfl | (simp; done) | assumption | (simp [dsub_eq] <;> omega) | omega) (fun _ _ => rfl) | exact VLe.rows (by simp [dsub_eq] <;> omega) rows_take | exact VLe.rows (by simp [dsub_eq] <;> omega) rows_dt | exact VLe.rows (by simp [dsub_eq] <;> omega) rows_vt | exact VLe.rows (by simp) (fun i _ => by simp [viewRow_eq, Nat.add_comm]) | refine VLe.aggL ?_ | (refine BLe.rows rfl ?_ fun _ _ => rfl; (first | rfl | (simp; done) | assumption | (simp [dsub_eq] <;> omega) | omega)) | refine BLe.box ?_ | (simp; done))) rfl rfl rfl rfl) ?_
    conv => whnf
    refine And.intro g7 ?_
    clear g7
    conv => whnf
    refine ⟨([0, (x3.1.getD 0 default), 1000, 1001] : List Int).length, rows encInt ([0, (x3.1.getD 0 default), 1000, 1001] : List Int), rfl, build_rows, ?_⟩
    conv => whnf
    refine And.intro (effD_mk [(9000, 6001)] 0 (spec_l81Rd_pick_c hx8) (by (repeat' first | ((conv => whnf); first | exact trivial | refine And.intro ?_ ?_ | exact BLe.refl _ | exact VLe.refl _) | exact trivial | refine And.intro ?_ ?_ | exact VLe.refl _ | exact VLe.any _ | exact VLe.nil_osl rfl | exact VLe.nil_sl rfl | exact VLe.built rfl rfl | (refine VLe.osl rfl ?_; (first | rfl | (simp; done) | assumption | (simp [dsub_eq] <;> omega) | omega)) | exact VLe.rows (by first | rfl | (simp; done) | assumption | (simp [dsub_eq] <;> omega) | omega) (fun _ _ => rfl) | exact VLe.rows (by simp [dsub_eq] <;> omega) rows_take | exact VLe.rows (by simp [dsub_eq] <;> omega) rows_dt | exact VLe.rows (by simp [dsub_eq] <;> omega) rows_vt | exact VLe.rows (by simp) (fun i _ => by simp [viewRow_eq, Nat.add_comm]) | refine VLe.aggL ?_)) (by (repeat' first | ((conv => whnf); first | exact trivial | refine And.intro ?_ ?_ | exact BLe.refl _ | exact VLe.refl _) | exact trivial | exact rfl | refine And.intro ?_ ?_ | exact BLe.refl _ | exact VLe.refl _ | exact VLe.any _ | exact VLe.nil_osl rfl | exact VLe.nil_sl rfl | exact VLe.built rfl rfl | (refine VLe.osl rfl ?_; (first | rfl | (simp; done) | assumption | (simp [dsub_eq] <;> omega) | omega)) | exact VLe.rows (by first | rfl | (simp; done) | assumption | (simp [dsub_eq] <;> omega) | omega) (fun _ _ => rfl) | exact VLe.rows (by simp [dsub_eq] <;> omega) rows_take | exact VLe.rows (by simp [dsub_eq] <;> omega) rows_dt | exact VLe.rows (by simp [dsub_eq] <;> omega) rows_vt | exact VLe.rows (by simp) (fun i _ => by simp [viewRow_eq, Nat.add_comm]) | refine VLe.aggL ?_ | (refine BLe.rows rfl ?_ fun _ _ => rfl; (first | rfl | (simp; done) | assumption | (simp [dsub_eq] <;> omega) | omega)) | refine BLe.box ?_ | (simp; done))) rfl rfl rfl rfl) ?_
    conv => whnf
    refine And.intro g9 ?_
    clear g9
    conv => whnf
    refine And.intro g10 ?_
    clear g10
    conv => whnf
    refine And.intro (by kernel_rfl) ?_
    conv => whnf
    obtain ⟨x11, hx11, h⟩ := bd_some h
    replace hx11 := Option.some.inj hx11
    have hlx11 := set_len hx11
    try simp only [List.length_set] at hlx11
    refine ⟨rows encInt x11, store_rows2 hx11 ((by first | rfl | (simp; done) | assumption | (simp [dsub_eq] <;> omega) | omega)) rfl, ?_⟩
    conv => whnf
    obtain rfl := Option.some.inj h
    refine ⟨⟨0, 56, [(2, .osl 5001 0 x11.length), (3, .osl 5002 0 x4.1.length)], [], [(5002, .arr 70 3 x4.1.length (rows TreeLink.enc x4.1)), (5001, .arr 3 1 x11.length (rows encInt x11))], []⟩, ?_, And.intro rfl ?_⟩
    · refine LE.trans (S' := ⟨0, 56, [(2, .osl 7001 0 x3.1.length), (3, .osl 8001 0 x4.1.length)], [], [(8001, .arr 70 3 x4.1.length (rows TreeLink.enc x4.1)), (7001, .arr 3 1 x3.1.length (rows encInt x11))], []⟩) (le_mk ?_ ?_ ?_) (LE.trans (S' := ⟨0, 56, [(2, .osl 5001 0 x3.1.length), (3, .osl 5002 0 x4.1.length)], [], [(5002, .arr 70 3 x4.1.length (rows TreeLink.enc x4.1)), (5001, .arr 3 1 x3.1.length (rows encInt x11))], []⟩) (le_swaps [(7001, 5001), (8001, 5002)] rfl) (le_mk ?_ ?_ ?_)) <;> (repeat' first | ((conv => whnf); first | exact trivial | refine And.intro ?_ ?_ | exact BLe.refl _ | exact VLe.refl _) | exact trivial | exact rfl | refine And.intro ?_ ?_ | exact BLe.refl _ | exact VLe.refl _ | exact VLe.any _ | exact VLe.nil_osl rfl | exact VLe.nil_sl rfl | exact VLe.built rfl rfl | (refine VLe.osl rfl ?_; (first | rfl | (simp; done) | assumption | (simp [dsub_eq] <;> omega) | omega)) | exact VLe.rows (by first | rfl | (simp; done) | assumption | (simp [dsub_eq] <;> omega) | omega) (fun _ _ => rfl) | exact VLe.rows (by simp [dsub_eq] <;> omega) rows_take | exact VLe.rows (by simp [dsub_eq] <;> omega) rows_dt | exact VLe.rows (by simp [dsub_eq] <;> omega) rows_vt | exact VLe.rows (by simp) (fun i _ => by simp [viewRow_eq, Nat.add_comm]) | refine VLe.aggL ?_ | (refine BLe.rows rfl ?_ fun _ _ => rfl; (first | rfl | (simp; done) | assumption | (simp [dsub_eq] <;> omega) | omega)) | (refine BLe.rows rfl rfl ?_; first | exact rows_take) | refine BLe.box ?_)
    · exact And.intro (And.intro rfl (And.intro rfl (fun _ _ => rfl))) (And.intro (And.intro rfl (And.intro rfl (fun _ _ => rfl))) (trivial))
  · replace h := ite_f h e; clear e
    conv => whnf
    refine And.intro (fun e => ?_) (fun e => ?_)
    · replace h := ite_t h e; clear e
      conv => whnf
      obtain ⟨x12, hx12, h⟩ := bd_some h
      refine callE [(9000, 6001)] 0 (spec_l81Rd_pick_c hx12) (by (repeat' first | ((conv => whnf); first | exact trivial | refine And.intro ?_ ?_ | exact BLe.refl _ | exact VLe.refl _) | exact trivial | refine And.intro ?_ ?_ | exact VLe.refl _ | exact VLe.any _ | exact VLe.nil_osl rfl | exact VLe.nil_sl rfl | exact VLe.built rfl rfl | (refine VLe.osl rfl ?_; (first | rfl | (simp; done) | assumption | (simp [dsub_eq] <;> omega) | omega)) | exact VLe.rows (by first | rfl | (simp; done) | assumption | (simp [dsub_eq] <;> omega) | omega) (fun _ _ => rfl) | exact VLe.rows (by simp [dsub_eq] <;> omega) rows_take | exact VLe.rows (by simp [dsub_eq] <;> omega) rows_dt | exact VLe.rows (by simp [dsub_eq] <;> omega) rows_vt | exact VLe.rows (by simp) (fun i _ => by simp [viewRow_eq, Nat.add_comm]) | refine VLe.aggL ?_)) (by (repeat' first | ((conv => whnf); first | exact trivial | refine And.intro ?_ ?_ | exact BLe.refl _ | exact VLe.refl _) | exact trivial | exact rfl | refine And.intro ?_ ?_ | exact BLe.refl _ | exact VLe.refl _ | exact VLe.any _ | exact VLe.nil_osl rfl | exact VLe.nil_sl rfl | exact VLe.built rfl rfl | (refine VLe.osl rfl ?_; (first | rfl | (simp; done) | assumption | (simp [dsub_eq] <;> omega) | omega)) | exact VLe.rows (by first | rfl | (simp; done) | assumption | (simp [dsub_eq] <;> omega) | omega) (fun _ _ => rfl) | exact VLe.rows (by simp [dsub_eq] <;> omega) rows_take | exact VLe.rows (by simp [dsub_eq] <;> omega) rows_dt | exact VLe.rows (by simp [dsub_eq] <;> omega) rows_vt | exact VLe.rows (by simp) (fun i _ => by simp [viewRow_eq, Nat.add_comm]) | refine VLe.aggL ?_ | (refine BLe.rows rfl ?_ fun _ _ => rfl; (first | rfl | (simp; done) | assumption | (simp [dsub_eq] <;> omega) | omega)) | refine BLe.box ?_ | (simp; done))) rfl rfl ?_
      conv => whnf
      obtain ⟨x13, hx13, h⟩ := bd_some h
      refine callE [(9000, 6001)] 0 (spec_l81Rd_pick_c hx13) (by (repeat' first | ((conv => whnf); first | exact trivial | refine And.intro ?_ ?_ | exact BLe.refl _ | exact VLe.refl _) | exact trivial | refine And.intro ?_ ?_ | exact VLe.refl _ | exact VLe.any _ | exact VLe.nil_osl rfl | exact VLe.nil_sl rfl | exact VLe.built rfl rfl | (refine VLe.osl rfl ?_; (first | rfl | (simp; done) | assumption | (simp [dsub_eq] <;> omega) | omega)) | exact VLe.rows (by first | rfl | (simp; done) | assumption | (simp [dsub_eq] <;> omega) | omega) (fun _ _ => rfl) | exact VLe.rows (by simp [dsub_eq] <;> omega) rows_take | exact VLe.rows (by simp [dsub_eq] <;> omega) rows_dt | exact VLe.rows (by simp [dsub_eq] <;> omega) rows_vt | exact VLe.rows (by simp) (fun i _ => by simp [viewRow_eq, Nat.add_comm]) | refine VLe.aggL ?_)) (by (repeat' first | ((conv => whnf); first | exact trivial | refine And.intro ?_ ?_ | exact BLe.refl _ | exact VLe.refl _) | exact trivial | exact rfl | refine And.intro ?_ ?_ | exact BLe.refl _ | exact VLe.refl _ | exact VLe.any _ | exact VLe.nil_osl rfl | exact VLe.nil_sl rfl | exact VLe.built rfl rfl | (refine VLe.osl rfl ?_; (first | rfl | (simp; done) | assumption | (simp [dsub_eq] <;> omega) | omega)) | exact VLe.rows (by first | rfl | (simp; done) | assumption | (simp [dsub_eq] <;> omega) | omega) (fun _ _ => rfl) | exact VLe.rows (by simp [dsub_eq] <;> omega) rows_take | exact VLe.rows (by simp [dsub_eq] <;> omega) rows_dt | exact VLe.rows (by simp [dsub_eq] <;> omega) rows_vt | exact VLe.rows (by simp) (fun i _ => by simp [viewRow_eq, Nat.add_comm]) | refine VLe.aggL ?_ | (refine BLe.rows rfl ?_ fun _ _ => rfl; (first | rfl | (simp; done) | assumption | (simp [dsub_eq] <;> omega) | omega)) | refine BLe.box ?_ | (simp; done))) rfl rfl ?_
      conv => whnf
      obtain ⟨x14, hx14, h⟩ := bd_some h
      refine callE [(9000, 6001)] 0 (spec_l81Rd_pick_c hx14) (by (repeat' first | ((conv => whnf); first | exact trivial | refine And.intro ?_ ?_ | exact BLe.refl _ | exact VLe.refl _) | exact trivial | refine And.intro ?_ ?_ | exact VLe.refl _ | exact VLe.any _ | exact VLe.nil_osl rfl | exact VLe.nil_sl rfl | exact VLe.built rfl rfl | (refine VLe.osl rfl ?_; (first | rfl | (simp; done) | assumption | (simp [dsub_eq] <;> omega) | omega)) | exact VLe.rows (by first | rfl | (simp; done) | assumption | (simp [dsub_eq] <;> omega) | omega) (fun _ _ => rfl) | exact VLe.rows (by simp [dsub_eq] <;> omega) rows_take | exact VLe.rows (by simp [dsub_eq] <;> omega) rows_dt | exact VLe.rows (by simp [dsub_eq] <;> omega) rows_vt | exact VLe.rows (by simp) (fun i _ => by simp [viewRow_eq, Nat.add_comm]) | refine VLe.aggL ?_)) (by (repeat' first | ((conv => whnf); first | exact trivial | refine And.intro ?_ ?_ | exact BLe.refl _ | exact VLe.refl _) | exact trivial | exact rfl | refine And.intro ?_ ?_ | exact BLe.refl _ | exact VLe.refl _ | exact VLe.any _ | exact VLe.nil_osl rfl | exact VLe.nil_sl rfl | exact VLe.built rfl rfl | (refine VLe.osl rfl ?_; (first | rfl | (simp; done) | assumption | (simp [dsub_eq] <;> omega) | omega)) | exact VLe.rows (by first | rfl | (simp; done) | assumption | (simp [dsub_eq] <;> omega) | omega) (fun _ _ => rfl) | exact VLe.rows (by simp [dsub_eq] <;> omega) rows_take | exact VLe.rows (by simp [dsub_eq] <;> omega) rows_dt | exact VLe.rows (by simp [dsub_eq] <;> omega) rows_vt | exact VLe.rows (by simp) (fun i _ => by simp [viewRow_eq, Nat.add_comm]) | refine VLe.aggL ?_ | (refine BLe.rows rfl ?_ fun _ _ => rfl; (first | rfl | (simp; done) | assumption | (simp [dsub_eq] <;> omega) | omega)) | refine BLe.box ?_ | (simp; done))) rfl rfl ?_
      conv => whnf
      refine ⟨([(⟨IntKind.i64.wrap (x12.1 - 1), x13.1, x14.1⟩ : TreeLink)] : List TreeLink).length, rows TreeLink.enc ([(⟨IntKind.i64.wrap (x12.1 - 1), x13.1, x14.1⟩ : TreeLink)] : List TreeLink), rfl, build_rows, ?_⟩
      conv => whnf
      obtain ⟨g15, h⟩ := gd_some h
      refine And.intro g15 ?_
      clear g15
      refine ⟨(x4.1 ++ ([(⟨IntKind.i64.wrap (x12.1 - 1), x13.1, x14.1⟩ : TreeLink)] : List TreeLink)).length, rows TreeLink.enc (x4.1 ++ ([(⟨IntKind.i64.wrap (x12.1 - 1), x13.1, x14.1⟩ : TreeLink)] : List TreeLink)), (by first | rfl | (simp; done) | assumption | (simp [dsub_eq] <;> omega) | omega), (by first | exact app_rows (m := ([(⟨IntKind.i64.wrap (x12.1 - 1), x13.1, x14.1⟩ : TreeLink)] : List TreeLink).length) (by first | rfl | (simp; done) | assumption | (simp [dsub_eq] <;> omega) | omega) (by first | rfl | (simp; done) | assumption | (simp [dsub_eq] <;> omega) | omega) (fun _ _ => rfl) (fun _ _ => rfl) | exact app_rows0 (m := ([(⟨IntKind.i64.wrap (x12.1 - 1), x13.1, x14.1⟩ : TreeLink)] : List TreeLink).length) (by first | rfl | (simp; done) | assumption | (simp [dsub_eq] <;> omega) | omega) (fun _ _ => rfl) | exact app_rows (m := ([(⟨IntKind.i64.wrap (x12.1 - 1), x13.1, x14.1⟩ : TreeLink)] : List TreeLink).length) (by first | rfl | (simp; done) | assumption | (simp [dsub_eq] <;> omega) | omega) (by first | rfl | (simp; done) | assumption | (simp [dsub_eq] <;> omega) | omega) (by first | exact fun _ _ => rfl | exact rows_take | (intro i hi; simp only [viewRow_eq, addOff_eq, Int.toNat_zero, Nat.zero_add, Nat.add_zero]; exact rows_take i hi) | exact rows_vt | exact rows_dt | (intro i hi; simp only [viewRow_eq, Nat.zero_add]) | (intro i hi; simp [viewRow_eq])) (by first | exact fun _ _ => rfl | exact rows_take | (intro i hi; simp only [viewRow_eq, addOff_eq, Int.toNat_zero, Nat.zero_add, Nat.add_zero]; exact rows_take i hi) | exact rows_vt | exact rows_dt | (intro i hi; simp only [viewRow_eq, Nat.zero_add]) | (intro i hi; simp [viewRow_eq])) | exact app_rows0 (m := ([(⟨IntKind.i64.wrap (x12.1 - 1), x13.1, x14.1⟩ : TreeLink)] : List TreeLink).length) (by first | rfl | (simp; done) | assumption | (simp [dsub_eq] <;> omega) | omega) (by first | exact fun _ _ => rfl | exact rows_take | (intro i hi; simp only [viewRow_eq, addOff_eq, Int.toNat_zero, Nat.zero_add, Nat.add_zero]; exact rows_take i hi) | exact rows_vt | exact rows_dt | (intro i hi; simp only [viewRow_eq, Nat.zero_add]) | (intro i hi; simp [viewRow_eq]))), ?_⟩
      conv => whnf
      obtain rfl := Option.some.inj h
      refine ⟨⟨0, 56, [(2, .osl 5001 0 x3.1.length), (3, .osl 5002 0 ((x4.1 ++ ([(⟨IntKind.i64.wrap (x12.1 - 1), x13.1, x14.1⟩ : TreeLink)] : List TreeLink)).length))], [], [(5002, .arr 70 3 ((x4.1 ++ ([(⟨IntKind.i64.wrap (x12.1 - 1), x13.1, x14.1⟩ : TreeLink)] : List TreeLink)).length) (rows TreeLink.enc (x4.1 ++ ([(⟨IntKind.i64.wrap (x12.1 - 1), x13.1, x14.1⟩ : TreeLink)] : List TreeLink)))), (5001, .arr 3 1 x3.1.length (rows encInt x3.1))], []⟩, ?_, And.intro rfl ?_⟩
      · refine LE.trans (S' := ⟨0, 56, [(2, .osl 7001 0 x3.1.length), (3, .osl 8001 0 ((x4.1 ++ ([(⟨IntKind.i64.wrap (x12.1 - 1), x13.1, x14.1⟩ : TreeLink)] : List TreeLink)).length))], [], [(8001, .arr 70 3 ((x4.1 ++ ([(⟨IntKind.i64.wrap (x12.1 - 1), x13.1, x14.1⟩ : TreeLink)] : List TreeLink)).length) (rows TreeLink.enc (x4.1 ++ ([(⟨IntKind.i64.wrap (x12.1 - 1), x13.1, x14.1⟩ : TreeLink)] : List TreeLink)))), (7001, .arr 3 1 x3.1.length (rows encInt x3.1))], []⟩) (le_mk ?_ ?_ ?_) (le_swaps [(7001, 5001), (8001, 5002)] rfl) <;> (repeat' first | ((conv => whnf); first | exact trivial | refine And.intro ?_ ?_ | exact BLe.refl _ | exact VLe.refl _) | exact trivial | exact rfl | refine And.intro ?_ ?_ | exact BLe.refl _ | exact VLe.refl _ | exact VLe.any _ | exact VLe.nil_osl rfl | exact VLe.nil_sl rfl | exact VLe.built rfl rfl | (refine VLe.osl rfl ?_; (first | rfl | (simp; done) | assumption | (simp [dsub_eq] <;> omega) | omega)) | exact VLe.rows (by first | rfl | (simp; done) | assumption | (simp [dsub_eq] <;> omega) | omega) (fun _ _ => rfl) | exact VLe.rows (by simp [dsub_eq] <;> omega) rows_take | exact VLe.rows (by simp [dsub_eq] <;> omega) rows_dt | exact VLe.rows (by simp [dsub_eq] <;> omega) rows_vt | exact VLe.rows (by simp) (fun i _ => by simp [viewRow_eq, Nat.add_comm]) | refine VLe.aggL ?_ | (refine BLe.rows rfl ?_ fun _ _ => rfl; (first | rfl | (simp; done) | assumption | (simp [dsub_eq] <;> omega) | omega)) | (refine BLe.rows rfl rfl ?_; first | exact rows_take) | refine BLe.box ?_)
      · exact And.intro (And.intro rfl (And.intro rfl (fun _ _ => rfl))) (And.intro (And.intro rfl (And.intro rfl (fun _ _ => rfl))) (trivial))
    · replace h := ite_f h e; clear e
      conv => whnf
      refine And.intro (fun e => ?_) (fun e => ?_)
      · replace h := ite_t h e; clear e
        conv => whnf
        refine ⟨([999] : List Int).length, rows encInt ([999] : List Int), rfl, build_rows, ?_⟩
        conv => whnf
        obtain ⟨g16, h⟩ := gd_some h
        refine And.intro g16 ?_
        clear g16
        refine ⟨(x3.1 ++ ([999] : List Int)).length, rows encInt (x3.1 ++ ([999] : List Int)), (by first | rfl | (simp; done) | assumption | (simp [dsub_eq] <;> omega) | omega), (by first | exact app_rows (m := ([999] : List Int).length) (by first | rfl | (simp; done) | assumption | (simp [dsub_eq] <;> omega) | omega) (by first | rfl | (simp; done) | assumption | (simp [dsub_eq] <;> omega) | omega) (fun _ _ => rfl) (fun _ _ => rfl) | exact app_rows0 (m := ([999] : List Int).length) (by first | rfl | (simp; done) | assumption | (simp [dsub_eq] <;> omega) | omega) (fun _ _ => rfl) | exact app_rows (m := ([999] : List Int).length) (by first | rfl | (simp; done) | assumption | (simp [dsub_eq] <;> omega) | omega) (by first | rfl | (simp; done) | assumption | (simp [dsub_eq] <;> omega) | omega) (by first | exact fun _ _ => rfl | exact rows_take | (intro i hi; simp only [viewRow_eq, addOff_eq, Int.toNat_zero, Nat.zero_add, Nat.add_zero]; exact rows_take i hi) | exact rows_vt | exact rows_dt | (intro i hi; simp only [viewRow_eq, Nat.zero_add]) | (intro i hi; simp [viewRow_eq])) (by first | exact fun _ _ => rfl | exact rows_take | (intro i hi; simp only [viewRow_eq, addOff_eq, Int.toNat_zero, Nat.zero_add, Nat.add_zero]; exact rows_take i hi) | exact rows_vt | exact rows_dt | (intro i hi; simp only [viewRow_eq, Nat.zero_add]) | (intro i hi; simp [viewRow_eq])) | exact app_rows0 (m := ([999] : List Int).length) (by first | rfl | (simp; done) | assumption | (simp [dsub_eq] <;> omega) | omega) (by first | exact fun _ _ => rfl | exact rows_take | (intro i hi; simp only [viewRow_eq, addOff_eq, Int.toNat_zero, Nat.zero_add, Nat.add_zero]; exact rows_take i hi) | exact rows_vt | exact rows_dt | (intro i hi; simp only [viewRow_eq, Nat.zero_add]) | (intro i hi; simp [viewRow_eq]))), ?_⟩
        conv => whnf
        obtain rfl := Option.some.inj h
        refine ⟨⟨0, 56, [(2, .osl 5001 0 ((x3.1 ++ ([999] : List Int)).length)), (3, .osl 5002 0 x4.1.length)], [], [(5001, .arr 3 1 ((x3.1 ++ ([999] : List Int)).length) (rows encInt (x3.1 ++ ([999] : List Int)))), (5002, .arr 70 3 x4.1.length (rows TreeLink.enc x4.1))], []⟩, ?_, And.intro rfl ?_⟩
        · refine LE.trans (S' := ⟨0, 56, [(2, .osl 7001 0 ((x3.1 ++ ([999] : List Int)).length)), (3, .osl 8001 0 x4.1.length)], [], [(7001, .arr 3 1 ((x3.1 ++ ([999] : List Int)).length) (rows encInt (x3.1 ++ ([999] : List Int)))), (8001, .arr 70 3 x4.1.length (rows TreeLink.enc x4.1))], []⟩) (le_mk ?_ ?_ ?_) (le_swaps [(7001, 5001), (8001, 5002)] rfl) <;> (repeat' first | ((conv => whnf); first | exact trivial | refine And.intro ?_ ?_ | exact BLe.refl _ | exact VLe.refl _) | exact trivial | exact rfl | refine And.intro ?_ ?_ | exact BLe.refl _ | exact VLe.refl _ | exact VLe.any _ | exact VLe.nil_osl rfl | exact VLe.nil_sl rfl | exact VLe.built rfl rfl | (refine VLe.osl rfl ?_; (first | rfl | (simp; done) | assumption | (simp [dsub_eq] <;> omega) | omega)) | exact VLe.rows (by first | rfl | (simp; done) | assumption | (simp [dsub_eq] <;> omega) | omega) (fun _ _ => rfl) | exact VLe.rows (by simp [dsub_eq] <;> omega) rows_take | exact VLe.rows (by simp [dsub_eq] <;> omega) rows_dt | exact VLe.rows (by simp [dsub_eq] <;> omega) rows_vt | exact VLe.rows (by simp) (fun i _ => by simp [viewRow_eq, Nat.add_comm]) | refine VLe.aggL ?_ | (refine BLe.rows rfl ?_ fun _ _ => rfl; (first | rfl | (simp; done) | assumption | (simp [dsub_eq] <;> omega) | omega)) | (refine BLe.rows rfl rfl ?_; first | exact rows_take) | refine BLe.box ?_)
        · exact And.intro (And.intro rfl (And.intro rfl (fun _ _ => rfl))) (And.intro (And.intro rfl (And.intro rfl (fun _ _ => rfl))) (trivial))
      · replace h := ite_f h e; clear e
        conv => whnf
        obtain rfl := Option.some.inj h
        refine ⟨⟨0, 56, [(2, .osl 5001 0 x3.1.length), (3, .osl 5002 0 x4.1.length)], [], [(5002, .arr 70 3 x4.1.length (rows TreeLink.enc x4.1)), (5001, .arr 3 1 x3.1.length (rows encInt x3.1))], []⟩, ?_, And.intro rfl ?_⟩
        · refine LE.trans (S' := ⟨0, 56, [(2, .osl 7001 0 x3.1.length), (3, .osl 8001 0 x4.1.length)], [], [(8001, .arr 70 3 x4.1.length (rows TreeLink.enc x4.1)), (7001, .arr 3 1 x3.1.length (rows encInt x3.1))], []⟩) (le_mk ?_ ?_ ?_) (le_swaps [(7001, 5001), (8001, 5002)] rfl) <;> (repeat' first | ((conv => whnf); first | exact trivial | refine And.intro ?_ ?_ | exact BLe.refl _ | exact VLe.refl _) | exact trivial | exact rfl | refine And.intro ?_ ?_ | exact BLe.refl _ | exact VLe.refl _ | exact VLe.any _ | exact VLe.nil_osl rfl | exact VLe.nil_sl rfl | exact VLe.built rfl rfl | (refine VLe.osl rfl ?_; (first | rfl | (simp; done) | assumption | (simp [dsub_eq] <;> omega) | omega)) | exact VLe.rows (by first | rfl | (simp; done) | assumption | (simp [dsub_eq] <;> omega) | omega) (fun _ _ => rfl) | exact VLe.rows (by simp [dsub_eq] <;> omega) rows_take | exact VLe.rows (by simp [dsub_eq] <;> omega) rows_dt | exact VLe.rows (by simp [dsub_eq] <;> omega) rows_vt | exact VLe.rows (by simp) (fun i _ => by simp [viewRow_eq, Nat.add_comm]) | refine VLe.aggL ?_ | (refine BLe.rows rfl ?_ fun _ _ => rfl; (first | rfl | (simp; done) | assumption | (simp [dsub_eq] <;> omega) | omega)) | (refine BLe.rows rfl rfl ?_; first | exact rows_take) | refine BLe.box ?_)
        · exact And.intro (And.intro rfl (And.intro rfl (fun _ _ => rfl))) (And.intro (And.intro rfl (And.intro rfl (fun _ _ => rfl))) (trivial))

noncomputable def impl_within_m (a0 : Int) (a1 : Int) (a2 : Int) : Option (Bool) :=
 some ((decide (a1 ≤ a0)) && (decide (a0 ≤ a2)))

theorem impl_within_c {a0 : Int} {a1 : Int} {a2 : Int} {r : Bool} (h : impl_within_m a0 a1 a2 = some r) : PureC Try.prog 47 [.d (.int .i64 a0), .d (.int .i64 a1), .d (.int .i64 a2)] (.d (.bool r)) [] := by
  refine pureC_m tOk (fn := Try.f47) (c := codeOf Try.f47) rfl rfl (by kernel_rfl) rfl rfl (by simp) (by simp) (ids_of rfl) ?_
  unfold impl_within_m at h
  conv => whnf
  obtain rfl := Option.some.inj h
  exact ⟨_, LE.refl _, And.intro rfl trivial⟩

noncomputable def impl_TreeLinksOk_m (a0 : Int) (a1 : (List TreeLink)) : Option (Bool) :=
 bd (lp (σ := Int) (β := (Unit ⊕ Unit)) (fun s1 =>
(if (decide (s1 < ((a1.length : Nat) : Int))) = true then
 gd ((0 : Int) ≤ s1 ∧ s1 < ((a1.length : Nat) : Int)) <|
 bd (gcall ((((decide (((a1.getD s1.toNat default).A) < 0)) || (decide (((a1.getD s1.toNat default).A) ≥ ((a1.getD s1.toNat default).B)))) || (decide (((a1.getD s1.toNat default).B) ≥ a0))) = false) (impl_within_m ((a1.getD s1.toNat default).Cost) 1 50)) fun x6 =>
(if ((((decide (((a1.getD s1.toNat default).A) < 0)) || (decide (((a1.getD s1.toNat default).A) ≥ ((a1.getD s1.toNat default).B)))) || (decide (((a1.getD s1.toNat default).B) ≥ a0))) || (!x6)) = true then
 some (.inr (.inl ()))
else
 some (.inl (IntKind.i64.wrap (s1 + 1))))
else
 some (.inr (.inr ())))) 0) fun x4 =>
(match x4 with
| .inl d7 =>
 some false
| .inr d8 =>
 bd (impl_within_m a0 1 8) fun x9 =>
 some (x9 && (decide (((a1.length : Nat) : Int) ≤ 12))))

theorem impl_TreeLinksOk_c {a0 : Int} {a1 : (List TreeLink)} {r : Bool} (h : impl_TreeLinksOk_m a0 a1 = some r) : PureC Try.prog 13 [.d (.int .i64 a0), .d (slD TreeLink.enc a1)] (.d (.bool r)) [] := by
  refine pureC_m tOk (fn := Try.f13) (c := codeOf Try.f13) rfl rfl (by kernel_rfl) rfl rfl (by simp) (by simp) (ids_of rfl) ?_
  unfold impl_TreeLinksOk_m at h
  conv => whnf
  refine seq_in tOk ?_
  conv => whnf
  obtain ⟨x4, hx4, h⟩ := bd_some h
  refine loop_m tOk hx4 (fun s1 => ⟨0, 43, [(0, .d (.int .i64 a0)), (1, .d (slD TreeLink.enc a1)), (7, .d (slD TreeLink.enc a1)), (8, .d (.int .i64 ((a1.length : Nat) : Int))), (9, .d (.int .i64 s1))], [], [], []⟩) ?_ ?_
  · refine le_mk ?_ ?_ ?_ <;> (repeat' first | ((conv => whnf); first | exact trivial | refine And.intro ?_ ?_ | exact BLe.refl _ | exact VLe.refl _) | exact trivial | exact rfl | refine And.intro ?_ ?_ | exact BLe.refl _ | exact VLe.refl _ | exact VLe.any _ | exact VLe.nil_osl rfl | exact VLe.nil_sl rfl | exact VLe.built rfl rfl | (refine VLe.osl rfl ?_; (first | rfl | (simp; done) | assumption | (simp [dsub_eq] <;> omega) | omega)) | exact VLe.rows (by first | rfl | (simp; done) | assumption | (simp [dsub_eq] <;> omega) | omega) (fun _ _ => rfl) | exact VLe.rows (by simp [dsub_eq] <;> omega) rows_take | exact VLe.rows (by simp [dsub_eq] <;> omega) rows_dt | exact VLe.rows (by simp [dsub_eq] <;> omega) rows_vt | exact VLe.rows (by simp) (fun i _ => by simp [viewRow_eq, Nat.add_comm]) | refine VLe.aggL ?_ | (refine BLe.rows rfl ?_ fun _ _ => rfl; (first | rfl | (simp; done) | assumption | (simp [dsub_eq] <;> omega) | omega)) | (refine BLe.rows rfl rfl ?_; first | exact rows_take) | refine BLe.box ?_)
  · clear hx4
    intro s1 y2 g3 hy2
    conv => whnf
    refine seq_in tOk ?_
    conv => whnf
    refine And.intro (fun e => ?_) (fun e => ?_)
    · replace g3 := ite_t g3 e; clear e
      conv => whnf
      refine seq_in tOk ?_
      conv => whnf
      obtain ⟨g5, g3⟩ := gd_some g3
      refine And.intro g5 ?_
      clear g5
      conv => whnf
      obtain ⟨x6, hx6, g3⟩ := bd_some g3
      refine callG_m rfl rfl rfl rfl rfl rfl (by intro c0; exact impl_within_c (gcall_some hx6 c0)) ?_
      conv => whnf
      refine And.intro (fun e => ?_) (fun e => ?_)
      · replace g3 := ite_t g3 e; clear e
        conv => whnf
        obtain rfl := Option.some.inj g3
        obtain rfl := hy2 _ rfl
        obtain rfl := Option.some.inj h
        exact ⟨_, LE.refl _, And.intro rfl trivial⟩
      · replace g3 := ite_f g3 e; clear e
        conv => whnf
        obtain rfl := Option.some.inj g3
        refine ⟨_, rfl, le_mk ?_ ?_ ?_⟩ <;> (repeat' first | ((conv => whnf); first | exact trivial | refine And.intro ?_ ?_ | exact BLe.refl _ | exact VLe.refl _) | exact trivial | exact rfl | refine And.intro ?_ ?_ | exact BLe.refl _ | exact VLe.refl _ | exact VLe.any _ | exact VLe.nil_osl rfl | exact VLe.nil_sl rfl | exact VLe.built rfl rfl | (refine VLe.osl rfl ?_; (first | rfl | (simp; done) | assumption | (simp [dsub_eq] <;> omega) | omega)) | exact VLe.rows (by first | rfl | (simp; done) | assumption | (simp [dsub_eq] <;> omega) | omega) (fun _ _ => rfl) | exact VLe.rows (by simp [dsub_eq] <;> omega) rows_take | exact VLe.rows (by simp [dsub_eq] <;> omega) rows_dt | exact VLe.rows (by simp [dsub_eq] <;> omega) rows_vt | exact VLe.rows (by simp) (fun i _ => by simp [viewRow_eq, Nat.add_comm]) | refine VLe.aggL ?_ | (refine BLe.rows rfl ?_ fun _ _ => rfl; (first | rfl | (simp; done) | assumption | (simp [dsub_eq] <;> omega) | omega)) | (refine BLe.rows rfl rfl ?_; first | exact rows_take) | refine BLe.box ?_)
    · replace g3 := ite_f g3 e; clear e
      conv => whnf
      obtain rfl := Option.some.inj g3
      obtain rfl := hy2 _ rfl
      obtain ⟨x9, hx9, h⟩ := bd_some h
      refine callC 0 (impl_within_c hx9) (by kernel_rfl) (by kernel_rfl) ?_
      clear hx9
      conv => whnf
      obtain rfl := Option.some.inj h
      exact ⟨_, LE.refl _, And.intro rfl trivial⟩

noncomputable def impl_clone_TreeLink_m (a0 : (List TreeLink)) : Option ((List TreeLink)) :=
 gd ((0 : Int) ≤ 0 ∧ 0 ≤ ((a0.length : Nat) : Int) ∧ ((a0.length : Nat) : Int) * 24 ≤ 140737488355328 ∧ ((a0.length : Nat) : Int) ≤ 140737488355328) <|
 gd ((((List.replicate (0 : Int).toNat (default : TreeLink)).length) + (a0.length)) * (24 + 1) ≤ 70368744177664) <|
 some ((List.replicate (0 : Int).toNat (default : TreeLink)) ++ a0)

theorem impl_clone_TreeLink_c {a0 : (List TreeLink)} {r : (List TreeLink)} (h : impl_clone_TreeLink_m a0 = some r) : PureC Try.prog 40 [.d (slD TreeLink.enc a0)] (.osl 5001 0 r.length) [⟨5001, 70, 3, r.length, rows TreeLink.enc r⟩] := by
  refine pureC_m tOk (fn := Try.f40) (c := codeOf Try.f40) rfl rfl (by kernel_rfl) rfl rfl (by simp [atomD]) (by simp) (ids_of rfl) ?_
  unfold impl_clone_TreeLink_m at h
  conv => whnf
  obtain ⟨g2, h⟩ := gd_some h
  refine And.intro g2 ?_
  clear g2
  refine ⟨(List.replicate (0 : Int).toNat (default : TreeLink)).length, rows TreeLink.enc (List.replicate (0 : Int).toNat (default : TreeLink)), by simp, make_rows rfl, ?_⟩
  conv => whnf
  obtain ⟨g1, h⟩ := gd_some h
  refine And.intro g1 ?_
  clear g1
  refine ⟨((List.replicate (0 : Int).toNat (default : TreeLink)) ++ a0).length, rows TreeLink.enc ((List.replicate (0 : Int).toNat (default : TreeLink)) ++ a0), (by first | rfl | (simp; done) | assumption | (simp [dsub_eq] <;> omega) | omega), (by first | exact app_rows (m := a0.length) (by first | rfl | (simp; done) | assumption | (simp [dsub_eq] <;> omega) | omega) (by first | rfl | (simp; done) | assumption | (simp [dsub_eq] <;> omega) | omega) (fun _ _ => rfl) (fun _ _ => rfl) | exact app_rows0 (m := a0.length) (by first | rfl | (simp; done) | assumption | (simp [dsub_eq] <;> omega) | omega) (fun _ _ => rfl) | exact app_rows (m := a0.length) (by first | rfl | (simp; done) | assumption | (simp [dsub_eq] <;> omega) | omega) (by first | rfl | (simp; done) | assumption | (simp [dsub_eq] <;> omega) | omega) (by first | exact fun _ _ => rfl | exact rows_take | (intro i hi; simp only [viewRow_eq, addOff_eq, Int.toNat_zero, Nat.zero_add, Nat.add_zero]; exact rows_take i hi) | exact rows_vt | exact rows_dt | (intro i hi; simp only [viewRow_eq, Nat.zero_add]) | (intro i hi; simp [viewRow_eq])) (by first | exact fun _ _ => rfl | exact rows_take | (intro i hi; simp only [viewRow_eq, addOff_eq, Int.toNat_zero, Nat.zero_add, Nat.add_zero]; exact rows_take i hi) | exact rows_vt | exact rows_dt | (intro i hi; simp only [viewRow_eq, Nat.zero_add]) | (intro i hi; simp [viewRow_eq])) | exact app_rows0 (m := a0.length) (by first | rfl | (simp; done) | assumption | (simp [dsub_eq] <;> omega) | omega) (by first | exact fun _ _ => rfl | exact rows_take | (intro i hi; simp only [viewRow_eq, addOff_eq, Int.toNat_zero, Nat.zero_add, Nat.add_zero]; exact rows_take i hi) | exact rows_vt | exact rows_dt | (intro i hi; simp only [viewRow_eq, Nat.zero_add]) | (intro i hi; simp [viewRow_eq]))), ?_⟩
  conv => whnf
  obtain rfl := Option.some.inj h
  refine ⟨⟨0, 8, [(2, .osl 5001 0 (((List.replicate (0 : Int).toNat (default : TreeLink)) ++ a0).length))], [], [(5001, .arr 70 3 (((List.replicate (0 : Int).toNat (default : TreeLink)) ++ a0).length) (rows TreeLink.enc ((List.replicate (0 : Int).toNat (default : TreeLink)) ++ a0)))], []⟩, ?_, And.intro rfl ?_⟩
  · refine LE.trans (S' := ⟨0, 8, [(2, .osl 5 0 (((List.replicate (0 : Int).toNat (default : TreeLink)) ++ a0).length))], [], [(5, .arr 70 3 (((List.replicate (0 : Int).toNat (default : TreeLink)) ++ a0).length) (rows TreeLink.enc ((List.replicate (0 : Int).toNat (default : TreeLink)) ++ a0)))], []⟩) (le_mk ?_ ?_ ?_) (le_swaps [(5, 5001)] rfl) <;> (repeat' first | ((conv => whnf); first | exact trivial | refine And.intro ?_ ?_ | exact BLe.refl _ | exact VLe.refl _) | exact trivial | exact rfl | refine And.intro ?_ ?_ | exact BLe.refl _ | exact VLe.refl _ | exact VLe.any _ | exact VLe.nil_osl rfl | exact VLe.nil_sl rfl | exact VLe.built rfl rfl | (refine VLe.osl rfl ?_; (first | rfl | (simp; done) | assumption | (simp [dsub_eq] <;> omega) | omega)) | exact VLe.rows (by first | rfl | (simp; done) | assumption | (simp [dsub_eq] <;> omega) | omega) (fun _ _ => rfl) | exact VLe.rows (by simp [dsub_eq] <;> omega) rows_take | exact VLe.rows (by simp [dsub_eq] <;> omega) rows_dt | exact VLe.rows (by simp [dsub_eq] <;> omega) rows_vt | exact VLe.rows (by simp) (fun i _ => by simp [viewRow_eq, Nat.add_comm]) | refine VLe.aggL ?_ | (refine BLe.rows rfl ?_ fun _ _ => rfl; (first | rfl | (simp; done) | assumption | (simp [dsub_eq] <;> omega) | omega)) | (refine BLe.rows rfl rfl ?_; first | exact rows_take) | refine BLe.box ?_)
  · exact And.intro (And.intro rfl (And.intro rfl (fun _ _ => rfl))) (trivial)

noncomputable def impl_selfMind_m (a0 : Int) : Option (TreeMind) :=
 some (⟨(⟨a0, 0, 0⟩ : TreeVector), -1⟩ : TreeMind)

theorem impl_selfMind_c {a0 : Int} {r : TreeMind} (h : impl_selfMind_m a0 = some r) : PureC Try.prog 41 [.d (.int .i64 a0)] (.agg [.d (.int .i64 r.Vector.Root), .d (.int .i64 r.Vector.Cost), .d (.int .i64 r.Vector.Age), .d (.int .i64 r.Link)]) [] := by
  refine pureC_m tOk (fn := Try.f41) (c := codeOf Try.f41) rfl rfl (by kernel_rfl) rfl rfl (by simp) (by simp) (ids_of rfl) ?_
  unfold impl_selfMind_m at h
  conv => whnf
  obtain rfl := Option.some.inj h
  exact ⟨_, LE.refl _, And.intro rfl trivial⟩

noncomputable def impl_TreeWorld_bridgesOk_1_m (a0 : TreeBridge) (a1 : TreeBridge) : Option (Bool) :=
 some (a0.Id == a1.Id)

theorem impl_TreeWorld_bridgesOk_1_c {a0 : TreeBridge} {a1 : TreeBridge} {r : Bool} (h : impl_TreeWorld_bridgesOk_1_m a0 a1 = some r) : PureC Try.prog 97 [.agg [.d (.int .i64 a0.Id), .d (.bool a0.Up), .d (.int .i64 a0.Mind.Vector.Root), .d (.int .i64 a0.Mind.Vector.Cost), .d (.int .i64 a0.Mind.Vector.Age), .d (.int .i64 a0.Mind.Link)], .rp [.int .i64 a1.Id, .bool a1.Up, .int .i64 a1.Mind.Vector.Root, .int .i64 a1.Mind.Vector.Cost, .int .i64 a1.Mind.Vector.Age, .int .i64 a1.Mind.Link]] (.d (.bool r)) [] := by
  refine pureC_m tOk (fn := Try.f97) (c := codeOf Try.f97) rfl rfl (by kernel_rfl) rfl rfl (by simp) (by simp) (ids_of rfl) ?_
  unfold impl_TreeWorld_bridgesOk_1_m at h
  conv => whnf
  obtain rfl := Option.some.inj h
  exact ⟨_, LE.refl _, And.intro rfl trivial⟩

noncomputable def slices_IndexFunc_TreeBridge_TreeBridge_impl_TreeWorld_bridgesOk_1_m (a0 : (List TreeBridge)) (a1c0 : TreeBridge) : Option (Int) :=
 bd (lp (σ := Int) (β := (Int ⊕ Unit)) (fun s1 =>
(if (decide (s1 < ((a0.length : Nat) : Int))) = true then
 gd ((0 : Int) ≤ s1 ∧ s1 < ((a0.length : Nat) : Int)) <|
 bd (impl_TreeWorld_bridgesOk_1_m ({ (a0.getD s1.toNat default) with Mind := (⟨(((a0.getD s1.toNat default).Mind).Vector), ((a0.getD s1.toNat default).Mind).Link⟩ : TreeMind) }) a1c0) fun x6 =>
(if x6 = true then
 some (.inr (.inl s1))
else
 some (.inl (IntKind.i64.wrap (s1 + 1))))
else
 some (.inr (.inr ())))) 0) fun x4 =>
(match x4 with
| .inl d7 =>
 some d7
| .inr d8 =>
 some (-1))

theorem slices_IndexFunc_TreeBridge_TreeBridge_impl_TreeWorld_bridgesOk_1_c {a0 : (List TreeBridge)} {a1c0 : TreeBridge} {r : Int} (h : slices_IndexFunc_TreeBridge_TreeBridge_impl_TreeWorld_bridgesOk_1_m a0 a1c0 = some r) : PureC Try.prog 115 [.d (slD TreeBridge.enc a0), .fn 97 [.rp [.int .i64 a1c0.Id, .bool a1c0.Up, .int .i64 a1c0.Mind.Vector.Root, .int .i64 a1c0.Mind.Vector.Cost, .int .i64 a1c0.Mind.Vector.Age, .int .i64 a1c0.Mind.Link]]] (.d (.int .i64 r)) [] := by
  refine pureC_m tOk (fn := Try.f115) (c := codeOf Try.f115) rfl rfl (by kernel_rfl) rfl rfl (by simp) (by simp) (ids_of rfl) ?_
  unfold slices_IndexFunc_TreeBridge_TreeBridge_impl_TreeWorld_bridgesOk_1_m at h
  conv => whnf
  refine seq_in tOk ?_
  conv => whnf
  obtain ⟨x4, hx4, h⟩ := bd_some h
  refine loop_m tOk hx4 (fun s1 => ⟨0, 19, [(0, .d (slD TreeBridge.enc a0)), (1, .fn 97 [.rp [.int .i64 a1c0.Id, .bool a1c0.Up, .int .i64 a1c0.Mind.Vector.Root, .int .i64 a1c0.Mind.Vector.Cost, .int .i64 a1c0.Mind.Vector.Age, .int .i64 a1c0.Mind.Link]]), (7, .d (.int .i64 ((a0.length : Nat) : Int))), (8, .d (.int .i64 s1))], [], [], []⟩) ?_ ?_
  · refine le_mk ?_ ?_ ?_ <;> (repeat' first | ((conv => whnf); first | exact trivial | refine And.intro ?_ ?_ | exact BLe.refl _ | exact VLe.refl _) | exact trivial | exact rfl | refine And.intro ?_ ?_ | exact BLe.refl _ | exact VLe.refl _ | exact VLe.any _ | exact VLe.nil_osl rfl | exact VLe.nil_sl rfl | exact VLe.built rfl rfl | (refine VLe.osl rfl ?_; (first | rfl | (simp; done) | assumption | (simp [dsub_eq] <;> omega) | omega)) | exact VLe.rows (by first | rfl | (simp; done) | assumption | (simp [dsub_eq] <;> omega) | omega) (fun _ _ => rfl) | exact VLe.rows (by simp [dsub_eq] <;> omega) rows_take | exact VLe.rows (by simp [dsub_eq] <;> omega) rows_dt | exact VLe.rows (by simp [dsub_eq] <;> omega) rows_vt | exact VLe.rows (by simp) (fun i _ => by simp [viewRow_eq, Nat.add_comm]) | refine VLe.aggL ?_ | (refine BLe.rows rfl ?_ fun _ _ => rfl; (first | rfl | (simp; done) | assumption | (simp [dsub_eq] <;> omega) | omega)) | (refine BLe.rows rfl rfl ?_; first | exact rows_take) | refine BLe.box ?_)
  · clear hx4
    intro s1 y2 g3 hy2
    conv => whnf
    refine seq_in tOk ?_
    conv => whnf
    refine And.intro (fun e => ?_) (fun e => ?_)
    · replace g3 := ite_t g3 e; clear e
      conv => whnf
      refine seq_in tOk ?_
      conv => whnf
      obtain ⟨g5, g3⟩ := gd_some g3
      refine And.intro g5 ?_
      clear g5
      conv => whnf
      obtain ⟨x6, hx6, g3⟩ := bd_some g3
      refine callC 0 (impl_TreeWorld_bridgesOk_1_c hx6) (by kernel_rfl) (by kernel_rfl) ?_
      clear hx6
      conv => whnf
      refine And.intro (fun e => ?_) (fun e => ?_)
      · replace g3 := ite_t g3 e; clear e
        conv => whnf
        obtain rfl := Option.some.inj g3
        obtain rfl := hy2 _ rfl
        obtain rfl := Option.some.inj h
        exact ⟨_, LE.refl _, And.intro rfl trivial⟩
      · replace g3 := ite_f g3 e; clear e
        conv => whnf
        obtain rfl := Option.some.inj g3
        refine ⟨_, rfl, le_mk ?_ ?_ ?_⟩ <;> (repeat' first | ((conv => whnf); first | exact trivial | refine And.intro ?_ ?_ | exact BLe.refl _ | exact VLe.refl _) | exact trivial | exact rfl | refine And.intro ?_ ?_ | exact BLe.refl _ | exact VLe.refl _ | exact VLe.any _ | exact VLe.nil_osl rfl | exact VLe.nil_sl rfl | exact VLe.built rfl rfl | (refine VLe.osl rfl ?_; (first | rfl | (simp; done) | assumption | (simp [dsub_eq] <;> omega) | omega)) | exact VLe.rows (by first | rfl | (simp; done) | assumption | (simp [dsub_eq] <;> omega) | omega) (fun _ _ => rfl) | exact VLe.rows (by simp [dsub_eq] <;> omega) rows_take | exact VLe.rows (by simp [dsub_eq] <;> omega) rows_dt | exact VLe.rows (by simp [dsub_eq] <;> omega) rows_vt | exact VLe.rows (by simp) (fun i _ => by simp [viewRow_eq, Nat.add_comm]) | refine VLe.aggL ?_ | (refine BLe.rows rfl ?_ fun _ _ => rfl; (first | rfl | (simp; done) | assumption | (simp [dsub_eq] <;> omega) | omega)) | (refine BLe.rows rfl rfl ?_; first | exact rows_take) | refine BLe.box ?_)
    · replace g3 := ite_f g3 e; clear e
      conv => whnf
      obtain rfl := Option.some.inj g3
      obtain rfl := hy2 _ rfl
      obtain rfl := Option.some.inj h
      exact ⟨_, LE.refl _, And.intro rfl trivial⟩

noncomputable def slices_ContainsFunc_TreeBridge_TreeBridge_impl_TreeWorld_bridgesOk_1_m (a0 : (List TreeBridge)) (a1c0 : TreeBridge) : Option (Bool) :=
 bd (slices_IndexFunc_TreeBridge_TreeBridge_impl_TreeWorld_bridgesOk_1_m a0 a1c0) fun x1 =>
 some (decide (x1 ≥ 0))

theorem slices_ContainsFunc_TreeBridge_TreeBridge_impl_TreeWorld_bridgesOk_1_c {a0 : (List TreeBridge)} {a1c0 : TreeBridge} {r : Bool} (h : slices_ContainsFunc_TreeBridge_TreeBridge_impl_TreeWorld_bridgesOk_1_m a0 a1c0 = some r) : PureC Try.prog 96 [.d (slD TreeBridge.enc a0), .fn 97 [.rp [.int .i64 a1c0.Id, .bool a1c0.Up, .int .i64 a1c0.Mind.Vector.Root, .int .i64 a1c0.Mind.Vector.Cost, .int .i64 a1c0.Mind.Vector.Age, .int .i64 a1c0.Mind.Link]]] (.d (.bool r)) [] := by
  refine pureC_m tOk (fn := Try.f96) (c := codeOf Try.f96) rfl rfl (by kernel_rfl) rfl rfl (by simp) (by simp) (ids_of rfl) ?_
  unfold slices_ContainsFunc_TreeBridge_TreeBridge_impl_TreeWorld_bridgesOk_1_m at h
  conv => whnf
  obtain ⟨x1, hx1, h⟩ := bd_some h
  refine callC 0 (slices_IndexFunc_TreeBridge_TreeBridge_impl_TreeWorld_bridgesOk_1_c hx1) (by kernel_rfl) (by kernel_rfl) ?_
  clear hx1
  conv => whnf
  obtain rfl := Option.some.inj h
  exact ⟨_, LE.refl _, And.intro rfl trivial⟩

noncomputable def impl_TreeVector_nothing_m (a0 : TreeVector) : Option (Bool) :=
 some ((a0.Root == 0) && ((a0.Cost == 0) && ((a0.Age == 0) && true)))

theorem impl_TreeVector_nothing_c {a0 : TreeVector} {r : Bool} (h : impl_TreeVector_nothing_m a0 = some r) : PureC Try.prog 65 [.agg [.d (.int .i64 a0.Root), .d (.int .i64 a0.Cost), .d (.int .i64 a0.Age)]] (.d (.bool r)) [] := by
  refine pureC_m tOk (fn := Try.f65) (c := codeOf Try.f65) rfl rfl (by kernel_rfl) rfl rfl (by simp) (by simp) (ids_of rfl) ?_
  unfold impl_TreeVector_nothing_m at h
  conv => whnf
  obtain rfl := Option.some.inj h
  exact ⟨_, LE.refl _, And.intro rfl trivial⟩

noncomputable def impl_TreeVectorOk_m (a0 : TreeVector) : Option (Bool) :=
 bd (impl_TreeVector_nothing_m a0) fun x1 =>
 bd (gcall (x1 = false) (impl_within_m a0.Root 1 1000)) fun x2 =>
 bd (gcall (x2 = true ∧ x1 = false) (impl_within_m a0.Cost 0 1000)) fun x3 =>
 bd (gcall ((x2 && x3) = true ∧ x1 = false) (impl_within_m a0.Age 0 10)) fun x4 =>
 some (x1 || ((x2 && x3) && x4))

theorem impl_TreeVectorOk_c {a0 : TreeVector} {r : Bool} (h : impl_TreeVectorOk_m a0 = some r) : PureC Try.prog 64 [.agg [.d (.int .i64 a0.Root), .d (.int .i64 a0.Cost), .d (.int .i64 a0.Age)]] (.d (.bool r)) [] := by
  refine pureC_m tOk (fn := Try.f64) (c := codeOf Try.f64) rfl rfl (by kernel_rfl) rfl rfl (by simp) (by simp) (ids_of rfl) ?_
  unfold impl_TreeVectorOk_m at h
  conv => whnf
  obtain ⟨x1, hx1, h⟩ := bd_some h
  refine callC 0 (impl_TreeVector_nothing_c hx1) (by kernel_rfl) (by kernel_rfl) ?_
  clear hx1
  conv => whnf
  obtain ⟨x2, hx2, h⟩ := bd_some h
  refine callG_m rfl rfl rfl rfl rfl rfl (by intro c0; exact impl_within_c (gcall_some hx2 c0)) ?_
  conv => whnf
  obtain ⟨x3, hx3, h⟩ := bd_some h
  refine callG_m rfl rfl rfl rfl rfl rfl (by intro c0 c1; exact impl_within_c (gcall_some hx3 ⟨c0, c1⟩)) ?_
  conv => whnf
  obtain ⟨x4, hx4, h⟩ := bd_some h
  refine callG_m rfl rfl rfl rfl rfl rfl (by intro c0 c1; exact impl_within_c (gcall_some hx4 ⟨c0, c1⟩)) ?_
  conv => whnf
  obtain rfl := Option.some.inj h
  exact ⟨_, LE.refl _, And.intro rfl trivial⟩

noncomputable def impl_TreeWorld_bridgesOk_m (a0 : TreeWorld) : Option (Bool) :=
 bd (lp (σ := Int) (β := (Unit ⊕ Unit)) (fun s1 =>
(if (decide (s1 < ((a0.Bridges.length : Nat) : Int))) = true then
 gd ((0 : Int) ≤ s1 ∧ s1 < ((a0.Bridges.length : Nat) : Int)) <|
 bd (impl_within_m ((a0.Bridges.getD s1.toNat default).Id) 1 1000) fun x6 =>
 gd ((!x6) = false → ((0 : Int) ≤ (0 : Int) ∧ (0 : Int) ≤ s1 ∧ s1 ≤ ((a0.Bridges.length : Nat) : Int))) <|
 bd (gcall ((!x6) = false) (slices_ContainsFunc_TreeBridge_TreeBridge_impl_TreeWorld_bridgesOk_1_m (a0.Bridges.take s1.toNat) ({ (a0.Bridges.getD s1.toNat default) with Mind := (⟨(((a0.Bridges.getD s1.toNat default).Mind).Vector), ((a0.Bridges.getD s1.toNat default).Mind).Link⟩ : TreeMind) }))) fun x8 =>
(if ((!x6) || x8) = true then
 some (.inr (.inl ()))
else
 bd (gcall ((a0.Bridges.getD s1.toNat default).Up = true) (impl_TreeVectorOk_m (((a0.Bridges.getD s1.toNat default).Mind).Vector))) fun x9 =>
 bd (gcall ((!x9) = false ∧ (a0.Bridges.getD s1.toNat default).Up = true) (impl_TreeVector_nothing_m (((a0.Bridges.getD s1.toNat default).Mind).Vector))) fun x10 =>
 bd (gcall (((!x9) || x10) = false ∧ (a0.Bridges.getD s1.toNat default).Up = true) (impl_within_m (((a0.Bridges.getD s1.toNat default).Mind).Link) (-1) (IntKind.i64.wrap (((a0.Links.length : Nat) : Int) - 1)))) fun x11 =>
(if (((a0.Bridges.getD s1.toNat default).Up && (((!x9) || x10) || (!x11))) || ((!((a0.Bridges.getD s1.toNat default).Up)) && (!(((((((a0.Bridges.getD s1.toNat default).Mind).Vector).Root) == 0) && ((((((a0.Bridges.getD s1.toNat default).Mind).Vector).Cost) == 0) && ((((((a0.Bridges.getD s1.toNat default).Mind).Vector).Age) == 0) && true))) && (((((a0.Bridges.getD s1.toNat default).Mind).Link) == 0) && true))))) = true then
 some (.inr (.inl ()))
else
 some (.inl (IntKind.i64.wrap (s1 + 1)))))
else
 some (.inr (.inr ())))) 0) fun x4 =>
(match x4 with
| .inl d12 =>
 some false
| .inr d13 =>
 some true)

theorem impl_TreeWorld_bridgesOk_c {a0 : TreeWorld} {r : Bool} (h : impl_TreeWorld_bridgesOk_m a0 = some r) : PureC Try.prog 59 [.rp [slD TreeBridge.enc a0.Bridges, slD TreeLink.enc a0.Links, slD encInt a0.Down, slD TreeSlot.enc a0.AtA, slD TreeSlot.enc a0.AtB, slD TreeWord.enc a0.Radio]] (.d (.bool r)) [] := by
  refine pureC_m tOk (fn := Try.f59) (c := codeOf Try.f59) rfl rfl (by kernel_rfl) rfl rfl (by simp) (by simp) (ids_of rfl) ?_
  unfold impl_TreeWorld_bridgesOk_m at h
  conv => whnf
  refine seq_in tOk ?_
  conv => whnf
  obtain ⟨x4, hx4, h⟩ := bd_some h
  refine loop_m tOk hx4 (fun s1 => ⟨0, 69, [(0, .rp [slD TreeBridge.enc a0.Bridges, slD TreeLink.enc a0.Links, slD encInt a0.Down, slD TreeSlot.enc a0.AtA, slD TreeSlot.enc a0.AtB, slD TreeWord.enc a0.Radio]), (9, .d (slD TreeBridge.enc a0.Bridges)), (10, .d (.int .i64 ((a0.Bridges.length : Nat) : Int))), (11, .d (.int .i64 s1))], [], [], []⟩) ?_ ?_
  · refine le_mk ?_ ?_ ?_ <;> (repeat' first | ((conv => whnf); first | exact trivial | refine And.intro ?_ ?_ | exact BLe.refl _ | exact VLe.refl _) | exact trivial | exact rfl | refine And.intro ?_ ?_ | exact BLe.refl _ | exact VLe.refl _ | exact VLe.any _ | exact VLe.nil_osl rfl | exact VLe.nil_sl rfl | exact VLe.built rfl rfl | (refine VLe.osl rfl ?_; (first | rfl | (simp; done) | assumption | (simp [dsub_eq] <;> omega) | omega)) | exact VLe.rows (by first | rfl | (simp; done) | assumption | (simp [dsub_eq] <;> omega) | omega) (fun _ _ => rfl) | exact VLe.rows (by simp [dsub_eq] <;> omega) rows_take | exact VLe.rows (by simp [dsub_eq] <;> omega) rows_dt | exact VLe.rows (by simp [dsub_eq] <;> omega) rows_vt | exact VLe.rows (by simp) (fun i _ => by simp [viewRow_eq, Nat.add_comm]) | refine VLe.aggL ?_ | (refine BLe.rows rfl ?_ fun _ _ => rfl; (first | rfl | (simp; done) | assumption | (simp [dsub_eq] <;> omega) | omega)) | (refine BLe.rows rfl rfl ?_; first | exact rows_take) | refine BLe.box ?_)
  · clear hx4
    intro s1 y2 g3 hy2
    conv => whnf
    refine seq_in tOk ?_
    conv => whnf
    refine And.intro (fun e => ?_) (fun e => ?_)
    · replace g3 := ite_t g3 e; clear e
      conv => whnf
      refine seq_in tOk ?_
      conv => whnf
      obtain ⟨g5, g3⟩ := gd_some g3
      refine And.intro g5 ?_
      clear g5
      conv => whnf
      refine seq_in tOk ?_
      conv => whnf
      obtain ⟨x6, hx6, g3⟩ := bd_some g3
      refine callC 0 (impl_within_c hx6) (by kernel_rfl) (by kernel_rfl) ?_
      clear hx6
      conv => whnf
      obtain ⟨g7, g3⟩ := gd_some g3
      refine And.intro (by intro c0; exact ⟨g7 c0, .inr rfl⟩) ?_
      conv => whnf
      obtain ⟨x8, hx8, g3⟩ := bd_some g3
      refine callG_m rfl rfl rfl rfl rfl rfl (by intro c0; have q0 := g7 c0; exact (slices_ContainsFunc_TreeBridge_TreeBridge_impl_TreeWorld_bridgesOk_1_c (gcall_some hx8 c0)).le (by (repeat' first | ((conv => whnf); first | exact trivial | refine And.intro ?_ ?_ | exact BLe.refl _ | exact VLe.refl _) | exact trivial | refine And.intro ?_ ?_ | exact VLe.refl _ | exact VLe.any _ | exact VLe.nil_osl rfl | exact VLe.nil_sl rfl | exact VLe.built rfl rfl | (refine VLe.osl rfl ?_; (first | rfl | (simp; done) | assumption | (simp [dsub_eq] <;> omega) | omega)) | exact VLe.rows (by first | rfl | (simp; done) | assumption | (simp [dsub_eq] <;> omega) | omega) (fun _ _ => rfl) | exact VLe.rows (by simp [dsub_eq] <;> omega) rows_take | exact VLe.rows (by simp [dsub_eq] <;> omega) rows_dt | exact VLe.rows (by simp [dsub_eq] <;> omega) rows_vt | exact VLe.rows (by simp) (fun i _ => by simp [viewRow_eq, Nat.add_comm]) | refine VLe.aggL ?_))) ?_
      conv => whnf
      refine And.intro (fun e => ?_) (fun e => ?_)
      · replace g3 := ite_t g3 e; clear e
        conv => whnf
        obtain rfl := Option.some.inj g3
        obtain rfl := hy2 _ rfl
        obtain rfl := Option.some.inj h
        exact ⟨_, LE.refl _, And.intro rfl trivial⟩
      · replace g3 := ite_f g3 e; clear e
        conv => whnf
        obtain ⟨x9, hx9, g3⟩ := bd_some g3
        obtain ⟨x10, hx10, g3⟩ := bd_some g3
        obtain ⟨x11, hx11, g3⟩ := bd_some g3
        refine draw_k tOk (by kernel_rfl) (fun j => match j with | 4 => some (.pure 0 (.d (.bool x9)) []) | 8 => some (.pure 0 (.d (.bool x10)) []) | 20 => some (.pure 0 (.d (.bool x11)) []) | _ => none) 35 [] [[], [true], [true, true], [true, true, true], [true, true, true, true], [true, true, true, true, true], [true, true, true, true, true, true], [true, true, true, true, true, true, true], [true, true, true, true, true, true, true, true], [true, true, true, true, true, true, true, true, true], [true, true, true, true, true, true, true, true, true, true], [true, true, true, true, true, true, true, true, true, true, true], [true, true, true, true, true, true, true, true, true, true, true, true], [true, true, true, true, true, true, true, true, true, true, true, true, true], [true, true, true, true, true, true, true, true, true, true, true], [true, true, true, true, true, true, true, true, true, true, true, false, false, false, true], [true, true, true, true, true, true, true, true, true, true, true, false, false, false, true, true], [true, true, true, true, true, true, true, true, true, true, true, false, false, false, true, true, true], [true, true, true, true, true, true, true, true, true, true, true, false, false, false, true, true, true, true], [true, true, true, true, true, true, true, true, true, true, true, false, false, false, true, true, true, true, true], [true, true, true, true, true, true, true, true, true, true, true, true, true, true, true, true, true, true, true, true], [true, true, true, true, true, true, true, true, true, true, true, true, true, true, true, true, true, true, true, true, true], [true, true, true, true, true, true, true, true, true, true, true, true, true, true, true, true, true, true, true, true, true, true], [true, true, true, true, true, true, true, true, true, true, true, true, true, true, true, true, true, true, true, true, true, true, true], [true, true, true, true, true, true, true, true, true, true, true, true, true, true, true, true, true, true, true, true, true, true, true, true], [true, true, true, true, true, true, true, true, true, true, true, true, true, true, true, true, true, true, true, true, true, true, true, true, true], [true, true, true, true, true, true, true, true, true, true, true, true, true, true, true, true, true, true, true, true, true, true, true, true, true, true], [true, true, true, true, true, true, true, true, true, true, true, true, true, true, true, true, true, true, true, true, true, true, true, true, true, true, true], [true, true, true, true, true, true, true, true, true, true, true, true, true, true, true, true, true, true, true, true, true, true, true, true, true, true, true, true], [true, true, true, true, true, true, true, true, true, true, true, true, true, true, true, true, true, true, true, true, true, true, true, true, true, true, true, true, true], [true, true, true, true, true, true, true, true, true, true, true, true, true, true, true, true, true, true, true, true, true, true, true, true, true, true, true, true, true, true], [true, true, true, true, true, true, true, true, true, true, true, true, true, true, true, true, true, true, true, true, true, true, true, true, true, true, true, true, true], [true, true, true, true, true, true, true, true, true, true, true, true, true, true, true, true, true, true, true, true, true, true, true, true, true, true, true, true, true, true, true, true], [true, true, true, true, true, true, true, true, true, true, true, true, true, true, true, true, true, true, true, true, true, true, true, true, true, true, true, true, true, true, true, true, true], [true, true, true, true, true, true, true, true, true, true, true, true, true, true, true, true, true, true, true, true, true, true, true, true, true, true, true, true, true, true, true, true, true, true]] [] (by decide) (by kernel_rfl) (by kernel_rfl) ?_
        conv => whnf
        refine And.intro (callDG_if rfl rfl rfl rfl (by intro c0; exact impl_TreeVectorOk_c (gcall_some hx9 c0))) ?_
        conv => whnf
        refine And.intro (callDG_if rfl rfl rfl rfl (by intro c0 c1; exact impl_TreeVector_nothing_c (gcall_some hx10 ⟨c0, c1⟩))) ?_
        conv => whnf
        refine And.intro (callDG_if rfl rfl rfl rfl (by intro c0 c1; exact impl_within_c (gcall_some hx11 ⟨c0, c1⟩))) ?_
        conv => whnf
        refine And.intro (by kernel_rfl) ?_
        conv => whnf
        refine And.intro (fun e => ?_) (fun e => ?_)
        · replace g3 := ite_t g3 e; clear e
          conv => whnf
          obtain rfl := Option.some.inj g3
          obtain rfl := hy2 _ rfl
          obtain rfl := Option.some.inj h
          exact ⟨_, LE.refl _, And.intro rfl trivial⟩
        · replace g3 := ite_f g3 e; clear e
          conv => whnf
          obtain rfl := Option.some.inj g3
          refine ⟨_, rfl, le_mk ?_ ?_ ?_⟩ <;> (repeat' first | ((conv => whnf); first | exact trivial | refine And.intro ?_ ?_ | exact BLe.refl _ | exact VLe.refl _) | exact trivial | exact rfl | refine And.intro ?_ ?_ | exact BLe.refl _ | exact VLe.refl _ | exact VLe.any _ | exact VLe.nil_osl rfl | exact VLe.nil_sl rfl | exact VLe.built rfl rfl | (refine VLe.osl rfl ?_; (first | rfl | (simp; done) | assumption | (simp [dsub_eq] <;> omega) | omega)) | exact VLe.rows (by first | rfl | (simp; done) | assumption | (simp [dsub_eq] <;> omega) | omega) (fun _ _ => rfl) | exact VLe.rows (by simp [dsub_eq] <;> omega) rows_take | exact VLe.rows (by simp [dsub_eq] <;> omega) rows_dt | exact VLe.rows (by simp [dsub_eq] <;> omega) rows_vt | exact VLe.rows (by simp) (fun i _ => by simp [viewRow_eq, Nat.add_comm]) | refine VLe.aggL ?_ | (refine BLe.rows rfl ?_ fun _ _ => rfl; (first | rfl | (simp; done) | assumption | (simp [dsub_eq] <;> omega) | omega)) | (refine BLe.rows rfl rfl ?_; first | exact rows_take) | refine BLe.box ?_)
    · replace g3 := ite_f g3 e; clear e
      conv => whnf
      obtain rfl := Option.some.inj g3
      obtain rfl := hy2 _ rfl
      obtain rfl := Option.some.inj h
      exact ⟨_, LE.refl _, And.intro rfl trivial⟩

noncomputable def impl_TreeWorld_isLink_m (a0 : TreeWorld) (a1 : Int) : Option (Bool) :=
 bd (impl_within_m a1 0 (IntKind.i64.wrap (((a0.Links.length : Nat) : Int) - 1))) fun x1 =>
 some x1

theorem impl_TreeWorld_isLink_c {a0 : TreeWorld} {a1 : Int} {r : Bool} (h : impl_TreeWorld_isLink_m a0 a1 = some r) : PureC Try.prog 60 [.rp [slD TreeBridge.enc a0.Bridges, slD TreeLink.enc a0.Links, slD encInt a0.Down, slD TreeSlot.enc a0.AtA, slD TreeSlot.enc a0.AtB, slD TreeWord.enc a0.Radio], .d (.int .i64 a1)] (.d (.bool r)) [] := by
  refine pureC_m tOk (fn := Try.f60) (c := codeOf Try.f60) rfl rfl (by kernel_rfl) rfl rfl (by simp) (by simp) (ids_of rfl) ?_
  unfold impl_TreeWorld_isLink_m at h
  conv => whnf
  obtain ⟨x1, hx1, h⟩ := bd_some h
  refine callC 0 (impl_within_c hx1) (by kernel_rfl) (by kernel_rfl) ?_
  clear hx1
  conv => whnf
  obtain rfl := Option.some.inj h
  exact ⟨_, LE.refl _, And.intro rfl trivial⟩

noncomputable def impl_TreeWorld_slot_m (a0 : TreeWorld) (a1 : Int) (a2 : Int) : Option (TreeSlot) :=
(if (a2 == 0) = true then
 gd ((0 : Int) ≤ a1 ∧ a1 < ((a0.AtA.length : Nat) : Int)) <|
 some (⟨((a0.AtA.getD a1.toNat default).Vector), (a0.AtA.getD a1.toNat default).Left⟩ : TreeSlot)
else
 gd ((0 : Int) ≤ a1 ∧ a1 < ((a0.AtB.length : Nat) : Int)) <|
 some (⟨((a0.AtB.getD a1.toNat default).Vector), (a0.AtB.getD a1.toNat default).Left⟩ : TreeSlot))

theorem impl_TreeWorld_slot_c {a0 : TreeWorld} {a1 : Int} {a2 : Int} {r : TreeSlot} (h : impl_TreeWorld_slot_m a0 a1 a2 = some r) : EffC Try.prog 98 [.rp [slD TreeBridge.enc a0.Bridges, slD TreeLink.enc a0.Links, slD encInt a0.Down, slD TreeSlot.enc a0.AtA, slD TreeSlot.enc a0.AtB, slD TreeWord.enc a0.Radio], .d (.int .i64 a1), .d (.int .i64 a2)] [] (.rp [.int .i64 r.Vector.Root, .int .i64 r.Vector.Cost, .int .i64 r.Vector.Age, .int .i64 r.Left]) [] := by
  refine effC_m tOk (fn := Try.f98) (c := codeOf Try.f98) rfl rfl (by kernel_rfl) rfl rfl rfl rfl ?_
  unfold impl_TreeWorld_slot_m at h
  conv => whnf
  refine seq_in tOk ?_
  conv => whnf
  refine And.intro (fun e => ?_) (fun e => ?_)
  · replace h := ite_t h e; clear e
    conv => whnf
    obtain ⟨g1, h⟩ := gd_some h
    refine And.intro g1 ?_
    clear g1
    conv => whnf
    obtain rfl := Option.some.inj h
    refine ⟨⟨0, 21, [(6, .rp [.int .i64 (((a0.AtA.getD a1.toNat default).Vector).Root), .int .i64 (((a0.AtA.getD a1.toNat default).Vector).Cost), .int .i64 (((a0.AtA.getD a1.toNat default).Vector).Age), .int .i64 ((a0.AtA.getD a1.toNat default).Left)])], [], [], [⟨[], []⟩]⟩, ?_, And.intro rfl (And.intro ?_ ?_)⟩
    · refine le_mk ?_ ?_ ?_ <;> (repeat' first | ((conv => whnf); first | exact trivial | refine And.intro ?_ ?_ | exact BLe.refl _ | exact VLe.refl _) | exact trivial | exact rfl | refine And.intro ?_ ?_ | exact BLe.refl _ | exact VLe.refl _ | exact VLe.any _ | exact VLe.nil_osl rfl | exact VLe.nil_sl rfl | exact VLe.built rfl rfl | (refine VLe.osl rfl ?_; (first | rfl | (simp; done) | assumption | (simp [dsub_eq] <;> omega) | omega)) | exact VLe.rows (by first | rfl | (simp; done) | assumption | (simp [dsub_eq] <;> omega) | omega) (fun _ _ => rfl) | exact VLe.rows (by simp [dsub_eq] <;> omega) rows_take | exact VLe.rows (by simp [dsub_eq] <;> omega) rows_dt | exact VLe.rows (by simp [dsub_eq] <;> omega) rows_vt | exact VLe.rows (by simp) (fun i _ => by simp [viewRow_eq, Nat.add_comm]) | refine VLe.aggL ?_ | (refine BLe.rows rfl ?_ fun _ _ => rfl; (first | rfl | (simp; done) | assumption | (simp [dsub_eq] <;> omega) | omega)) | (refine BLe.rows rfl rfl ?_; first | exact rows_take) | refine BLe.box ?_)
    · (repeat' first | ((conv => whnf); first | exact trivial | refine And.intro ?_ ?_ | exact BLe.refl _ | exact VLe.refl _) | exact trivial | exact rfl | refine And.intro ?_ ?_ | exact BLe.refl _ | exact VLe.refl _ | exact VLe.any _ | exact VLe.nil_osl rfl | exact VLe.nil_sl rfl | exact VLe.built rfl rfl | (refine VLe.osl rfl ?_; (first | rfl | (simp; done) | assumption | (simp [dsub_eq] <;> omega) | omega)) | exact VLe.rows (by first | rfl | (simp; done) | assumption | (simp [dsub_eq] <;> omega) | omega) (fun _ _ => rfl) | exact VLe.rows (by simp [dsub_eq] <;> omega) rows_take | exact VLe.rows (by simp [dsub_eq] <;> omega) rows_dt | exact VLe.rows (by simp [dsub_eq] <;> omega) rows_vt | exact VLe.rows (by simp) (fun i _ => by simp [viewRow_eq, Nat.add_comm]) | refine VLe.aggL ?_ | (refine BLe.rows rfl ?_ fun _ _ => rfl; (first | rfl | (simp; done) | assumption | (simp [dsub_eq] <;> omega) | omega)) | refine BLe.box ?_ | (simp; done))
    · (repeat' first | ((conv => whnf); first | exact trivial | refine And.intro ?_ ?_ | exact BLe.refl _ | exact VLe.refl _) | exact trivial | exact rfl | refine And.intro ?_ ?_ | exact BLe.refl _ | exact VLe.refl _ | exact VLe.any _ | exact VLe.nil_osl rfl | exact VLe.nil_sl rfl | exact VLe.built rfl rfl | (refine VLe.osl rfl ?_; (first | rfl | (simp; done) | assumption | (simp [dsub_eq] <;> omega) | omega)) | exact VLe.rows (by first | rfl | (simp; done) | assumption | (simp [dsub_eq] <;> omega) | omega) (fun _ _ => rfl) | exact VLe.rows (by simp [dsub_eq] <;> omega) rows_take | exact VLe.rows (by simp [dsub_eq] <;> omega) rows_dt | exact VLe.rows (by simp [dsub_eq] <;> omega) rows_vt | exact VLe.rows (by simp) (fun i _ => by simp [viewRow_eq, Nat.add_comm]) | refine VLe.aggL ?_ | (refine BLe.rows rfl ?_ fun _ _ => rfl; (first | rfl | (simp; done) | assumption | (simp [dsub_eq] <;> omega) | omega)) | refine BLe.box ?_ | (simp; done))
  · replace h := ite_f h e; clear e
    conv => whnf
    obtain ⟨g2, h⟩ := gd_some h
    refine And.intro g2 ?_
    clear g2
    conv => whnf
    obtain rfl := Option.some.inj h
    refine ⟨⟨0, 21, [(6, .rp [.int .i64 (((a0.AtB.getD a1.toNat default).Vector).Root), .int .i64 (((a0.AtB.getD a1.toNat default).Vector).Cost), .int .i64 (((a0.AtB.getD a1.toNat default).Vector).Age), .int .i64 ((a0.AtB.getD a1.toNat default).Left)])], [], [], [⟨[], []⟩]⟩, ?_, And.intro rfl (And.intro ?_ ?_)⟩
    · refine le_mk ?_ ?_ ?_ <;> (repeat' first | ((conv => whnf); first | exact trivial | refine And.intro ?_ ?_ | exact BLe.refl _ | exact VLe.refl _) | exact trivial | exact rfl | refine And.intro ?_ ?_ | exact BLe.refl _ | exact VLe.refl _ | exact VLe.any _ | exact VLe.nil_osl rfl | exact VLe.nil_sl rfl | exact VLe.built rfl rfl | (refine VLe.osl rfl ?_; (first | rfl | (simp; done) | assumption | (simp [dsub_eq] <;> omega) | omega)) | exact VLe.rows (by first | rfl | (simp; done) | assumption | (simp [dsub_eq] <;> omega) | omega) (fun _ _ => rfl) | exact VLe.rows (by simp [dsub_eq] <;> omega) rows_take | exact VLe.rows (by simp [dsub_eq] <;> omega) rows_dt | exact VLe.rows (by simp [dsub_eq] <;> omega) rows_vt | exact VLe.rows (by simp) (fun i _ => by simp [viewRow_eq, Nat.add_comm]) | refine VLe.aggL ?_ | (refine BLe.rows rfl ?_ fun _ _ => rfl; (first | rfl | (simp; done) | assumption | (simp [dsub_eq] <;> omega) | omega)) | (refine BLe.rows rfl rfl ?_; first | exact rows_take) | refine BLe.box ?_)
    · (repeat' first | ((conv => whnf); first | exact trivial | refine And.intro ?_ ?_ | exact BLe.refl _ | exact VLe.refl _) | exact trivial | exact rfl | refine And.intro ?_ ?_ | exact BLe.refl _ | exact VLe.refl _ | exact VLe.any _ | exact VLe.nil_osl rfl | exact VLe.nil_sl rfl | exact VLe.built rfl rfl | (refine VLe.osl rfl ?_; (first | rfl | (simp; done) | assumption | (simp [dsub_eq] <;> omega) | omega)) | exact VLe.rows (by first | rfl | (simp; done) | assumption | (simp [dsub_eq] <;> omega) | omega) (fun _ _ => rfl) | exact VLe.rows (by simp [dsub_eq] <;> omega) rows_take | exact VLe.rows (by simp [dsub_eq] <;> omega) rows_dt | exact VLe.rows (by simp [dsub_eq] <;> omega) rows_vt | exact VLe.rows (by simp) (fun i _ => by simp [viewRow_eq, Nat.add_comm]) | refine VLe.aggL ?_ | (refine BLe.rows rfl ?_ fun _ _ => rfl; (first | rfl | (simp; done) | assumption | (simp [dsub_eq] <;> omega) | omega)) | refine BLe.box ?_ | (simp; done))
    · (repeat' first | ((conv => whnf); first | exact trivial | refine And.intro ?_ ?_ | exact BLe.refl _ | exact VLe.refl _) | exact trivial | exact rfl | refine And.intro ?_ ?_ | exact BLe.refl _ | exact VLe.refl _ | exact VLe.any _ | exact VLe.nil_osl rfl | exact VLe.nil_sl rfl | exact VLe.built rfl rfl | (refine VLe.osl rfl ?_; (first | rfl | (simp; done) | assumption | (simp [dsub_eq] <;> omega) | omega)) | exact VLe.rows (by first | rfl | (simp; done) | assumption | (simp [dsub_eq] <;> omega) | omega) (fun _ _ => rfl) | exact VLe.rows (by simp [dsub_eq] <;> omega) rows_take | exact VLe.rows (by simp [dsub_eq] <;> omega) rows_dt | exact VLe.rows (by simp [dsub_eq] <;> omega) rows_vt | exact VLe.rows (by simp) (fun i _ => by simp [viewRow_eq, Nat.add_comm]) | refine VLe.aggL ?_ | (refine BLe.rows rfl ?_ fun _ _ => rfl; (first | rfl | (simp; done) | assumption | (simp [dsub_eq] <;> omega) | omega)) | refine BLe.box ?_ | (simp; done))

noncomputable def slices_Index_int_int_m (a0 : (List Int)) (a1 : Int) : Option (Int) :=
 bd (lp (σ := Int) (β := (Int ⊕ Unit)) (fun s1 =>
(if (decide (s1 < ((a0.length : Nat) : Int))) = true then
 gd ((0 : Int) ≤ s1 ∧ s1 < ((a0.length : Nat) : Int)) <|
(if (a1 == (a0.getD s1.toNat default)) = true then
 some (.inr (.inl s1))
else
 some (.inl (IntKind.i64.wrap (s1 + 1))))
else
 some (.inr (.inr ())))) 0) fun x4 =>
(match x4 with
| .inl d6 =>
 some d6
| .inr d7 =>
 some (-1))

theorem slices_Index_int_int_c {a0 : (List Int)} {a1 : Int} {r : Int} (h : slices_Index_int_int_m a0 a1 = some r) : PureC Try.prog 123 [.d (slD encInt a0), .d (.int .i64 a1)] (.d (.int .i64 r)) [] := by
  refine pureC_m tOk (fn := Try.f123) (c := codeOf Try.f123) rfl rfl (by kernel_rfl) rfl rfl (by simp) (by simp) (ids_of rfl) ?_
  unfold slices_Index_int_int_m at h
  conv => whnf
  refine seq_in tOk ?_
  conv => whnf
  obtain ⟨x4, hx4, h⟩ := bd_some h
  refine loop_m tOk hx4 (fun s1 => ⟨0, 19, [(0, .d (slD encInt a0)), (1, .d (.int .i64 a1)), (7, .d (.int .i64 ((a0.length : Nat) : Int))), (8, .d (.int .i64 s1))], [], [], []⟩) ?_ ?_
  · refine le_mk ?_ ?_ ?_ <;> (repeat' first | ((conv => whnf); first | exact trivial | refine And.intro ?_ ?_ | exact BLe.refl _ | exact VLe.refl _) | exact trivial | exact rfl | refine And.intro ?_ ?_ | exact BLe.refl _ | exact VLe.refl _ | exact VLe.any _ | exact VLe.nil_osl rfl | exact VLe.nil_sl rfl | exact VLe.built rfl rfl | (refine VLe.osl rfl ?_; (first | rfl | (simp; done) | assumption | (simp [dsub_eq] <;> omega) | omega)) | exact VLe.rows (by first | rfl | (simp; done) | assumption | (simp [dsub_eq] <;> omega) | omega) (fun _ _ => rfl) | exact VLe.rows (by simp [dsub_eq] <;> omega) rows_take | exact VLe.rows (by simp [dsub_eq] <;> omega) rows_dt | exact VLe.rows (by simp [dsub_eq] <;> omega) rows_vt | exact VLe.rows (by simp) (fun i _ => by simp [viewRow_eq, Nat.add_comm]) | refine VLe.aggL ?_ | (refine BLe.rows rfl ?_ fun _ _ => rfl; (first | rfl | (simp; done) | assumption | (simp [dsub_eq] <;> omega) | omega)) | (refine BLe.rows rfl rfl ?_; first | exact rows_take) | refine BLe.box ?_)
  · clear hx4
    intro s1 y2 g3 hy2
    conv => whnf
    refine seq_in tOk ?_
    conv => whnf
    refine And.intro (fun e => ?_) (fun e => ?_)
    · replace g3 := ite_t g3 e; clear e
      conv => whnf
      refine seq_in tOk ?_
      conv => whnf
      obtain ⟨g5, g3⟩ := gd_some g3
      refine And.intro g5 ?_
      clear g5
      conv => whnf
      refine And.intro (fun e => ?_) (fun e => ?_)
      · replace g3 := ite_t g3 e; clear e
        conv => whnf
        obtain rfl := Option.some.inj g3
        obtain rfl := hy2 _ rfl
        obtain rfl := Option.some.inj h
        exact ⟨_, LE.refl _, And.intro rfl trivial⟩
      · replace g3 := ite_f g3 e; clear e
        conv => whnf
        obtain rfl := Option.some.inj g3
        refine ⟨_, rfl, le_mk ?_ ?_ ?_⟩ <;> (repeat' first | ((conv => whnf); first | exact trivial | refine And.intro ?_ ?_ | exact BLe.refl _ | exact VLe.refl _) | exact trivial | exact rfl | refine And.intro ?_ ?_ | exact BLe.refl _ | exact VLe.refl _ | exact VLe.any _ | exact VLe.nil_osl rfl | exact VLe.nil_sl rfl | exact VLe.built rfl rfl | (refine VLe.osl rfl ?_; (first | rfl | (simp; done) | assumption | (simp [dsub_eq] <;> omega) | omega)) | exact VLe.rows (by first | rfl | (simp; done) | assumption | (simp [dsub_eq] <;> omega) | omega) (fun _ _ => rfl) | exact VLe.rows (by simp [dsub_eq] <;> omega) rows_take | exact VLe.rows (by simp [dsub_eq] <;> omega) rows_dt | exact VLe.rows (by simp [dsub_eq] <;> omega) rows_vt | exact VLe.rows (by simp) (fun i _ => by simp [viewRow_eq, Nat.add_comm]) | refine VLe.aggL ?_ | (refine BLe.rows rfl ?_ fun _ _ => rfl; (first | rfl | (simp; done) | assumption | (simp [dsub_eq] <;> omega) | omega)) | (refine BLe.rows rfl rfl ?_; first | exact rows_take) | refine BLe.box ?_)
    · replace g3 := ite_f g3 e; clear e
      conv => whnf
      obtain rfl := Option.some.inj g3
      obtain rfl := hy2 _ rfl
      obtain rfl := Option.some.inj h
      exact ⟨_, LE.refl _, And.intro rfl trivial⟩

noncomputable def slices_Contains_int_int_m (a0 : (List Int)) (a1 : Int) : Option (Bool) :=
 bd (slices_Index_int_int_m a0 a1) fun x1 =>
 some (decide (x1 ≥ 0))

theorem slices_Contains_int_int_c {a0 : (List Int)} {a1 : Int} {r : Bool} (h : slices_Contains_int_int_m a0 a1 = some r) : PureC Try.prog 116 [.d (slD encInt a0), .d (.int .i64 a1)] (.d (.bool r)) [] := by
  refine pureC_m tOk (fn := Try.f116) (c := codeOf Try.f116) rfl rfl (by kernel_rfl) rfl rfl (by simp) (by simp) (ids_of rfl) ?_
  unfold slices_Contains_int_int_m at h
  conv => whnf
  obtain ⟨x1, hx1, h⟩ := bd_some h
  refine callC 0 (slices_Index_int_int_c hx1) (by kernel_rfl) (by kernel_rfl) ?_
  clear hx1
  conv => whnf
  obtain rfl := Option.some.inj h
  exact ⟨_, LE.refl _, And.intro rfl trivial⟩

noncomputable def impl_TreeWorld_isDown_m (a0 : TreeWorld) (a1 : Int) : Option (Bool) :=
 bd (slices_Contains_int_int_m a0.Down a1) fun x1 =>
 some x1

theorem impl_TreeWorld_isDown_c {a0 : TreeWorld} {a1 : Int} {r : Bool} (h : impl_TreeWorld_isDown_m a0 a1 = some r) : PureC Try.prog 99 [.rp [slD TreeBridge.enc a0.Bridges, slD TreeLink.enc a0.Links, slD encInt a0.Down, slD TreeSlot.enc a0.AtA, slD TreeSlot.enc a0.AtB, slD TreeWord.enc a0.Radio], .d (.int .i64 a1)] (.d (.bool r)) [] := by
  refine pureC_m tOk (fn := Try.f99) (c := codeOf Try.f99) rfl rfl (by kernel_rfl) rfl rfl (by simp) (by simp) (ids_of rfl) ?_
  unfold impl_TreeWorld_isDown_m at h
  conv => whnf
  obtain ⟨x1, hx1, h⟩ := bd_some h
  refine callC 0 (slices_Contains_int_int_c hx1) (by kernel_rfl) (by kernel_rfl) ?_
  clear hx1
  conv => whnf
  obtain rfl := Option.some.inj h
  exact ⟨_, LE.refl _, And.intro rfl trivial⟩

noncomputable def impl_TreeWorld_bridgeAt_m (a0 : TreeWorld) (a1 : Int) (a2 : Int) : Option (Int) :=
(if (a2 == 0) = true then
 gd ((0 : Int) ≤ a1 ∧ a1 < ((a0.Links.length : Nat) : Int)) <|
 some ((a0.Links.getD a1.toNat default).A)
else
 gd ((0 : Int) ≤ a1 ∧ a1 < ((a0.Links.length : Nat) : Int)) <|
 some ((a0.Links.getD a1.toNat default).B))

theorem impl_TreeWorld_bridgeAt_c {a0 : TreeWorld} {a1 : Int} {a2 : Int} {r : Int} (h : impl_TreeWorld_bridgeAt_m a0 a1 a2 = some r) : PureC Try.prog 100 [.rp [slD TreeBridge.enc a0.Bridges, slD TreeLink.enc a0.Links, slD encInt a0.Down, slD TreeSlot.enc a0.AtA, slD TreeSlot.enc a0.AtB, slD TreeWord.enc a0.Radio], .d (.int .i64 a1), .d (.int .i64 a2)] (.d (.int .i64 r)) [] := by
  refine pureC_m tOk (fn := Try.f100) (c := codeOf Try.f100) rfl rfl (by kernel_rfl) rfl rfl (by simp) (by simp) (ids_of rfl) ?_
  unfold impl_TreeWorld_bridgeAt_m at h
  conv => whnf
  refine seq_in tOk ?_
  conv => whnf
  refine And.intro (fun e => ?_) (fun e => ?_)
  · replace h := ite_t h e; clear e
    conv => whnf
    obtain ⟨g1, h⟩ := gd_some h
    refine And.intro g1 ?_
    clear g1
    conv => whnf
    obtain rfl := Option.some.inj h
    exact ⟨_, LE.refl _, And.intro rfl trivial⟩
  · replace h := ite_f h e; clear e
    conv => whnf
    obtain ⟨g2, h⟩ := gd_some h
    refine And.intro g2 ?_
    clear g2
    conv => whnf
    obtain rfl := Option.some.inj h
    exact ⟨_, LE.refl _, And.intro rfl trivial⟩

noncomputable def impl_TreeWorld_slotOk_m (a0 : TreeWorld) (a1 : Int) (a2 : Int) : Option (Bool) :=
 bd (impl_TreeWorld_slot_m a0 a1 a2) fun x1 =>
 bd (impl_TreeVectorOk_m x1.Vector) fun x2 =>
 bd (gcall ((!x2) = false) (impl_within_m x1.Left 0 3)) fun x3 =>
 bd (gcall (((!x2) || (!x3)) = false) (impl_TreeVector_nothing_m x1.Vector)) fun x4 =>
(if (((!x2) || (!x3)) || (!((x1.Left == 0) == x4))) = true then
 some false
else
 bd (impl_TreeVector_nothing_m x1.Vector) fun x5 =>
 bd (gcall (x5 = false) (impl_TreeWorld_isDown_m a0 a1)) fun x6 =>
 bd (gcall ((!x6) = true ∧ x5 = false) (impl_TreeWorld_bridgeAt_m a0 a1 a2)) fun x7 =>
 gd ((!x6) = true → (x5 = false → ((0 : Int) ≤ x7 ∧ x7 < ((a0.Bridges.length : Nat) : Int)))) <|
 some (x5 || ((!x6) && (a0.Bridges.getD x7.toNat default).Up)))

theorem impl_TreeWorld_slotOk_c {a0 : TreeWorld} {a1 : Int} {a2 : Int} {r : Bool} (h : impl_TreeWorld_slotOk_m a0 a1 a2 = some r) : PureC Try.prog 61 [.rp [slD TreeBridge.enc a0.Bridges, slD TreeLink.enc a0.Links, slD encInt a0.Down, slD TreeSlot.enc a0.AtA, slD TreeSlot.enc a0.AtB, slD TreeWord.enc a0.Radio], .d (.int .i64 a1), .d (.int .i64 a2)] (.d (.bool r)) [] := by
  refine pureC_m tOk (fn := Try.f61) (c := codeOf Try.f61) rfl rfl (by kernel_rfl) rfl rfl (by simp) (by simp) (ids_of rfl) ?_
  unfold impl_TreeWorld_slotOk_m at h
  conv => whnf
  obtain ⟨x1, hx1, h⟩ := bd_some h
  refine callE [] 0 (impl_TreeWorld_slot_c hx1) (by (repeat' first | ((conv => whnf); first | exact trivial | refine And.intro ?_ ?_ | exact BLe.refl _ | exact VLe.refl _) | exact trivial | refine And.intro ?_ ?_ | exact VLe.refl _ | exact VLe.any _ | exact VLe.nil_osl rfl | exact VLe.nil_sl rfl | exact VLe.built rfl rfl | (refine VLe.osl rfl ?_; (first | rfl | (simp; done) | assumption | (simp [dsub_eq] <;> omega) | omega)) | exact VLe.rows (by first | rfl | (simp; done) | assumption | (simp [dsub_eq] <;> omega) | omega) (fun _ _ => rfl) | exact VLe.rows (by simp [dsub_eq] <;> omega) rows_take | exact VLe.rows (by simp [dsub_eq] <;> omega) rows_dt | exact VLe.rows (by simp [dsub_eq] <;> omega) rows_vt | exact VLe.rows (by simp) (fun i _ => by simp [viewRow_eq, Nat.add_comm]) | refine VLe.aggL ?_)) (by (repeat' first | ((conv => whnf); first | exact trivial | refine And.intro ?_ ?_ | exact BLe.refl _ | exact VLe.refl _) | exact trivial | exact rfl | refine And.intro ?_ ?_ | exact BLe.refl _ | exact VLe.refl _ | exact VLe.any _ | exact VLe.nil_osl rfl | exact VLe.nil_sl rfl | exact VLe.built rfl rfl | (refine VLe.osl rfl ?_; (first | rfl | (simp; done) | assumption | (simp [dsub_eq] <;> omega) | omega)) | exact VLe.rows (by first | rfl | (simp; done) | assumption | (simp [dsub_eq] <;> omega) | omega) (fun _ _ => rfl) | exact VLe.rows (by simp [dsub_eq] <;> omega) rows_take | exact VLe.rows (by simp [dsub_eq] <;> omega) rows_dt | exact VLe.rows (by simp [dsub_eq] <;> omega) rows_vt | exact VLe.rows (by simp) (fun i _ => by simp [viewRow_eq, Nat.add_comm]) | refine VLe.aggL ?_ | (refine BLe.rows rfl ?_ fun _ _ => rfl; (first | rfl | (simp; done) | assumption | (simp [dsub_eq] <;> omega) | omega)) | refine BLe.box ?_ | (simp; done))) rfl rfl ?_
  conv => whnf
  refine seq_in tOk ?_
  conv => whnf
  obtain ⟨x2, hx2, h⟩ := bd_some h
  obtain ⟨x3, hx3, h⟩ := bd_some h
  obtain ⟨x4, hx4, h⟩ := bd_some h
  refine draw_k tOk (by kernel_rfl) (fun j => match j with | 2 => some (.pure 0 (.d (.bool x2)) []) | 7 => some (.pure 0 (.d (.bool x3)) []) | 16 => some (.pure 0 (.d (.bool x4)) []) | _ => none) 19 [] [[], [true], [true, true], [true, true, true], [true, true, true, true], [true, true, true, true, true], [true, true, true, true, true, true], [true, true, true, true, true, true, true], [true, true, true, true, true, true, true, true], [true, true, true, true, true, true, true, true, true], [true, true, true, true, true, true, true, true, true, true], [true, true, true, true, true, true, true, true, true, true, true], [true, true, true, true, true, true, true, true, true, true, true, true], [true, true, true, true, true, true, true, true, true, true, true, true, true], [true, true, true, true, true, true, true, true, true, true, true], [true, true, true, true, true, true, true, true, true, true, true, false, false, false, true], [true, true, true, true, true, true, true, true, true, true, true, false, false, false, true, true], [true, true, true, true, true, true, true, true, true, true, true, true, true, true, true, true, true], [true, true, true, true, true, true, true, true, true, true, true, true, true, true, true, true, true, true]] [] (by decide) (by kernel_rfl) (by kernel_rfl) ?_
  conv => whnf
  refine And.intro (callD_any (impl_TreeVectorOk_c hx2) (by kernel_rfl)) ?_
  conv => whnf
  refine And.intro (callDG_if rfl rfl rfl rfl (by intro c0; exact impl_within_c (gcall_some hx3 c0))) ?_
  conv => whnf
  refine And.intro (callDG_if rfl rfl rfl rfl (by intro c0; exact impl_TreeVector_nothing_c (gcall_some hx4 c0))) ?_
  conv => whnf
  refine And.intro (by kernel_rfl) ?_
  conv => whnf
  refine And.intro (fun e => ?_) (fun e => ?_)
  · replace h := ite_t h e; clear e
    conv => whnf
    obtain rfl := Option.some.inj h
    exact ⟨_, LE.refl _, And.intro rfl trivial⟩
  · replace h := ite_f h e; clear e
    conv => whnf
    obtain ⟨x5, hx5, h⟩ := bd_some h
    obtain ⟨x6, hx6, h⟩ := bd_some h
    obtain ⟨x7, hx7, h⟩ := bd_some h
    obtain ⟨g8, h⟩ := gd_some h
    refine draw_k tOk (by kernel_rfl) (fun j => match j with | 2 => some (.pure 0 (.d (.bool x5)) []) | 6 => some (.pure 0 (.d (.bool x6)) []) | 16 => some (.pure 0 (.d (.int .i64 x7)) []) | _ => none) 23 [] [[], [true], [true, true], [true, true, true], [true, true, true, true], [true, true, true, true], [true, true, true, true, true, true], [true, true, true, true, true, true, true], [true, true, true, true, true, true, true, true], [true, true, true, true, true, true, true, true, true], [true, true, true, true, true, true, true, true, true, true], [true, true, true, true, true, true, true, true, true, true, true], [true, true, true, true, true, true, true, true, true, true, true, true], [true, true, true, true, true, true, true, true, true], [true, true, true, true, true, true, true, true, true], [true, true, true, true, true, true, true, true, true], [true, true, true, true, true, true, true, true, true, false, false, false, false, true, true, true], [true, true, true, true, true, true, true, true, true, true, true, true, true, true, true, true, true], [true, true, true, true, true, true, true, true, true, true, true, true, true, true, true, true, true, true], [true, true, true, true, true, true, true, true, true, true, true, true, true, true, true, true, true, true, true], [true, true, true, true, true, true, true, true, true, true, true, true, true, true, true, true, true, true, true, true], [true, true, true, true, true, true, true, true, true, true, true, true, true, true, true, true, true, true, true, true, true], [true, true, true, true, true, true, true, true, true, true, true, true, true, true, true, true, true, true, true, true, true, true]] [] (by decide) (by kernel_rfl) (by kernel_rfl) ?_
    conv => whnf
    refine And.intro (callD_any (impl_TreeVector_nothing_c hx5) (by kernel_rfl)) ?_
    conv => whnf
    refine And.intro (callDG_if rfl rfl rfl rfl (by intro c0; exact impl_TreeWorld_isDown_c (gcall_some hx6 c0))) ?_
    conv => whnf
    refine And.intro (callDG_if rfl rfl rfl rfl (by intro c0 c1; exact impl_TreeWorld_bridgeAt_c (gcall_some hx7 ⟨c0, c1⟩))) ?_
    conv => whnf
    refine And.intro g8 ?_
    clear g8
    conv => whnf
    refine And.intro (by kernel_rfl) ?_
    conv => whnf
    obtain rfl := Option.some.inj h
    exact ⟨_, LE.refl _, And.intro rfl trivial⟩

noncomputable def impl_TreeWorldOk_1_m (a0 : TreeWord) (a1 : TreeWorld) : Option (Bool) :=
 bd (impl_TreeWorld_isLink_m a1 a0.Link) fun x1 =>
 bd (gcall ((!x1) = false) (impl_within_m a0.End 0 1)) fun x2 =>
 bd (gcall (((!x1) || (!x2)) = false) (impl_TreeVectorOk_m a0.Vector)) fun x3 =>
 bd (gcall ((((!x1) || (!x2)) || (!x3)) = false) (impl_TreeVector_nothing_m a0.Vector)) fun x4 =>
 some ((((!x1) || (!x2)) || (!x3)) || x4)

theorem impl_TreeWorldOk_1_c {a0 : TreeWord} {a1 : TreeWorld} {r : Bool} (h : impl_TreeWorldOk_1_m a0 a1 = some r) : PureC Try.prog 63 [.agg [.d (.int .i64 a0.Link), .d (.int .i64 a0.End), .d (.int .i64 a0.Vector.Root), .d (.int .i64 a0.Vector.Cost), .d (.int .i64 a0.Vector.Age)], .rp [slD TreeBridge.enc a1.Bridges, slD TreeLink.enc a1.Links, slD encInt a1.Down, slD TreeSlot.enc a1.AtA, slD TreeSlot.enc a1.AtB, slD TreeWord.enc a1.Radio]] (.d (.bool r)) [] := by
  refine pureC_m tOk (fn := Try.f63) (c := codeOf Try.f63) rfl rfl (by kernel_rfl) rfl rfl (by simp) (by simp) (ids_of rfl) ?_
  unfold impl_TreeWorldOk_1_m at h
  conv => whnf
  obtain ⟨x1, hx1, h⟩ := bd_some h
  refine callC 0 (impl_TreeWorld_isLink_c hx1) (by kernel_rfl) (by kernel_rfl) ?_
  clear hx1
  conv => whnf
  obtain ⟨x2, hx2, h⟩ := bd_some h
  refine callG_m rfl rfl rfl rfl rfl rfl (by intro c0; exact impl_within_c (gcall_some hx2 c0)) ?_
  conv => whnf
  obtain ⟨x3, hx3, h⟩ := bd_some h
  refine callG_m rfl rfl rfl rfl rfl rfl (by intro c0; exact impl_TreeVectorOk_c (gcall_some hx3 c0)) ?_
  conv => whnf
  obtain ⟨x4, hx4, h⟩ := bd_some h
  refine callG_m rfl rfl rfl rfl rfl rfl (by intro c0; exact impl_TreeVector_nothing_c (gcall_some hx4 c0)) ?_
  conv => whnf
  obtain rfl := Option.some.inj h
  exact ⟨_, LE.refl _, And.intro rfl trivial⟩

noncomputable def slices_IndexFunc_TreeWord_TreeWord_impl_TreeWorldOk_1_m (a0 : (List TreeWord)) (a1c0 : TreeWorld) : Option (Int) :=
 bd (lp (σ := Int) (β := (Int ⊕ Unit)) (fun s1 =>
(if (decide (s1 < ((a0.length : Nat) : Int))) = true then
 gd ((0 : Int) ≤ s1 ∧ s1 < ((a0.length : Nat) : Int)) <|
 bd (impl_TreeWorldOk_1_m ({ (a0.getD s1.toNat default) with Vector := ((a0.getD s1.toNat default).Vector) }) a1c0) fun x6 =>
(if x6 = true then
 some (.inr (.inl s1))
else
 some (.inl (IntKind.i64.wrap (s1 + 1))))
else
 some (.inr (.inr ())))) 0) fun x4 =>
(match x4 with
| .inl d7 =>
 some d7
| .inr d8 =>
 some (-1))

theorem slices_IndexFunc_TreeWord_TreeWord_impl_TreeWorldOk_1_c {a0 : (List TreeWord)} {a1c0 : TreeWorld} {r : Int} (h : slices_IndexFunc_TreeWord_TreeWord_impl_TreeWorldOk_1_m a0 a1c0 = some r) : PureC Try.prog 101 [.d (slD TreeWord.enc a0), .fn 63 [.rp [slD TreeBridge.enc a1c0.Bridges, slD TreeLink.enc a1c0.Links, slD encInt a1c0.Down, slD TreeSlot.enc a1c0.AtA, slD TreeSlot.enc a1c0.AtB, slD TreeWord.enc a1c0.Radio]]] (.d (.int .i64 r)) [] := by
  refine pureC_m tOk (fn := Try.f101) (c := codeOf Try.f101) rfl rfl (by kernel_rfl) rfl rfl (by simp) (by simp) (ids_of rfl) ?_
  unfold slices_IndexFunc_TreeWord_TreeWord_impl_TreeWorldOk_1_m at h
  conv => whnf
  refine seq_in tOk ?_
  conv => whnf
  obtain ⟨x4, hx4, h⟩ := bd_some h
  refine loop_m tOk hx4 (fun s1 => ⟨0, 19, [(0, .d (slD TreeWord.enc a0)), (1, .fn 63 [.rp [slD TreeBridge.enc a1c0.Bridges, slD TreeLink.enc a1c0.Links, slD encInt a1c0.Down, slD TreeSlot.enc a1c0.AtA, slD TreeSlot.enc a1c0.AtB, slD TreeWord.enc a1c0.Radio]]), (7, .d (.int .i64 ((a0.length : Nat) : Int))), (8, .d (.int .i64 s1))], [], [], []⟩) ?_ ?_
  · refine le_mk ?_ ?_ ?_ <;> (repeat' first | ((conv => whnf); first | exact trivial | refine And.intro ?_ ?_ | exact BLe.refl _ | exact VLe.refl _) | exact trivial | exact rfl | refine And.intro ?_ ?_ | exact BLe.refl _ | exact VLe.refl _ | exact VLe.any _ | exact VLe.nil_osl rfl | exact VLe.nil_sl rfl | exact VLe.built rfl rfl | (refine VLe.osl rfl ?_; (first | rfl | (simp; done) | assumption | (simp [dsub_eq] <;> omega) | omega)) | exact VLe.rows (by first | rfl | (simp; done) | assumption | (simp [dsub_eq] <;> omega) | omega) (fun _ _ => rfl) | exact VLe.rows (by simp [dsub_eq] <;> omega) rows_take | exact VLe.rows (by simp [dsub_eq] <;> omega) rows_dt | exact VLe.rows (by simp [dsub_eq] <;> omega) rows_vt | exact VLe.rows (by simp) (fun i _ => by simp [viewRow_eq, Nat.add_comm]) | refine VLe.aggL ?_ | (refine BLe.rows rfl ?_ fun _ _ => rfl; (first | rfl | (simp; done) | assumption | (simp [dsub_eq] <;> omega) | omega)) | (refine BLe.rows rfl rfl ?_; first | exact rows_take) | refine BLe.box ?_)
  · clear hx4
    intro s1 y2 g3 hy2
    conv => whnf
    refine seq_in tOk ?_
    conv => whnf
    refine And.intro (fun e => ?_) (fun e => ?_)
    · replace g3 := ite_t g3 e; clear e
      conv => whnf
      refine seq_in tOk ?_
      conv => whnf
      obtain ⟨g5, g3⟩ := gd_some g3
      refine And.intro g5 ?_
      clear g5
      conv => whnf
      obtain ⟨x6, hx6, g3⟩ := bd_some g3
      refine callC 0 (impl_TreeWorldOk_1_c hx6) (by kernel_rfl) (by kernel_rfl) ?_
      clear hx6
      conv => whnf
      refine And.intro (fun e => ?_) (fun e => ?_)
      · replace g3 := ite_t g3 e; clear e
        conv => whnf
        obtain rfl := Option.some.inj g3
        obtain rfl := hy2 _ rfl
        obtain rfl := Option.some.inj h
        exact ⟨_, LE.refl _, And.intro rfl trivial⟩
      · replace g3 := ite_f g3 e; clear e
        conv => whnf
        obtain rfl := Option.some.inj g3
        refine ⟨_, rfl, le_mk ?_ ?_ ?_⟩ <;> (repeat' first | ((conv => whnf); first | exact trivial | refine And.intro ?_ ?_ | exact BLe.refl _ | exact VLe.refl _) | exact trivial | exact rfl | refine And.intro ?_ ?_ | exact BLe.refl _ | exact VLe.refl _ | exact VLe.any _ | exact VLe.nil_osl rfl | exact VLe.nil_sl rfl | exact VLe.built rfl rfl | (refine VLe.osl rfl ?_; (first | rfl | (simp; done) | assumption | (simp [dsub_eq] <;> omega) | omega)) | exact VLe.rows (by first | rfl | (simp; done) | assumption | (simp [dsub_eq] <;> omega) | omega) (fun _ _ => rfl) | exact VLe.rows (by simp [dsub_eq] <;> omega) rows_take | exact VLe.rows (by simp [dsub_eq] <;> omega) rows_dt | exact VLe.rows (by simp [dsub_eq] <;> omega) rows_vt | exact VLe.rows (by simp) (fun i _ => by simp [viewRow_eq, Nat.add_comm]) | refine VLe.aggL ?_ | (refine BLe.rows rfl ?_ fun _ _ => rfl; (first | rfl | (simp; done) | assumption | (simp [dsub_eq] <;> omega) | omega)) | (refine BLe.rows rfl rfl ?_; first | exact rows_take) | refine BLe.box ?_)
    · replace g3 := ite_f g3 e; clear e
      conv => whnf
      obtain rfl := Option.some.inj g3
      obtain rfl := hy2 _ rfl
      obtain rfl := Option.some.inj h
      exact ⟨_, LE.refl _, And.intro rfl trivial⟩

noncomputable def slices_ContainsFunc_TreeWord_TreeWord_impl_TreeWorldOk_1_m (a0 : (List TreeWord)) (a1c0 : TreeWorld) : Option (Bool) :=
 bd (slices_IndexFunc_TreeWord_TreeWord_impl_TreeWorldOk_1_m a0 a1c0) fun x1 =>
 some (decide (x1 ≥ 0))

theorem slices_ContainsFunc_TreeWord_TreeWord_impl_TreeWorldOk_1_c {a0 : (List TreeWord)} {a1c0 : TreeWorld} {r : Bool} (h : slices_ContainsFunc_TreeWord_TreeWord_impl_TreeWorldOk_1_m a0 a1c0 = some r) : PureC Try.prog 62 [.d (slD TreeWord.enc a0), .fn 63 [.rp [slD TreeBridge.enc a1c0.Bridges, slD TreeLink.enc a1c0.Links, slD encInt a1c0.Down, slD TreeSlot.enc a1c0.AtA, slD TreeSlot.enc a1c0.AtB, slD TreeWord.enc a1c0.Radio]]] (.d (.bool r)) [] := by
  refine pureC_m tOk (fn := Try.f62) (c := codeOf Try.f62) rfl rfl (by kernel_rfl) rfl rfl (by simp) (by simp) (ids_of rfl) ?_
  unfold slices_ContainsFunc_TreeWord_TreeWord_impl_TreeWorldOk_1_m at h
  conv => whnf
  obtain ⟨x1, hx1, h⟩ := bd_some h
  refine callC 0 (slices_IndexFunc_TreeWord_TreeWord_impl_TreeWorldOk_1_c hx1) (by kernel_rfl) (by kernel_rfl) ?_
  clear hx1
  conv => whnf
  obtain rfl := Option.some.inj h
  exact ⟨_, LE.refl _, And.intro rfl trivial⟩

end Go.Proofs.Ytbolhcpkpncmfaa
