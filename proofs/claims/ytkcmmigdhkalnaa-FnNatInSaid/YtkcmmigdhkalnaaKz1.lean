/-
  What some of the program's functions compute: their models, and that the functions compute these; no condition.
-/
import Derived.Test.YtkcmmigdhkalnaaTyz
import Derived.Test.YtkcmmigdhkalnaaTbz
set_option linter.all false
namespace Go.Proofs.Ytkcmmigdhkalnaa
open Go Go.Ab
set_option maxRecDepth 100000
set_option maxHeartbeats 4000000
noncomputable def spec_l21Open_m (a0 : (List Int)) : Option (l21Rd) :=
(if (decide (((a0.length : Nat) : Int) > 2000)) = true then
 gd ((0 : Int) ≤ (0 : Int) ∧ (0 : Int) ≤ (2000 : Int) ∧ (2000 : Int) ≤ ((a0.length : Nat) : Int)) <|
 some (⟨a0.take ((2000 : Int).toNat), 0⟩ : l21Rd)
else
 some (⟨a0, 0⟩ : l21Rd))

theorem spec_l21Open_c {a0 : (List Int)} {r : l21Rd} (h : spec_l21Open_m a0 = some r) : EffC Try.prog 59 [.d (slD encByte a0)] [] (.ref 5001 0 0) [(5001, .box 104 [.d (slD encByte r.b), .d (.int .i64 r.p)])] := by
  refine effC_m tOk (fn := Try.f59) (c := codeOf Try.f59) rfl rfl (by kernel_rfl) rfl rfl rfl rfl ?_
  unfold spec_l21Open_m at h
  conv => whnf
  refine seq_in tOk ?_
  conv => whnf
  refine And.intro (fun e => ?_) (fun e => ?_)
  · replace h := ite_t h e; clear e
    conv => whnf
    obtain ⟨g1, h⟩ := gd_some h
    refine And.intro ⟨g1, .inr rfl⟩ ?_
    conv => whnf
    obtain rfl := Option.some.inj h
    refine ⟨⟨0, 11, [(2, .ref 5001 0 0)], [], [(5001, .box 104 [.d (slD encByte (a0.take ((2000 : Int).toNat))), .d (.int .i64 0)])], [⟨[], []⟩]⟩, ?_, And.intro rfl (And.intro ?_ ?_)⟩
    · refine LE.trans (S' := ⟨0, 11, [(2, .ref 10 0 0)], [], [(10, .box 104 [.d (.sl ((2000 : Int).toNat) (rows encByte a0)), .d (.int .i64 0)])], [⟨[], []⟩]⟩) (le_mk ?_ ?_ ?_) (LE.trans (S' := ⟨0, 11, [(2, .ref 5001 0 0)], [], [(5001, .box 104 [.d (.sl ((2000 : Int).toNat) (rows encByte a0)), .d (.int .i64 0)])], [⟨[], []⟩]⟩) (le_swaps [(10, 5001)] rfl) (le_mk ?_ ?_ ?_)) <;> (repeat' first | ((conv => whnf); first | exact trivial | refine And.intro ?_ ?_ | exact BLe.refl _ | exact VLe.refl _) | exact trivial | exact rfl | refine And.intro ?_ ?_ | exact BLe.refl _ | exact VLe.refl _ | exact VLe.any _ | exact VLe.nil_osl rfl | exact VLe.nil_sl rfl | exact VLe.built rfl rfl | (refine VLe.osl rfl ?_; (first | rfl | (simp; done) | assumption | (simp [dsub_eq] <;> omega) | omega)) | exact VLe.rows (by first | rfl | (simp; done) | assumption | (simp [dsub_eq] <;> omega) | omega) (fun _ _ => rfl) | exact VLe.rows (by simp [dsub_eq] <;> omega) rows_take | exact VLe.rows (by simp [dsub_eq] <;> omega) rows_dt | exact VLe.rows (by simp [dsub_eq] <;> omega) rows_vt | exact VLe.rows (by simp) (fun i _ => by simp [viewRow_eq, Nat.add_comm]) | refine VLe.aggL ?_ | (refine BLe.rows rfl ?_ fun _ _ => rfl; (first | rfl | (simp; done) | assumption | (simp [dsub_eq] <;> omega) | omega)) | (refine BLe.rows rfl rfl ?_; first | exact rows_take) | refine BLe.box ?_)
    · (repeat' first | ((conv => whnf); first | exact trivial | refine And.intro ?_ ?_ | exact BLe.refl _ | exact VLe.refl _) | exact trivial | exact rfl | refine And.intro ?_ ?_ | exact BLe.refl _ | exact VLe.refl _ | exact VLe.any _ | exact VLe.nil_osl rfl | exact VLe.nil_sl rfl | exact VLe.built rfl rfl | (refine VLe.osl rfl ?_; (first | rfl | (simp; done) | assumption | (simp [dsub_eq] <;> omega) | omega)) | exact VLe.rows (by first | rfl | (simp; done) | assumption | (simp [dsub_eq] <;> omega) | omega) (fun _ _ => rfl) | exact VLe.rows (by simp [dsub_eq] <;> omega) rows_take | exact VLe.rows (by simp [dsub_eq] <;> omega) rows_dt | exact VLe.rows (by simp [dsub_eq] <;> omega) rows_vt | exact VLe.rows (by simp) (fun i _ => by simp [viewRow_eq, Nat.add_comm]) | refine VLe.aggL ?_ | (refine BLe.rows rfl ?_ fun _ _ => rfl; (first | rfl | (simp; done) | assumption | (simp [dsub_eq] <;> omega) | omega)) | refine BLe.box ?_ | (simp; done))
    · (repeat' first | ((conv => whnf); first | exact trivial | refine And.intro ?_ ?_ | exact BLe.refl _ | exact VLe.refl _) | exact trivial | exact rfl | refine And.intro ?_ ?_ | exact BLe.refl _ | exact VLe.refl _ | exact VLe.any _ | exact VLe.nil_osl rfl | exact VLe.nil_sl rfl | exact VLe.built rfl rfl | (refine VLe.osl rfl ?_; (first | rfl | (simp; done) | assumption | (simp [dsub_eq] <;> omega) | omega)) | exact VLe.rows (by first | rfl | (simp; done) | assumption | (simp [dsub_eq] <;> omega) | omega) (fun _ _ => rfl) | exact VLe.rows (by simp [dsub_eq] <;> omega) rows_take | exact VLe.rows (by simp [dsub_eq] <;> omega) rows_dt | exact VLe.rows (by simp [dsub_eq] <;> omega) rows_vt | exact VLe.rows (by simp) (fun i _ => by simp [viewRow_eq, Nat.add_comm]) | refine VLe.aggL ?_ | (refine BLe.rows rfl ?_ fun _ _ => rfl; (first | rfl | (simp; done) | assumption | (simp [dsub_eq] <;> omega) | omega)) | refine BLe.box ?_ | (simp; done))
  · replace h := ite_f h e; clear e
    conv => whnf
    obtain rfl := Option.some.inj h
    refine ⟨⟨0, 11, [(2, .ref 5001 0 0)], [], [(5001, .box 104 [.d (slD encByte a0), .d (.int .i64 0)])], [⟨[], []⟩]⟩, ?_, And.intro rfl (And.intro ?_ ?_)⟩
    · refine LE.trans (S' := ⟨0, 11, [(2, .ref 10 0 0)], [], [(10, .box 104 [.d (slD encByte a0), .d (.int .i64 0)])], [⟨[], []⟩]⟩) (le_mk ?_ ?_ ?_) (le_swaps [(10, 5001)] rfl) <;> (repeat' first | ((conv => whnf); first | exact trivial | refine And.intro ?_ ?_ | exact BLe.refl _ | exact VLe.refl _) | exact trivial | exact rfl | refine And.intro ?_ ?_ | exact BLe.refl _ | exact VLe.refl _ | exact VLe.any _ | exact VLe.nil_osl rfl | exact VLe.nil_sl rfl | exact VLe.built rfl rfl | (refine VLe.osl rfl ?_; (first | rfl | (simp; done) | assumption | (simp [dsub_eq] <;> omega) | omega)) | exact VLe.rows (by first | rfl | (simp; done) | assumption | (simp [dsub_eq] <;> omega) | omega) (fun _ _ => rfl) | exact VLe.rows (by simp [dsub_eq] <;> omega) rows_take | exact VLe.rows (by simp [dsub_eq] <;> omega) rows_dt | exact VLe.rows (by simp [dsub_eq] <;> omega) rows_vt | exact VLe.rows (by simp) (fun i _ => by simp [viewRow_eq, Nat.add_comm]) | refine VLe.aggL ?_ | (refine BLe.rows rfl ?_ fun _ _ => rfl; (first | rfl | (simp; done) | assumption | (simp [dsub_eq] <;> omega) | omega)) | (refine BLe.rows rfl rfl ?_; first | exact rows_take) | refine BLe.box ?_)
    · (repeat' first | ((conv => whnf); first | exact trivial | refine And.intro ?_ ?_ | exact BLe.refl _ | exact VLe.refl _) | exact trivial | exact rfl | refine And.intro ?_ ?_ | exact BLe.refl _ | exact VLe.refl _ | exact VLe.any _ | exact VLe.nil_osl rfl | exact VLe.nil_sl rfl | exact VLe.built rfl rfl | (refine VLe.osl rfl ?_; (first | rfl | (simp; done) | assumption | (simp [dsub_eq] <;> omega) | omega)) | exact VLe.rows (by first | rfl | (simp; done) | assumption | (simp [dsub_eq] <;> omega) | omega) (fun _ _ => rfl) | exact VLe.rows (by simp [dsub_eq] <;> omega) rows_take | exact VLe.rows (by simp [dsub_eq] <;> omega) rows_dt | exact VLe.rows (by simp [dsub_eq] <;> omega) rows_vt | exact VLe.rows (by simp) (fun i _ => by simp [viewRow_eq, Nat.add_comm]) | refine VLe.aggL ?_ | (refine BLe.rows rfl ?_ fun _ _ => rfl; (first | rfl | (simp; done) | assumption | (simp [dsub_eq] <;> omega) | omega)) | refine BLe.box ?_ | (simp; done))
    · (repeat' first | ((conv => whnf); first | exact trivial | refine And.intro ?_ ?_ | exact BLe.refl _ | exact VLe.refl _) | exact trivial | exact rfl | refine And.intro ?_ ?_ | exact BLe.refl _ | exact VLe.refl _ | exact VLe.any _ | exact VLe.nil_osl rfl | exact VLe.nil_sl rfl | exact VLe.built rfl rfl | (refine VLe.osl rfl ?_; (first | rfl | (simp; done) | assumption | (simp [dsub_eq] <;> omega) | omega)) | exact VLe.rows (by first | rfl | (simp; done) | assumption | (simp [dsub_eq] <;> omega) | omega) (fun _ _ => rfl) | exact VLe.rows (by simp [dsub_eq] <;> omega) rows_take | exact VLe.rows (by simp [dsub_eq] <;> omega) rows_dt | exact VLe.rows (by simp [dsub_eq] <;> omega) rows_vt | exact VLe.rows (by simp) (fun i _ => by simp [viewRow_eq, Nat.add_comm]) | refine VLe.aggL ?_ | (refine BLe.rows rfl ?_ fun _ _ => rfl; (first | rfl | (simp; done) | assumption | (simp [dsub_eq] <;> omega) | omega)) | refine BLe.box ?_ | (simp; done))

noncomputable def spec_l21Rd_pick_m (a0 : l21Rd) (a1 : Int) : Option (Int × l21Rd) :=
(if ((decide (a1 < 1)) || (((a0.b.length : Nat) : Int) == 0)) = true then
 some (0, (⟨a0.b, IntKind.i64.wrap (a0.p + 1)⟩ : l21Rd))
else
(if (decide ((IntKind.i64.wrap ((IntKind.i64.wrap (a0.p + 1)) - 1)) < ((a0.b.length : Nat) : Int))) = true then
 gd ((0 : Int) ≤ IntKind.i64.wrap ((IntKind.i64.wrap (a0.p + 1)) - 1) ∧ IntKind.i64.wrap ((IntKind.i64.wrap (a0.p + 1)) - 1) < ((a0.b.length : Nat) : Int)) <|
 gd ((a1 : Int) ≠ 0) <|
 some (((IntKind.i64.wrap (a0.b.getD ((IntKind.i64.wrap ((IntKind.i64.wrap (a0.p + 1)) - 1)).toNat) default) : Int).tmod a1), (⟨a0.b, IntKind.i64.wrap (a0.p + 1)⟩ : l21Rd))
else
 gd ((((a0.b.length : Nat) : Int) : Int) ≠ 0) <|
 gd ((0 : Int) ≤ ((IntKind.i64.wrap ((IntKind.i64.wrap (a0.p + 1)) - 1) : Int).tmod ((a0.b.length : Nat) : Int)) ∧ ((IntKind.i64.wrap ((IntKind.i64.wrap (a0.p + 1)) - 1) : Int).tmod ((a0.b.length : Nat) : Int)) < ((a0.b.length : Nat) : Int)) <|
 gd ((((a0.b.length : Nat) : Int) : Int) ≠ 0) <|
 gd ((0 : Int) ≤ ((IntKind.i64.wrap ((IntKind.i64.wrap ((IntKind.i64.wrap ((IntKind.i64.wrap (a0.p + 1)) - 1)) * 7)) + 3) : Int).tmod ((a0.b.length : Nat) : Int)) ∧ ((IntKind.i64.wrap ((IntKind.i64.wrap ((IntKind.i64.wrap ((IntKind.i64.wrap (a0.p + 1)) - 1)) * 7)) + 3) : Int).tmod ((a0.b.length : Nat) : Int)) < ((a0.b.length : Nat) : Int)) <|
 gd ((((a0.b.length : Nat) : Int) : Int) ≠ 0) <|
 gd ((64 : Int) ≠ 0) <|
 gd ((a1 : Int) ≠ 0) <|
 some ((((bits .xor .i64 (IntKind.i64.wrap ((IntKind.i64.wrap ((IntKind.i64.wrap ((IntKind.i64.wrap ((IntKind.i64.wrap (a0.b.getD (((IntKind.i64.wrap ((IntKind.i64.wrap (a0.p + 1)) - 1) : Int).tmod ((a0.b.length : Nat) : Int)).toNat) default)) * 131)) + (IntKind.i64.wrap ((IntKind.i64.wrap (a0.b.getD (((IntKind.i64.wrap ((IntKind.i64.wrap ((IntKind.i64.wrap ((IntKind.i64.wrap (a0.p + 1)) - 1)) * 7)) + 3) : Int).tmod ((a0.b.length : Nat) : Int)).toNat) default)) * 1117)))) + (IntKind.i64.wrap ((IntKind.i64.wrap ((IntKind.i64.wrap (a0.p + 1)) - 1)) * 29)))) + (IntKind.i64.wrap ((IntKind.i64.wrap ((IntKind.i64.wrap ((IntKind.i64.wrap (a0.p + 1)) - 1) : Int).tdiv ((a0.b.length : Nat) : Int))) * 53)))) (IntKind.i64.wrap ((IntKind.i64.wrap ((IntKind.i64.wrap ((IntKind.i64.wrap ((IntKind.i64.wrap ((IntKind.i64.wrap (a0.b.getD (((IntKind.i64.wrap ((IntKind.i64.wrap (a0.p + 1)) - 1) : Int).tmod ((a0.b.length : Nat) : Int)).toNat) default)) * 131)) + (IntKind.i64.wrap ((IntKind.i64.wrap (a0.b.getD (((IntKind.i64.wrap ((IntKind.i64.wrap ((IntKind.i64.wrap ((IntKind.i64.wrap (a0.p + 1)) - 1)) * 7)) + 3) : Int).tmod ((a0.b.length : Nat) : Int)).toNat) default)) * 1117)))) + (IntKind.i64.wrap ((IntKind.i64.wrap ((IntKind.i64.wrap (a0.p + 1)) - 1)) * 29)))) + (IntKind.i64.wrap ((IntKind.i64.wrap ((IntKind.i64.wrap ((IntKind.i64.wrap (a0.p + 1)) - 1) : Int).tdiv ((a0.b.length : Nat) : Int))) * 53))) : Int).tdiv 64))) : Int).tmod a1), (⟨a0.b, IntKind.i64.wrap (a0.p + 1)⟩ : l21Rd))))

theorem spec_l21Rd_pick_c {a0 : l21Rd} {a1 : Int} {r : Int × l21Rd} (h : spec_l21Rd_pick_m a0 a1 = some r) : EffC Try.prog 62 [.ref 9000 0 0, .d (.int .i64 a1)] [(9000, .box 104 [.d (slD encByte a0.b), .d (.int .i64 a0.p)])] (.d (.int .i64 r.1)) [(9000, .box 104 [.d (slD encByte a0.b), .d (.int .i64 r.2.p)])] := by
  refine effC_m tOk (fn := Try.f62) (c := codeOf Try.f62) rfl rfl (by kernel_rfl) rfl rfl rfl rfl ?_
  unfold spec_l21Rd_pick_m at h
  conv => whnf
  refine seq_in tOk ?_
  conv => whnf
  refine And.intro (fun e => ?_) (fun e => ?_)
  · replace h := ite_t h e; clear e
    conv => whnf
    obtain rfl := Option.some.inj h
    refine ⟨⟨0, 99, [(4, .d (.int .i64 0))], [], [(9000, .box 104 [.d (slD encByte a0.b), .d (.int .i64 (IntKind.i64.wrap (a0.p + 1)))])], [⟨[(0, .ref 9000 0 0)], []⟩]⟩, ?_, And.intro rfl (And.intro ?_ ?_)⟩
    · refine le_mk ?_ ?_ ?_ <;> (repeat' first | ((conv => whnf); first | exact trivial | refine And.intro ?_ ?_ | exact BLe.refl _ | exact VLe.refl _) | exact trivial | exact rfl | refine And.intro ?_ ?_ | exact BLe.refl _ | exact VLe.refl _ | exact VLe.any _ | exact VLe.nil_osl rfl | exact VLe.nil_sl rfl | exact VLe.built rfl rfl | (refine VLe.osl rfl ?_; (first | rfl | (simp; done) | assumption | (simp [dsub_eq] <;> omega) | omega)) | exact VLe.rows (by first | rfl | (simp; done) | assumption | (simp [dsub_eq] <;> omega) | omega) (fun _ _ => rfl) | exact VLe.rows (by simp [dsub_eq] <;> omega) rows_take | exact VLe.rows (by simp [dsub_eq] <;> omega) rows_dt | exact VLe.rows (by simp [dsub_eq] <;> omega) rows_vt | exact VLe.rows (by simp) (fun i _ => by simp [viewRow_eq, Nat.add_comm]) | refine VLe.aggL ?_ | (refine BLe.rows rfl ?_ fun _ _ => rfl; (first | rfl | (simp; done) | assumption | (simp [dsub_eq] <;> omega) | omega)) | (refine BLe.rows rfl rfl ?_; first | exact rows_take) | refine BLe.box ?_)
    · (repeat' first | ((conv => whnf); first | exact trivial | refine And.intro ?_ ?_ | exact BLe.refl _ | exact VLe.refl _) | exact trivial | exact rfl | refine And.intro ?_ ?_ | exact BLe.refl _ | exact VLe.refl _ | exact VLe.any _ | exact VLe.nil_osl rfl | exact VLe.nil_sl rfl | exact VLe.built rfl rfl | (refine VLe.osl rfl ?_; (first | rfl | (simp; done) | assumption | (simp [dsub_eq] <;> omega) | omega)) | exact VLe.rows (by first | rfl | (simp; done) | assumption | (simp [dsub_eq] <;> omega) | omega) (fun _ _ => rfl) | exact VLe.rows (by simp [dsub_eq] <;> omega) rows_take | exact VLe.rows (by simp [dsub_eq] <;> omega) rows_dt | exact VLe.rows (by simp [dsub_eq] <;> omega) rows_vt | exact VLe.rows (by simp) (fun i _ => by simp [viewRow_eq, Nat.add_comm]) | refine VLe.aggL ?_ | (refine BLe.rows rfl ?_ fun _ _ => rfl; (first | rfl | (simp; done) | assumption | (simp [dsub_eq] <;> omega) | omega)) | refine BLe.box ?_ | (simp; done))
    · (repeat' first | ((conv => whnf); first | exact trivial | refine And.intro ?_ ?_ | exact BLe.refl _ | exact VLe.refl _) | exact trivial | exact rfl | refine And.intro ?_ ?_ | exact BLe.refl _ | exact VLe.refl _ | exact VLe.any _ | exact VLe.nil_osl rfl | exact VLe.nil_sl rfl | exact VLe.built rfl rfl | (refine VLe.osl rfl ?_; (first | rfl | (simp; done) | assumption | (simp [dsub_eq] <;> omega) | omega)) | exact VLe.rows (by first | rfl | (simp; done) | assumption | (simp [dsub_eq] <;> omega) | omega) (fun _ _ => rfl) | exact VLe.rows (by simp [dsub_eq] <;> omega) rows_take | exact VLe.rows (by simp [dsub_eq] <;> omega) rows_dt | exact VLe.rows (by simp [dsub_eq] <;> omega) rows_vt | exact VLe.rows (by simp) (fun i _ => by simp [viewRow_eq, Nat.add_comm]) | refine VLe.aggL ?_ | (refine BLe.rows rfl ?_ fun _ _ => rfl; (first | rfl | (simp; done) | assumption | (simp [dsub_eq] <;> omega) | omega)) | refine BLe.box ?_ | (simp; done))
  · replace h := ite_f h e; clear e
    conv => whnf
    refine seq_in tOk ?_
    conv => whnf
    refine And.intro (fun e => ?_) (fun e => ?_)
    · replace h := ite_t h e; clear e
      conv => whnf
      obtain ⟨g1, h⟩ := gd_some h
      refine And.intro g1 ?_
      clear g1
      conv => whnf
      obtain ⟨g2, h⟩ := gd_some h
      refine And.intro g2 ?_
      clear g2
      conv => whnf
      obtain rfl := Option.some.inj h
      refine ⟨⟨0, 99, [(4, .d (.int .i64 ((IntKind.i64.wrap (a0.b.getD ((IntKind.i64.wrap ((IntKind.i64.wrap (a0.p + 1)) - 1)).toNat) default) : Int).tmod a1)))], [], [(9000, .box 104 [.d (slD encByte a0.b), .d (.int .i64 (IntKind.i64.wrap (a0.p + 1)))])], [⟨[(0, .ref 9000 0 0)], []⟩]⟩, ?_, And.intro rfl (And.intro ?_ ?_)⟩
      · refine le_mk ?_ ?_ ?_ <;> (repeat' first | ((conv => whnf); first | exact trivial | refine And.intro ?_ ?_ | exact BLe.refl _ | exact VLe.refl _) | exact trivial | exact rfl | refine And.intro ?_ ?_ | exact BLe.refl _ | exact VLe.refl _ | exact VLe.any _ | exact VLe.nil_osl rfl | exact VLe.nil_sl rfl | exact VLe.built rfl rfl | (refine VLe.osl rfl ?_; (first | rfl | (simp; done) | assumption | (simp [dsub_eq] <;> omega) | omega)) | exact VLe.rows (by first | rfl | (simp; done) | assumption | (simp [dsub_eq] <;> omega) | omega) (fun _ _ => rfl) | exact VLe.rows (by simp [dsub_eq] <;> omega) rows_take | exact VLe.rows (by simp [dsub_eq] <;> omega) rows_dt | exact VLe.rows (by simp [dsub_eq] <;> omega) rows_vt | exact VLe.rows (by simp) (fun i _ => by simp [viewRow_eq, Nat.add_comm]) | refine VLe.aggL ?_ | (refine BLe.rows rfl ?_ fun _ _ => rfl; (first | rfl | (simp; done) | assumption | (simp [dsub_eq] <;> omega) | omega)) | (refine BLe.rows rfl rfl ?_; first | exact rows_take) | refine BLe.box ?_)
      · (repeat' first | ((conv => whnf); first | exact trivial | refine And.intro ?_ ?_ | exact BLe.refl _ | exact VLe.refl _) | exact trivial | exact rfl | refine And.intro ?_ ?_ | exact BLe.refl _ | exact VLe.refl _ | exact VLe.any _ | exact VLe.nil_osl rfl | exact VLe.nil_sl rfl | exact VLe.built rfl rfl | (refine VLe.osl rfl ?_; (first | rfl | (simp; done) | assumption | (simp [dsub_eq] <;> omega) | omega)) | exact VLe.rows (by first | rfl | (simp; done) | assumption | (simp [dsub_eq] <;> omega) | omega) (fun _ _ => rfl) | exact VLe.rows (by simp [dsub_eq] <;> omega) rows_take | exact VLe.rows (by simp [dsub_eq] <;> omega) rows_dt | exact VLe.rows (by simp [dsub_eq] <;> omega) rows_vt | exact VLe.rows (by simp) (fun i _ => by simp [viewRow_eq, Nat.add_comm]) | refine VLe.aggL ?_ | (refine BLe.rows rfl ?_ fun _ _ => rfl; (first | rfl | (simp; done) | assumption | (simp [dsub_eq] <;> omega) | omega)) | refine BLe.box ?_ | (simp; done))
      · (repeat' first | ((conv => whnf); first | exact trivial | refine And.intro ?_ ?_ | exact BLe.refl _ | exact VLe.refl _) | exact trivial | exact rfl | refine And.intro ?_ ?_ | exact BLe.refl _ | exact VLe.refl _ | exact VLe.any _ | exact VLe.nil_osl rfl | exact VLe.nil_sl rfl | exact VLe.built rfl rfl | (refine VLe.osl rfl ?_; (first | rfl | (simp; done) | assumption | (simp [dsub_eq] <;> omega) | omega)) | exact VLe.rows (by first | rfl | (simp; done) | assumption | (simp [dsub_eq] <;> omega) | omega) (fun _ _ => rfl) | exact VLe.rows (by simp [dsub_eq] <;> omega) rows_take | exact VLe.rows (by simp [dsub_eq] <;> omega) rows_dt | exact VLe.rows (by simp [dsub_eq] <;> omega) rows_vt | exact VLe.rows (by simp) (fun i _ => by simp [viewRow_eq, Nat.add_comm]) | refine VLe.aggL ?_ | (refine BLe.rows rfl ?_ fun _ _ => rfl; (first | rfl | (simp; done) | assumption | (simp [dsub_eq] <;> omega) | omega)) | refine BLe.box ?_ | (simp; done))
    · replace h := ite_f h e; clear e
      conv => whnf
      obtain ⟨g3, h⟩ := gd_some h
      obtain ⟨g4, h⟩ := gd_some h
      obtain ⟨g5, h⟩ := gd_some h
      obtain ⟨g6, h⟩ := gd_some h
      obtain ⟨g7, h⟩ := gd_some h
      refine draw_k tOk (by kernel_rfl) (fun _ => none) 46 [] [[], [true], [true, true], [true, true, true], [], [], [false, false, false, false, false, true], [false, false, false, false, false, true, true], [false, false, false, false, false, true, true, true], [false, false, false, false, false, true, true, true, true], [false, false, false, false, true, true, true, true, true, true], [true, true, true, true, true, true, true, true, true, true, true], [true, true, true, true, true, true, true, true, true, true, true, true], [true, true, true, true, true, true, true, true, true, true, true, true, true], [true, true, true, true, true, true, true, true, true, true, true, true, true, true], [], [false, false, false, false, false, false, false, false, false, false, false, false, false, false, false, true], [false, false, false, false, false, false, false, false, false, false, false, false, false, false, false, true, true], [false, false, false, false, false, false, false, false, false, false, false, false, false, false, false, true, true, true], [], [false, false, false, false, false, false, false, false, false, false, false, false, false, false, false, false, false, false, false, true], [false, false, false, false, false, false, false, false, false, false, false, false, false, false, false, false, false, false, false, true, true], [], [false, false, false, false, false, false, false, false, false, false, false, false, false, false, false, false, false, false, false, false, false, false, true], [false, false, false, false, false, false, false, false, false, false, false, false, false, false, false, false, false, false, false, false, false, false, true, true], [false, false, false, false, false, false, false, false, false, false, false, false, false, false, false, false, false, false, false, false, false, false, true, true, true], [false, false, false, false, false, false, false, false, false, false, false, false, false, false, false, false, false, false, false, false, false, false, true, true, true, true], [false, false, false, false, false, false, false, false, false, false, false, false, false, false, false, false, false, false, false, true, true, true, true, true, true, true, true], [false, false, false, false, false, false, false, false, false, false, false, false, false, false, false, true, true, true, true, true, true, true, true, true, true, true, true, true], [false, false, false, false, false, false, false, false, false, false, false, false, false, false, false, true, true, true, true, true, true, true, true, true, true, true, true, true, true], [false, false, false, false, false, false, false, false, false, false, false, false, false, false, false, true, true, true, true, true, true, true, true, true, true, true, true, true, true, true], [false, false, false, false, false, false, false, false, false, false, false, false, false, false, false, true, true, true, true, true, true, true, true, true, true, true, true, true, true, true, true], [true, true, true, true, true, true, true, true, true, true, true, true, true, true, true, true, true, true, true, true, true, true, true, true, true, true, true, true, true, true, true, true], [], [false, false, false, false, false, false, false, false, false, false, false, false, false, false, false, false, false, false, false, false, false, false, false, false, false, false, false, false, false, false, false, false, false, true], [true, true, true, true, true, true, true, true, true, true, true, true, true, true, true, true, true, true, true, true, true, true, true, true, true, true, true, true, true, true, true, true, true, true, true], [], [], [false, false, false, false, false, false, false, false, false, false, false, false, false, false, false, false, false, false, false, false, false, false, false, false, false, false, false, false, false, false, false, false, false, false, false, false, false, true], [false, false, false, false, false, false, false, false, false, false, false, false, false, false, false, false, false, false, false, false, false, false, false, false, false, false, false, false, false, false, false, false, false, false, false, false, false, true, true], [false, false, false, false, false, false, false, false, false, false, false, false, false, false, false, false, false, false, false, false, false, false, false, false, false, false, false, false, false, false, false, false, false, false, false, false, false, true, true, true], [false, false, false, false, false, false, false, false, false, false, false, false, false, false, false, false, false, false, false, false, false, false, false, false, false, false, false, false, false, false, false, false, false, false, false, false, false, true, true, true, true], [false, false, false, false, false, false, false, false, false, false, false, false, false, false, false, false, false, false, false, false, false, false, false, false, false, false, false, false, false, false, false, false, false, false, false, false, true, true, true, true, true, true], [false, false, false, false, false, false, false, false, false, false, false, false, false, false, false, false, false, false, false, false, false, false, false, false, false, false, false, false, false, false, false, false, false, false, false, false, true, true, true, true, true, true, true], [true, true, true, true, true, true, true, true, true, true, true, true, true, true, true, true, true, true, true, true, true, true, true, true, true, true, true, true, true, true, true, true, true, true, true, true, true, true, true, true, true, true, true, true], [true, true, true, true, true, true, true, true, true, true, true, true, true, true, true, true, true, true, true, true, true, true, true, true, true, true, true, true, true, true, true, true, true, true, true, true, true, true, true, true, true, true, true, true, true]] [] (by decide) (by kernel_rfl) (by kernel_rfl) ?_
      conv => whnf
      refine And.intro g3 ?_
      clear g3
      conv => whnf
      refine And.intro g4 ?_
      clear g4
      conv => whnf
      refine And.intro g5 ?_
      clear g5
      conv => whnf
      refine And.intro g6 ?_
      clear g6
      conv => whnf
      refine And.intro g7 ?_
      clear g7
      conv => whnf
      refine And.intro (by kernel_rfl) ?_
      conv => whnf
      obtain ⟨g8, h⟩ := gd_some h
      refine And.intro g8 ?_
      clear g8
      conv => whnf
      obtain ⟨g9, h⟩ := gd_some h
      refine And.intro g9 ?_
      clear g9
      conv => whnf
      obtain rfl := Option.some.inj h
      refine ⟨⟨0, 99, [(4, .d (.int .i64 (((bits .xor .i64 (IntKind.i64.wrap ((IntKind.i64.wrap ((IntKind.i64.wrap ((IntKind.i64.wrap ((IntKind.i64.wrap (a0.b.getD (((IntKind.i64.wrap ((IntKind.i64.wrap (a0.p + 1)) - 1) : Int).tmod ((a0.b.length : Nat) : Int)).toNat) default)) * 131)) + (IntKind.i64.wrap ((IntKind.i64.wrap (a0.b.getD (((IntKind.i64.wrap ((IntKind.i64.wrap ((IntKind.i64.wrap ((IntKind.i64.wrap (a0.p + 1)) - 1)) * 7)) + 3) : Int).tmod ((a0.b.length : Nat) : Int)).toNat) default)) * 1117)))) + (IntKind.i64.wrap ((IntKind.i64.wrap ((IntKind.i64.wrap (a0.p + 1)) - 1)) * 29)))) + (IntKind.i64.wrap ((IntKind.i64.wrap ((IntKind.i64.wrap ((IntKind.i64.wrap (a0.p + 1)) - 1) : Int).tdiv ((a0.b.length : Nat) : Int))) * 53)))) (IntKind.i64.wrap ((IntKind.i64.wrap ((IntKind.i64.wrap ((IntKind.i64.wrap ((IntKind.i64.wrap ((IntKind.i64.wrap (a0.b.getD (((IntKind.i64.wrap ((IntKind.i64.wrap (a0.p + 1)) - 1) : Int).tmod ((a0.b.length : Nat) : Int)).toNat) default)) * 131)) + (IntKind.i64.wrap ((IntKind.i64.wrap (a0.b.getD (((IntKind.i64.wrap ((IntKind.i64.wrap ((IntKind.i64.wrap ((IntKind.i64.wrap (a0.p + 1)) - 1)) * 7)) + 3) : Int).tmod ((a0.b.length : Nat) : Int)).toNat) default)) * 1117)))) + (IntKind.i64.wrap ((IntKind.i64.wrap ((IntKind.i64.wrap (a0.p + 1)) - 1)) * 29)))) + (IntKind.i64.wrap ((IntKind.i64.wrap ((IntKind.i64.wrap ((IntKind.i64.wrap (a0.p + 1)) - 1) : Int).tdiv ((a0.b.length : Nat) : Int))) * 53))) : Int).tdiv 64))) : Int).tmod a1)))], [], [(9000, .box 104 [.d (slD encByte a0.b), .d (.int .i64 (IntKind.i64.wrap (a0.p + 1)))])], [⟨[(0, .ref 9000 0 0)], []⟩]⟩, ?_, And.intro rfl (And.intro ?_ ?_)⟩
      · refine le_mk ?_ ?_ ?_ <;> (repeat' first | ((conv => whnf); first | exact trivial | refine And.intro ?_ ?_ | exact BLe.refl _ | exact VLe.refl _) | exact trivial | exact rfl | refine And.intro ?_ ?_ | exact BLe.refl _ | exact VLe.refl _ | exact VLe.any _ | exact VLe.nil_osl rfl | exact VLe.nil_sl rfl | exact VLe.built rfl rfl | (refine VLe.osl rfl ?_; (first | rfl | (simp; done) | assumption | (simp [dsub_eq] <;> omega) | omega)) | exact VLe.rows (by first | rfl | (simp; done) | assumption | (simp [dsub_eq] <;> omega) | omega) (fun _ _ => rfl) | exact VLe.rows (by simp [dsub_eq] <;> omega) rows_take | exact VLe.rows (by simp [dsub_eq] <;> omega) rows_dt | exact VLe.rows (by simp [dsub_eq] <;> omega) rows_vt | exact VLe.rows (by simp) (fun i _ => by simp [viewRow_eq, Nat.add_comm]) | refine VLe.aggL ?_ | (refine BLe.rows rfl ?_ fun _ _ => rfl; (first | rfl | (simp; done) | assumption | (simp [dsub_eq] <;> omega) | omega)) | (refine BLe.rows rfl rfl ?_; first | exact rows_take) | refine BLe.box ?_)
      · (repeat' first | ((conv => whnf); first | exact trivial | refine And.intro ?_ ?_ | exact BLe.refl _ | exact VLe.refl _) | exact trivial | exact rfl | refine And.intro ?_ ?_ | exact BLe.refl _ | exact VLe.refl _ | exact VLe.any _ | exact VLe.nil_osl rfl | exact VLe.nil_sl rfl | exact VLe.built rfl rfl | (refine VLe.osl rfl ?_; (first | rfl | (simp; done) | assumption | (simp [dsub_eq] <;> omega) | omega)) | exact VLe.rows (by first | rfl | (simp; done) | assumption | (simp [dsub_eq] <;> omega) | omega) (fun _ _ => rfl) | exact VLe.rows (by simp [dsub_eq] <;> omega) rows_take | exact VLe.rows (by simp [dsub_eq] <;> omega) rows_dt | exact VLe.rows (by simp [dsub_eq] <;> omega) rows_vt | exact VLe.rows (by simp) (fun i _ => by simp [viewRow_eq, Nat.add_comm]) | refine VLe.aggL ?_ | (refine BLe.rows rfl ?_ fun _ _ => rfl; (first | rfl | (simp; done) | assumption | (simp [dsub_eq] <;> omega) | omega)) | refine BLe.box ?_ | (simp; done))
      · (repeat' first | ((conv => whnf); first | exact trivial | refine And.intro ?_ ?_ | exact BLe.refl _ | exact VLe.refl _) | exact trivial | exact rfl | refine And.intro ?_ ?_ | exact BLe.refl _ | exact VLe.refl _ | exact VLe.any _ | exact VLe.nil_osl rfl | exact VLe.nil_sl rfl | exact VLe.built rfl rfl | (refine VLe.osl rfl ?_; (first | rfl | (simp; done) | assumption | (simp [dsub_eq] <;> omega) | omega)) | exact VLe.rows (by first | rfl | (simp; done) | assumption | (simp [dsub_eq] <;> omega) | omega) (fun _ _ => rfl) | exact VLe.rows (by simp [dsub_eq] <;> omega) rows_take | exact VLe.rows (by simp [dsub_eq] <;> omega) rows_dt | exact VLe.rows (by simp [dsub_eq] <;> omega) rows_vt | exact VLe.rows (by simp) (fun i _ => by simp [viewRow_eq, Nat.add_comm]) | refine VLe.aggL ?_ | (refine BLe.rows rfl ?_ fun _ _ => rfl; (first | rfl | (simp; done) | assumption | (simp [dsub_eq] <;> omega) | omega)) | refine BLe.box ?_ | (simp; done))

noncomputable def spec_l21In_m (a0 : Int) (a1 : Int) (a2 : Int) : Option (Bool) :=
 some ((decide (a0 ≥ a1)) && (decide (a0 ≤ a2)))

theorem spec_l21In_c {a0 : Int} {a1 : Int} {a2 : Int} {r : Bool} (h : spec_l21In_m a0 a1 a2 = some r) : PureC Try.prog 64 [.d (.int .i64 a0), .d (.int .i64 a1), .d (.int .i64 a2)] (.d (.bool r)) [] := by
  refine pureC_m tOk (fn := Try.f64) (c := codeOf Try.f64) rfl rfl (by kernel_rfl) rfl rfl (by simp) (by simp) (ids_of rfl) ?_
  unfold spec_l21In_m at h
  conv => whnf
  obtain rfl := Option.some.inj h
  exact ⟨_, LE.refl _, And.intro rfl trivial⟩

noncomputable def spec_l22Size_m (a0 : Int) : Option (Int) :=
 bd (lp (σ := Int × Int) (β := (Int)) (fun s1 =>
(if (decide (s1.2 < 16)) = true then
 some (.inl (IntKind.i64.wrap (s1.1 * 2), IntKind.i64.wrap (s1.2 + 1)))
else
 some (.inr s1.1))) (1, a0)) fun x4 =>
 some x4

theorem spec_l22Size_c {a0 : Int} {r : Int} (h : spec_l22Size_m a0 = some r) : PureC Try.prog 65 [.d (.int .i64 a0)] (.d (.int .i64 r)) [] := by
  refine pureC_m tOk (fn := Try.f65) (c := codeOf Try.f65) rfl rfl (by kernel_rfl) rfl rfl (by simp) (by simp) (ids_of rfl) ?_
  unfold spec_l22Size_m at h
  conv => whnf
  refine seq_in tOk ?_
  conv => whnf
  obtain ⟨x4, hx4, h⟩ := bd_some h
  refine loop_m tOk hx4 (fun s1 => ⟨0, 13, [(3, .d (.int .i64 s1.1)), (4, .d (.int .i64 s1.2))], [], [], []⟩) ?_ ?_
  · refine le_mk ?_ ?_ ?_ <;> (repeat' first | ((conv => whnf); first | exact trivial | refine And.intro ?_ ?_ | exact BLe.refl _ | exact VLe.refl _) | exact trivial | exact rfl | refine And.intro ?_ ?_ | exact BLe.refl _ | exact VLe.refl _ | exact VLe.any _ | exact VLe.nil_osl rfl | exact VLe.nil_sl rfl | exact VLe.built rfl rfl | (refine VLe.osl rfl ?_; (first | rfl | (simp; done) | assumption | (simp [dsub_eq] <;> omega) | omega)) | exact VLe.rows (by first | rfl | (simp; done) | assumption | (simp [dsub_eq] <;> omega) | omega) (fun _ _ => rfl) | exact VLe.rows (by simp [dsub_eq] <;> omega) rows_take | exact VLe.rows (by simp [dsub_eq] <;> omega) rows_dt | exact VLe.rows (by simp [dsub_eq] <;> omega) rows_vt | exact VLe.rows (by simp) (fun i _ => by simp [viewRow_eq, Nat.add_comm]) | refine VLe.aggL ?_ | (refine BLe.rows rfl ?_ fun _ _ => rfl; (first | rfl | (simp; done) | assumption | (simp [dsub_eq] <;> omega) | omega)) | (refine BLe.rows rfl rfl ?_; first | exact rows_take) | refine BLe.box ?_)
  · clear hx4
    intro s1 y2 g3 hy2
    conv => whnf
    refine seq_in tOk ?_
    conv => whnf
    refine And.intro (fun e => ?_) (fun e => ?_)
    · replace g3 := ite_t g3 e; clear e
      conv => whnf
      refine seq_in tOk ?_
      conv => whnf
      obtain rfl := Option.some.inj g3
      refine ⟨_, rfl, le_mk ?_ ?_ ?_⟩ <;> (repeat' first | ((conv => whnf); first | exact trivial | refine And.intro ?_ ?_ | exact BLe.refl _ | exact VLe.refl _) | exact trivial | exact rfl | refine And.intro ?_ ?_ | exact BLe.refl _ | exact VLe.refl _ | exact VLe.any _ | exact VLe.nil_osl rfl | exact VLe.nil_sl rfl | exact VLe.built rfl rfl | (refine VLe.osl rfl ?_; (first | rfl | (simp; done) | assumption | (simp [dsub_eq] <;> omega) | omega)) | exact VLe.rows (by first | rfl | (simp; done) | assumption | (simp [dsub_eq] <;> omega) | omega) (fun _ _ => rfl) | exact VLe.rows (by simp [dsub_eq] <;> omega) rows_take | exact VLe.rows (by simp [dsub_eq] <;> omega) rows_dt | exact VLe.rows (by simp [dsub_eq] <;> omega) rows_vt | exact VLe.rows (by simp) (fun i _ => by simp [viewRow_eq, Nat.add_comm]) | refine VLe.aggL ?_ | (refine BLe.rows rfl ?_ fun _ _ => rfl; (first | rfl | (simp; done) | assumption | (simp [dsub_eq] <;> omega) | omega)) | (refine BLe.rows rfl rfl ?_; first | exact rows_take) | refine BLe.box ?_)
    · replace g3 := ite_f g3 e; clear e
      conv => whnf
      obtain rfl := Option.some.inj g3
      obtain rfl := hy2 _ rfl
      obtain rfl := Option.some.inj h
      exact ⟨_, LE.refl _, And.intro rfl trivial⟩

noncomputable def spec_l25Inner_m (a0 : l21Rd) (a1 : NatBook) : Option (Int × l21Rd) :=
 bd (spec_l21In_m a1.Len 0 16) fun x1 =>
(if (!x1) = true then
 some (a1.Addr, a0)
else
 bd (spec_l22Size_m a1.Len) fun x2 =>
 bd (spec_l21Rd_pick_m a0 x2) fun x3 =>
 bd (spec_l21Rd_pick_m (⟨a0.b, x3.2.p⟩ : l21Rd) 3) fun x4 =>
 gd ((x2 : Int) ≠ 0) <|
 bd (spec_l21Rd_pick_m (⟨a0.b, x4.2.p⟩ : l21Rd) 4) fun x6 =>
 gd ((0 : Int) ≤ x6.1 ∧ x6.1 < ((([0, IntKind.i64.wrap (x2 - 1), x3.1, ((x4.1 : Int).tmod x2)] : List Int).length : Nat) : Int)) <|
 some (IntKind.i64.wrap (a1.Addr + (([0, IntKind.i64.wrap (x2 - 1), x3.1, ((x4.1 : Int).tmod x2)] : List Int).getD x6.1.toNat default)), (⟨a0.b, x6.2.p⟩ : l21Rd)))

theorem spec_l25Inner_c {a0 : l21Rd} {a1 : NatBook} {r : Int × l21Rd} (h : spec_l25Inner_m a0 a1 = some r) : EffC Try.prog 92 [.ref 9000 0 0, .agg [.d (.int .i64 a1.Addr), .d (.int .i64 a1.Len), .d (.int .i64 a1.Own), .d (.int .i64 a1.Low), .d (.int .i64 a1.High), .d (slD NatDoor.enc a1.Doors), .d (.int .i64 a1.Now), .d (slD NatEntry.enc a1.Entries)]] [(9000, .box 104 [.d (slD encByte a0.b), .d (.int .i64 a0.p)])] (.d (.int .i64 r.1)) [(9000, .box 104 [.d (slD encByte a0.b), .d (.int .i64 r.2.p)])] := by
  refine effC_m tOk (fn := Try.f92) (c := codeOf Try.f92) rfl rfl (by kernel_rfl) rfl rfl rfl rfl ?_
  unfold spec_l25Inner_m at h
  conv => whnf
  refine seq_in tOk ?_
  conv => whnf
  obtain ⟨x1, hx1, h⟩ := bd_some h
  refine callC 0 (spec_l21In_c hx1) (by kernel_rfl) (by kernel_rfl) ?_
  clear hx1
  conv => whnf
  refine And.intro (fun e => ?_) (fun e => ?_)
  · replace h := ite_t h e; clear e
    conv => whnf
    obtain rfl := Option.some.inj h
    refine ⟨⟨0, 32, [(4, .d (.int .i64 a1.Addr))], [], [(9000, .box 104 [.d (slD encByte a0.b), .d (.int .i64 a0.p)])], [⟨[(0, .ref 9000 0 0)], []⟩]⟩, ?_, And.intro rfl (And.intro ?_ ?_)⟩
    · refine le_mk ?_ ?_ ?_ <;> (repeat' first | ((conv => whnf); first | exact trivial | refine And.intro ?_ ?_ | exact BLe.refl _ | exact VLe.refl _) | exact trivial | exact rfl | refine And.intro ?_ ?_ | exact BLe.refl _ | exact VLe.refl _ | exact VLe.any _ | exact VLe.nil_osl rfl | exact VLe.nil_sl rfl | exact VLe.built rfl rfl | (refine VLe.osl rfl ?_; (first | rfl | (simp; done) | assumption | (simp [dsub_eq] <;> omega) | omega)) | exact VLe.rows (by first | rfl | (simp; done) | assumption | (simp [dsub_eq] <;> omega) | omega) (fun _ _ => rfl) | exact VLe.rows (by simp [dsub_eq] <;> omega) rows_take | exact VLe.rows (by simp [dsub_eq] <;> omega) rows_dt | exact VLe.rows (by simp [dsub_eq] <;> omega) rows_vt | exact VLe.rows (by simp) (fun i _ => by simp [viewRow_eq, Nat.add_comm]) | refine VLe.aggL ?_ | (refine BLe.rows rfl ?_ fun _ _ => rfl; (first | rfl | (simp; done) | assumption | (simp [dsub_eq] <;> omega) | omega)) | (refine BLe.rows rfl rfl ?_; first | exact rows_take) | refine BLe.box ?_)
    · (repeat' first | ((conv => whnf); first | exact trivial | refine And.intro ?_ ?_ | exact BLe.refl _ | exact VLe.refl _) | exact trivial | exact rfl | refine And.intro ?_ ?_ | exact BLe.refl _ | exact VLe.refl _ | exact VLe.any _ | exact VLe.nil_osl rfl | exact VLe.nil_sl rfl | exact VLe.built rfl rfl | (refine VLe.osl rfl ?_; (first | rfl | (simp; done) | assumption | (simp [dsub_eq] <;> omega) | omega)) | exact VLe.rows (by first | rfl | (simp; done) | assumption | (simp [dsub_eq] <;> omega) | omega) (fun _ _ => rfl) | exact VLe.rows (by simp [dsub_eq] <;> omega) rows_take | exact VLe.rows (by simp [dsub_eq] <;> omega) rows_dt | exact VLe.rows (by simp [dsub_eq] <;> omega) rows_vt | exact VLe.rows (by simp) (fun i _ => by simp [viewRow_eq, Nat.add_comm]) | refine VLe.aggL ?_ | (refine BLe.rows rfl ?_ fun _ _ => rfl; (first | rfl | (simp; done) | assumption | (simp [dsub_eq] <;> omega) | omega)) | refine BLe.box ?_ | (simp; done))
    · (repeat' first | ((conv => whnf); first | exact trivial | refine And.intro ?_ ?_ | exact BLe.refl _ | exact VLe.refl _) | exact trivial | exact rfl | refine And.intro ?_ ?_ | exact BLe.refl _ | exact VLe.refl _ | exact VLe.any _ | exact VLe.nil_osl rfl | exact VLe.nil_sl rfl | exact VLe.built rfl rfl | (refine VLe.osl rfl ?_; (first | rfl | (simp; done) | assumption | (simp [dsub_eq] <;> omega) | omega)) | exact VLe.rows (by first | rfl | (simp; done) | assumption | (simp [dsub_eq] <;> omega) | omega) (fun _ _ => rfl) | exact VLe.rows (by simp [dsub_eq] <;> omega) rows_take | exact VLe.rows (by simp [dsub_eq] <;> omega) rows_dt | exact VLe.rows (by simp [dsub_eq] <;> omega) rows_vt | exact VLe.rows (by simp) (fun i _ => by simp [viewRow_eq, Nat.add_comm]) | refine VLe.aggL ?_ | (refine BLe.rows rfl ?_ fun _ _ => rfl; (first | rfl | (simp; done) | assumption | (simp [dsub_eq] <;> omega) | omega)) | refine BLe.box ?_ | (simp; done))
  · replace h := ite_f h e; clear e
    conv => whnf
    obtain ⟨x2, hx2, h⟩ := bd_some h
    refine callC 0 (spec_l22Size_c hx2) (by kernel_rfl) (by kernel_rfl) ?_
    clear hx2
    conv => whnf
    obtain ⟨x3, hx3, h⟩ := bd_some h
    obtain ⟨x4, hx4, h⟩ := bd_some h
    obtain ⟨g5, h⟩ := gd_some h
    obtain ⟨x6, hx6, h⟩ := bd_some h
    obtain ⟨g7, h⟩ := gd_some h
    refine draw_ek tOk (by kernel_rfl) (fun j => match j with | 6 => some (.eff (.d (.int .i64 x3.1)) [] [(9000, .box 104 [.d (slD encByte a0.b), .d (.int .i64 x3.2.p)])] (fun g vs => EffD Try.prog [(9000, .box 104 [.d (slD encByte a0.b), .d (.int .i64 a0.p)])] g vs (.d (.int .i64 x3.1)) [] [(9000, .box 104 [.d (slD encByte a0.b), .d (.int .i64 x3.2.p)])]) (LeB [(9000, .box 104 [.d (slD encByte a0.b), .d (.int .i64 a0.p)])] [(9000, .box 104 [.d (slD encByte a0.b), .d (.int .i64 x3.2.p)])])) | 8 => some (.eff (.d (.int .i64 x4.1)) [] [(9000, .box 104 [.d (slD encByte a0.b), .d (.int .i64 x4.2.p)])] (fun g vs => EffD Try.prog [(9000, .box 104 [.d (slD encByte a0.b), .d (.int .i64 x3.2.p)])] g vs (.d (.int .i64 x4.1)) [] [(9000, .box 104 [.d (slD encByte a0.b), .d (.int .i64 x4.2.p)])]) (LeB [(9000, .box 104 [.d (slD encByte a0.b), .d (.int .i64 x3.2.p)])] [(9000, .box 104 [.d (slD encByte a0.b), .d (.int .i64 x4.2.p)])])) | 13 => some (.eff (.d (.int .i64 x6.1)) [] [(9000, .box 104 [.d (slD encByte a0.b), .d (.int .i64 x6.2.p)])] (fun g vs => EffD Try.prog [(9000, .box 104 [.d (slD encByte a0.b), .d (.int .i64 x4.2.p)])] g vs (.d (.int .i64 x6.1)) [] [(9000, .box 104 [.d (slD encByte a0.b), .d (.int .i64 x6.2.p)])]) (LeB [(9000, .box 104 [.d (slD encByte a0.b), .d (.int .i64 x4.2.p)])] [(9000, .box 104 [.d (slD encByte a0.b), .d (.int .i64 x6.2.p)])])) | _ => none) 18 [] [[], [true], [], [false, false, true], [], [], [false, false, false, false, true, true], [], [false, false, false, false, true, true, true, true], [], [false, false, false, false, true, true, true, true, true, true], [false, false, true, true, true, true, true, true, true, true, true], [], [false, false, false, false, true, true, true, true, true, false, false, false, true], [false, false, true, true, true, true, true, true, true, true, true, true, true, true], [false, false, true, true, true, true, true, true, true, true, true, true, true, true, true], [true, true, true, true, true, true, true, true, true, true, true, true, true, true, true, true], [true, true, true, true, true, true, true, true, true, true, true, true, true, true, true, true, true]] [] [9000] (by decide) (by kernel_rfl) (chain_pure rfl (chain_pure rfl (chain_pure rfl (chain_pure rfl (chain_eff rfl (fun _ _ h => h) (fun h => h) (chain_pure rfl (chain_pure rfl (chain_pure rfl (chain_pure rfl (chain_eff rfl (fun _ _ h => h) (fun h => h) (chain_pure rfl (chain_eff rfl (fun _ _ h => h) (fun h => h) (chain_pure rfl (chain_pure rfl (chain_pure rfl (chain_pure rfl (chain_pure rfl (chain_pure rfl (chain_nil))))))))))))))))))) (by kernel_rfl) ?_
    conv => whnf
    refine And.intro (effD_mk [(9000, 9000)] 0 (spec_l21Rd_pick_c hx3) (by (repeat' first | ((conv => whnf); first | exact trivial | refine And.intro ?_ ?_ | exact BLe.refl _ | exact VLe.refl _) | exact trivial | refine And.intro ?_ ?_ | exact VLe.refl _ | exact VLe.any _ | exact VLe.nil_osl rfl | exact VLe.nil_sl rfl | exact VLe.built rfl rfl | (refine VLe.osl rfl ?_; (first | rfl | (simp; done) | assumption | (simp [dsub_eq] <;> omega) | omega)) | exact VLe.rows (by first | rfl | (simp; done) | assumption | (simp [dsub_eq] <;> omega) | omega) (fun _ _ => rfl) | exact VLe.rows (by simp [dsub_eq] <;> omega) rows_take | exact VLe.rows (by simp [dsub_eq] <;> omega) rows_dt | exact VLe.rows (by simp [dsub_eq] <;> omega) rows_vt | exact VLe.rows (by simp) (fun i _ => by simp [viewRow_eq, Nat.add_comm]) | refine VLe.aggL ?_)) (by (repeat' first | ((conv => whnf); first | exact trivial | refine And.intro ?_ ?_ | exact BLe.refl _ | exact VLe.refl _) | exact trivial | exact rfl | refine And.intro ?_ ?_ | exact BLe.refl _ | exact VLe.refl _ | exact VLe.any _ | exact VLe.nil_osl rfl | exact VLe.nil_sl rfl | exact VLe.built rfl rfl | (refine VLe.osl rfl ?_; (first | rfl | (simp; done) | assumption | (simp [dsub_eq] <;> omega) | omega)) | exact VLe.rows (by first | rfl | (simp; done) | assumption | (simp [dsub_eq] <;> omega) | omega) (fun _ _ => rfl) | exact VLe.rows (by simp [dsub_eq] <;> omega) rows_take | exact VLe.rows (by simp [dsub_eq] <;> omega) rows_dt | exact VLe.rows (by simp [dsub_eq] <;> omega) rows_vt | exact VLe.rows (by simp) (fun i _ => by simp [viewRow_eq, Nat.add_comm]) | refine VLe.aggL ?_ | (refine BLe.rows rfl ?_ fun _ _ => rfl; (first | rfl | (simp; done) | assumption | (simp [dsub_eq] <;> omega) | omega)) | refine BLe.box ?_ | (simp; done))) rfl rfl rfl rfl) ?_
    conv => whnf
    refine And.intro (effD_mk [(9000, 9000)] 0 (spec_l21Rd_pick_c hx4) (by (repeat' first | ((conv => whnf); first | exact trivial | refine And.intro ?_ ?_ | exact BLe.refl _ | exact VLe.refl _) | exact trivial | refine And.intro ?_ ?_ | exact VLe.refl _ | exact VLe.any _ | exact VLe.nil_osl rfl | exact VLe.nil_sl rfl | exact VLe.built rfl rfl | (refine VLe.osl rfl ?_; (first | rfl | (simp; done) | assumption | (simp [dsub_eq] <;> omega) | omega)) | exact VLe.rows (by first | rfl | (simp; done) | assumption | (simp [dsub_eq] <;> omega) | omega) (fun _ _ => rfl) | exact VLe.rows (by simp [dsub_eq] <;> omega) rows_take | exact VLe.rows (by simp [dsub_eq] <;> omega) rows_dt | exact VLe.rows (by simp [dsub_eq] <;> omega) rows_vt | exact VLe.rows (by simp) (fun i _ => by simp [viewRow_eq, Nat.add_comm]) | refine VLe.aggL ?_)) (by (repeat' first | ((conv => whnf); first | exact trivial | refine And.intro ?_ ?_ | exact BLe.refl _ | exact VLe.refl _) | exact trivial | exact rfl | refine And.intro ?_ ?_ | exact BLe.refl _ | exact VLe.refl _ | exact VLe.any _ | exact VLe.nil_osl rfl | exact VLe.nil_sl rfl | exact VLe.built rfl rfl | (refine VLe.osl rfl ?_; (first | rfl | (simp; done) | assumption | (simp [dsub_eq] <;> omega) | omega)) | exact VLe.rows (by first | rfl | (simp; done) | assumption | (simp [dsub_eq] <;> omega) | omega) (fun _ _ => rfl) | exact VLe.rows (by simp [dsub_eq] <;> omega) rows_take | exact VLe.rows (by simp [dsub_eq] <;> omega) rows_dt | exact VLe.rows (by simp [dsub_eq] <;> omega) rows_vt | exact VLe.rows (by simp) (fun i _ => by simp [viewRow_eq, Nat.add_comm]) | refine VLe.aggL ?_ | (refine BLe.rows rfl ?_ fun _ _ => rfl; (first | rfl | (simp; done) | assumption | (simp [dsub_eq] <;> omega) | omega)) | refine BLe.box ?_ | (simp; done))) rfl rfl rfl rfl) ?_
    conv => whnf
    refine And.intro g5 ?_
    clear g5
    conv => whnf
    refine ⟨([0, IntKind.i64.wrap (x2 - 1), x3.1, ((x4.1 : Int).tmod x2)] : List Int).length, rows encInt ([0, IntKind.i64.wrap (x2 - 1), x3.1, ((x4.1 : Int).tmod x2)] : List Int), rfl, build_rows, ?_⟩
    conv => whnf
    refine And.intro (effD_mk [(9000, 9000)] 0 (spec_l21Rd_pick_c hx6) (by (repeat' first | ((conv => whnf); first | exact trivial | refine And.intro ?_ ?_ | exact BLe.refl _ | exact VLe.refl _) | exact trivial | refine And.intro ?_ ?_ | exact VLe.refl _ | exact VLe.any _ | exact VLe.nil_osl rfl | exact VLe.nil_sl rfl | exact VLe.built rfl rfl | (refine VLe.osl rfl ?_; (first | rfl | (simp; done) | assumption | (simp [dsub_eq] <;> omega) | omega)) | exact VLe.rows (by first | rfl | (simp; done) | assumption | (simp [dsub_eq] <;> omega) | omega) (fun _ _ => rfl) | exact VLe.rows (by simp [dsub_eq] <;> omega) rows_take | exact VLe.rows (by simp [dsub_eq] <;> omega) rows_dt | exact VLe.rows (by simp [dsub_eq] <;> omega) rows_vt | exact VLe.rows (by simp) (fun i _ => by simp [viewRow_eq, Nat.add_comm]) | refine VLe.aggL ?_)) (by (repeat' first | ((conv => whnf); first | exact trivial | refine And.intro ?_ ?_ | exact BLe.refl _ | exact VLe.refl _) | exact trivial | exact rfl | refine And.intro ?_ ?_ | exact BLe.refl _ | exact VLe.refl _ | exact VLe.any _ | exact VLe.nil_osl rfl | exact VLe.nil_sl rfl | exact VLe.built rfl rfl | (refine VLe.osl rfl ?_; (first | rfl | (simp; done) | assumption | (simp [dsub_eq] <;> omega) | omega)) | exact VLe.rows (by first | rfl | (simp; done) | assumption | (simp [dsub_eq] <;> omega) | omega) (fun _ _ => rfl) | exact VLe.rows (by simp [dsub_eq] <;> omega) rows_take | exact VLe.rows (by simp [dsub_eq] <;> omega) rows_dt | exact VLe.rows (by simp [dsub_eq] <;> omega) rows_vt | exact VLe.rows (by simp) (fun i _ => by simp [viewRow_eq, Nat.add_comm]) | refine VLe.aggL ?_ | (refine BLe.rows rfl ?_ fun _ _ => rfl; (first | rfl | (simp; done) | assumption | (simp [dsub_eq] <;> omega) | omega)) | refine BLe.box ?_ | (simp; done))) rfl rfl rfl rfl) ?_
    conv => whnf
    refine And.intro g7 ?_
    clear g7
    conv => whnf
    refine And.intro (by kernel_rfl) ?_
    conv => whnf
    obtain rfl := Option.some.inj h
    refine ⟨⟨0, 32, [(4, .d (.int .i64 (IntKind.i64.wrap (a1.Addr + (([0, IntKind.i64.wrap (x2 - 1), x3.1, ((x4.1 : Int).tmod x2)] : List Int).getD x6.1.toNat default)))))], [], [(9000, .box 104 [.d (slD encByte a0.b), .d (.int .i64 x6.2.p)])], [⟨[(0, .ref 9000 0 0)], []⟩]⟩, ?_, And.intro rfl (And.intro ?_ ?_)⟩
    · refine le_mk ?_ ?_ ?_ <;> (repeat' first | ((conv => whnf); first | exact trivial | refine And.intro ?_ ?_ | exact BLe.refl _ | exact VLe.refl _) | exact trivial | exact rfl | refine And.intro ?_ ?_ | exact BLe.refl _ | exact VLe.refl _ | exact VLe.any _ | exact VLe.nil_osl rfl | exact VLe.nil_sl rfl | exact VLe.built rfl rfl | (refine VLe.osl rfl ?_; (first | rfl | (simp; done) | assumption | (simp [dsub_eq] <;> omega) | omega)) | exact VLe.rows (by first | rfl | (simp; done) | assumption | (simp [dsub_eq] <;> omega) | omega) (fun _ _ => rfl) | exact VLe.rows (by simp [dsub_eq] <;> omega) rows_take | exact VLe.rows (by simp [dsub_eq] <;> omega) rows_dt | exact VLe.rows (by simp [dsub_eq] <;> omega) rows_vt | exact VLe.rows (by simp) (fun i _ => by simp [viewRow_eq, Nat.add_comm]) | refine VLe.aggL ?_ | (refine BLe.rows rfl ?_ fun _ _ => rfl; (first | rfl | (simp; done) | assumption | (simp [dsub_eq] <;> omega) | omega)) | (refine BLe.rows rfl rfl ?_; first | exact rows_take) | refine BLe.box ?_)
    · (repeat' first | ((conv => whnf); first | exact trivial | refine And.intro ?_ ?_ | exact BLe.refl _ | exact VLe.refl _) | exact trivial | exact rfl | refine And.intro ?_ ?_ | exact BLe.refl _ | exact VLe.refl _ | exact VLe.any _ | exact VLe.nil_osl rfl | exact VLe.nil_sl rfl | exact VLe.built rfl rfl | (refine VLe.osl rfl ?_; (first | rfl | (simp; done) | assumption | (simp [dsub_eq] <;> omega) | omega)) | exact VLe.rows (by first | rfl | (simp; done) | assumption | (simp [dsub_eq] <;> omega) | omega) (fun _ _ => rfl) | exact VLe.rows (by simp [dsub_eq] <;> omega) rows_take | exact VLe.rows (by simp [dsub_eq] <;> omega) rows_dt | exact VLe.rows (by simp [dsub_eq] <;> omega) rows_vt | exact VLe.rows (by simp) (fun i _ => by simp [viewRow_eq, Nat.add_comm]) | refine VLe.aggL ?_ | (refine BLe.rows rfl ?_ fun _ _ => rfl; (first | rfl | (simp; done) | assumption | (simp [dsub_eq] <;> omega) | omega)) | refine BLe.box ?_ | (simp; done))
    · (repeat' first | ((conv => whnf); first | exact trivial | refine And.intro ?_ ?_ | exact BLe.refl _ | exact VLe.refl _) | exact trivial | exact rfl | refine And.intro ?_ ?_ | exact BLe.refl _ | exact VLe.refl _ | exact VLe.any _ | exact VLe.nil_osl rfl | exact VLe.nil_sl rfl | exact VLe.built rfl rfl | (refine VLe.osl rfl ?_; (first | rfl | (simp; done) | assumption | (simp [dsub_eq] <;> omega) | omega)) | exact VLe.rows (by first | rfl | (simp; done) | assumption | (simp [dsub_eq] <;> omega) | omega) (fun _ _ => rfl) | exact VLe.rows (by simp [dsub_eq] <;> omega) rows_take | exact VLe.rows (by simp [dsub_eq] <;> omega) rows_dt | exact VLe.rows (by simp [dsub_eq] <;> omega) rows_vt | exact VLe.rows (by simp) (fun i _ => by simp [viewRow_eq, Nat.add_comm]) | refine VLe.aggL ?_ | (refine BLe.rows rfl ?_ fun _ _ => rfl; (first | rfl | (simp; done) | assumption | (simp [dsub_eq] <;> omega) | omega)) | refine BLe.box ?_ | (simp; done))

noncomputable def spec_l25Port_m (a0 : l21Rd) : Option (Int × l21Rd) :=
 bd (spec_l21Rd_pick_m a0 5) fun x1 =>
 gd ((0 : Int) ≤ x1.1 ∧ x1.1 < ((([1, 2, 80, 4000, 65535] : List Int).length : Nat) : Int)) <|
 some ((([1, 2, 80, 4000, 65535] : List Int).getD x1.1.toNat default), (⟨a0.b, x1.2.p⟩ : l21Rd))

theorem spec_l25Port_c {a0 : l21Rd} {r : Int × l21Rd} (h : spec_l25Port_m a0 = some r) : EffC Try.prog 93 [.ref 9000 0 0] [(9000, .box 104 [.d (slD encByte a0.b), .d (.int .i64 a0.p)])] (.d (.int .i64 r.1)) [(9000, .box 104 [.d (slD encByte a0.b), .d (.int .i64 r.2.p)])] := by
  refine effC_m tOk (fn := Try.f93) (c := codeOf Try.f93) rfl rfl (by kernel_rfl) rfl rfl rfl rfl ?_
  unfold spec_l25Port_m at h
  conv => whnf
  refine ⟨([1, 2, 80, 4000, 65535] : List Int).length, rows encInt ([1, 2, 80, 4000, 65535] : List Int), rfl, build_rows, ?_⟩
  conv => whnf
  obtain ⟨x1, hx1, h⟩ := bd_some h
  refine callE [(9000, 9000)] 0 (spec_l21Rd_pick_c hx1) (by (repeat' first | ((conv => whnf); first | exact trivial | refine And.intro ?_ ?_ | exact BLe.refl _ | exact VLe.refl _) | exact trivial | refine And.intro ?_ ?_ | exact VLe.refl _ | exact VLe.any _ | exact VLe.nil_osl rfl | exact VLe.nil_sl rfl | exact VLe.built rfl rfl | (refine VLe.osl rfl ?_; (first | rfl | (simp; done) | assumption | (simp [dsub_eq] <;> omega) | omega)) | exact VLe.rows (by first | rfl | (simp; done) | assumption | (simp [dsub_eq] <;> omega) | omega) (fun _ _ => rfl) | exact VLe.rows (by simp [dsub_eq] <;> omega) rows_take | exact VLe.rows (by simp [dsub_eq] <;> omega) rows_dt | exact VLe.rows (by simp [dsub_eq] <;> omega) rows_vt | exact VLe.rows (by simp) (fun i _ => by simp [viewRow_eq, Nat.add_comm]) | refine VLe.aggL ?_)) (by (repeat' first | ((conv => whnf); first | exact trivial | refine And.intro ?_ ?_ | exact BLe.refl _ | exact VLe.refl _) | exact trivial | exact rfl | refine And.intro ?_ ?_ | exact BLe.refl _ | exact VLe.refl _ | exact VLe.any _ | exact VLe.nil_osl rfl | exact VLe.nil_sl rfl | exact VLe.built rfl rfl | (refine VLe.osl rfl ?_; (first | rfl | (simp; done) | assumption | (simp [dsub_eq] <;> omega) | omega)) | exact VLe.rows (by first | rfl | (simp; done) | assumption | (simp [dsub_eq] <;> omega) | omega) (fun _ _ => rfl) | exact VLe.rows (by simp [dsub_eq] <;> omega) rows_take | exact VLe.rows (by simp [dsub_eq] <;> omega) rows_dt | exact VLe.rows (by simp [dsub_eq] <;> omega) rows_vt | exact VLe.rows (by simp) (fun i _ => by simp [viewRow_eq, Nat.add_comm]) | refine VLe.aggL ?_ | (refine BLe.rows rfl ?_ fun _ _ => rfl; (first | rfl | (simp; done) | assumption | (simp [dsub_eq] <;> omega) | omega)) | refine BLe.box ?_ | (simp; done))) rfl rfl ?_
  conv => whnf
  obtain ⟨g2, h⟩ := gd_some h
  refine And.intro g2 ?_
  clear g2
  conv => whnf
  obtain rfl := Option.some.inj h
  refine ⟨⟨0, 8, [(2, .d (.int .i64 (([1, 2, 80, 4000, 65535] : List Int).getD x1.1.toNat default)))], [], [(9000, .box 104 [.d (slD encByte a0.b), .d (.int .i64 x1.2.p)])], [⟨[(0, .ref 9000 0 0)], []⟩]⟩, ?_, And.intro rfl (And.intro ?_ ?_)⟩
  · refine le_mk ?_ ?_ ?_ <;> (repeat' first | ((conv => whnf); first | exact trivial | refine And.intro ?_ ?_ | exact BLe.refl _ | exact VLe.refl _) | exact trivial | exact rfl | refine And.intro ?_ ?_ | exact BLe.refl _ | exact VLe.refl _ | exact VLe.any _ | exact VLe.nil_osl rfl | exact VLe.nil_sl rfl | exact VLe.built rfl rfl | (refine VLe.osl rfl ?_; (first | rfl | (simp; done) | assumption | (simp [dsub_eq] <;> omega) | omega)) | exact VLe.rows (by first | rfl | (simp; done) | assumption | (simp [dsub_eq] <;> omega) | omega) (fun _ _ => rfl) | exact VLe.rows (by simp [dsub_eq] <;> omega) rows_take | exact VLe.rows (by simp [dsub_eq] <;> omega) rows_dt | exact VLe.rows (by simp [dsub_eq] <;> omega) rows_vt | exact VLe.rows (by simp) (fun i _ => by simp [viewRow_eq, Nat.add_comm]) | refine VLe.aggL ?_ | (refine BLe.rows rfl ?_ fun _ _ => rfl; (first | rfl | (simp; done) | assumption | (simp [dsub_eq] <;> omega) | omega)) | (refine BLe.rows rfl rfl ?_; first | exact rows_take) | refine BLe.box ?_)
  · (repeat' first | ((conv => whnf); first | exact trivial | refine And.intro ?_ ?_ | exact BLe.refl _ | exact VLe.refl _) | exact trivial | exact rfl | refine And.intro ?_ ?_ | exact BLe.refl _ | exact VLe.refl _ | exact VLe.any _ | exact VLe.nil_osl rfl | exact VLe.nil_sl rfl | exact VLe.built rfl rfl | (refine VLe.osl rfl ?_; (first | rfl | (simp; done) | assumption | (simp [dsub_eq] <;> omega) | omega)) | exact VLe.rows (by first | rfl | (simp; done) | assumption | (simp [dsub_eq] <;> omega) | omega) (fun _ _ => rfl) | exact VLe.rows (by simp [dsub_eq] <;> omega) rows_take | exact VLe.rows (by simp [dsub_eq] <;> omega) rows_dt | exact VLe.rows (by simp [dsub_eq] <;> omega) rows_vt | exact VLe.rows (by simp) (fun i _ => by simp [viewRow_eq, Nat.add_comm]) | refine VLe.aggL ?_ | (refine BLe.rows rfl ?_ fun _ _ => rfl; (first | rfl | (simp; done) | assumption | (simp [dsub_eq] <;> omega) | omega)) | refine BLe.box ?_ | (simp; done))
  · (repeat' first | ((conv => whnf); first | exact trivial | refine And.intro ?_ ?_ | exact BLe.refl _ | exact VLe.refl _) | exact trivial | exact rfl | refine And.intro ?_ ?_ | exact BLe.refl _ | exact VLe.refl _ | exact VLe.any _ | exact VLe.nil_osl rfl | exact VLe.nil_sl rfl | exact VLe.built rfl rfl | (refine VLe.osl rfl ?_; (first | rfl | (simp; done) | assumption | (simp [dsub_eq] <;> omega) | omega)) | exact VLe.rows (by first | rfl | (simp; done) | assumption | (simp [dsub_eq] <;> omega) | omega) (fun _ _ => rfl) | exact VLe.rows (by simp [dsub_eq] <;> omega) rows_take | exact VLe.rows (by simp [dsub_eq] <;> omega) rows_dt | exact VLe.rows (by simp [dsub_eq] <;> omega) rows_vt | exact VLe.rows (by simp) (fun i _ => by simp [viewRow_eq, Nat.add_comm]) | refine VLe.aggL ?_ | (refine BLe.rows rfl ?_ fun _ _ => rfl; (first | rfl | (simp; done) | assumption | (simp [dsub_eq] <;> omega) | omega)) | refine BLe.box ?_ | (simp; done))

noncomputable def spec_l25PutDoor_m (a0 : (List NatDoor)) (a1 : NatDoor) : Option ((List NatDoor)) :=
 bd (lp (σ := Int) (β := (Int)) (fun s1 =>
 gd ((decide (s1 < ((a0.length : Nat) : Int))) = true → ((0 : Int) ≤ s1 ∧ s1 < ((a0.length : Nat) : Int))) <|
 gd ((decide (((a0.getD s1.toNat default).Kind) < a1.Kind)) = false → ((decide (s1 < ((a0.length : Nat) : Int))) = true → ((0 : Int) ≤ s1 ∧ s1 < ((a0.length : Nat) : Int)))) <|
 gd ((((a0.getD s1.toNat default).Kind) == a1.Kind) = true → ((decide (((a0.getD s1.toNat default).Kind) < a1.Kind)) = false → ((decide (s1 < ((a0.length : Nat) : Int))) = true → ((0 : Int) ≤ s1 ∧ s1 < ((a0.length : Nat) : Int))))) <|
(if ((decide (s1 < ((a0.length : Nat) : Int))) && ((decide (((a0.getD s1.toNat default).Kind) < a1.Kind)) || ((((a0.getD s1.toNat default).Kind) == a1.Kind) && (decide (((a0.getD s1.toNat default).Outer) < a1.Outer))))) = true then
 some (.inl (IntKind.i64.wrap (s1 + 1)))
else
 some (.inr s1))) 0) fun x4 =>
 gd ((0 : Int) ≤ (0 : Int) ∧ (0 : Int) ≤ x4 ∧ x4 ≤ ((a0.length : Nat) : Int)) <|
 gd (((0) + (x4.toNat)) * (32 + 1) ≤ 70368744177664) <|
 gd ((((a0.take x4.toNat).length) + (([a1] : List NatDoor).length)) * (32 + 1) ≤ 70368744177664) <|
 gd ((0 : Int) ≤ x4 ∧ x4 ≤ ((a0.length : Nat) : Int) ∧ ((a0.length : Nat) : Int) ≤ ((a0.length : Nat) : Int)) <|
 gd (((((a0.take x4.toNat) ++ ([a1] : List NatDoor)).length) + ((dsub ((a0.length : Nat) : Int) x4))) * (32 + 1) ≤ 70368744177664) <|
 some (((a0.take x4.toNat) ++ ([a1] : List NatDoor)) ++ (((a0).take (x4.toNat + (dsub ((a0.length : Nat) : Int) x4))).drop x4.toNat))

theorem spec_l25PutDoor_c {a0 : (List NatDoor)} {a1 : NatDoor} {r : (List NatDoor)} (h : spec_l25PutDoor_m a0 a1 = some r) : PureC Try.prog 94 [.d (slD NatDoor.enc a0), .agg [.d (.int .i64 a1.Kind), .d (.int .i64 a1.Outer), .d (.int .i64 a1.Inner), .d (.int .i64 a1.InnerPort)]] (.osl 5001 0 r.length) [⟨5001, 71, 4, r.length, rows NatDoor.enc r⟩] := by
  refine pureC_m tOk (fn := Try.f94) (c := codeOf Try.f94) rfl rfl (by kernel_rfl) rfl rfl (by simp [atomD]) (by simp) (ids_of rfl) ?_
  unfold spec_l25PutDoor_m at h
  conv => whnf
  refine seq_in tOk ?_
  conv => whnf
  obtain ⟨x4, hx4, h⟩ := bd_some h
  refine loop_m tOk hx4 (fun s1 => ⟨0, 54, [(0, .d (slD NatDoor.enc a0)), (3, .ref 3 0 0), (5, .d (.int .i64 s1))], [], [(3, .box 71 [.d (.int .i64 a1.Kind), .d (.int .i64 a1.Outer), .d (.int .i64 a1.Inner), .d (.int .i64 a1.InnerPort)])], []⟩) ?_ ?_
  · refine le_mk ?_ ?_ ?_ <;> (repeat' first | ((conv => whnf); first | exact trivial | refine And.intro ?_ ?_ | exact BLe.refl _ | exact VLe.refl _) | exact trivial | exact rfl | refine And.intro ?_ ?_ | exact BLe.refl _ | exact VLe.refl _ | exact VLe.any _ | exact VLe.nil_osl rfl | exact VLe.nil_sl rfl | exact VLe.built rfl rfl | (refine VLe.osl rfl ?_; (first | rfl | (simp; done) | assumption | (simp [dsub_eq] <;> omega) | omega)) | exact VLe.rows (by first | rfl | (simp; done) | assumption | (simp [dsub_eq] <;> omega) | omega) (fun _ _ => rfl) | exact VLe.rows (by simp [dsub_eq] <;> omega) rows_take | exact VLe.rows (by simp [dsub_eq] <;> omega) rows_dt | exact VLe.rows (by simp [dsub_eq] <;> omega) rows_vt | exact VLe.rows (by simp) (fun i _ => by simp [viewRow_eq, Nat.add_comm]) | refine VLe.aggL ?_ | (refine BLe.rows rfl ?_ fun _ _ => rfl; (first | rfl | (simp; done) | assumption | (simp [dsub_eq] <;> omega) | omega)) | (refine BLe.rows rfl rfl ?_; first | exact rows_take) | refine BLe.box ?_)
  · clear hx4
    intro s1 y2 g3 hy2
    conv => whnf
    refine seq_in tOk ?_
    conv => whnf
    obtain ⟨g5, g3⟩ := gd_some g3
    obtain ⟨g6, g3⟩ := gd_some g3
    obtain ⟨g7, g3⟩ := gd_some g3
    refine draw_k tOk (by kernel_rfl) (fun _ => none) 34 [] [[], [], [false, true], [true, true, true], [true, true, true, true], [true, true, true, true, true], [true, true, true, true, true], [true, true, true, true, true, true, true], [true, true, true, true, true, true, true, true], [true, true, true, true, true, true, true, true, true], [true, true, true, true, true], [true, true, true, true, true, false, false, false, false, false, true], [true, true, true, true, true, true, true, true, true, true, true, true], [true, true, true, true, true, true, true, true, true, true, true, true, true], [true, true, true, true, true, true, true, true, true, true, true, true, true, true], [true, true, true, true, true, true, true, true, true, true, true, true, true, true], [true, true, true, true, true, true, true, true, true, true, true, true, true, true, true, true], [true, true, true, true, true, true, true, true, true, true, true, true, true, true, true, true, true], [true, true, true, true, true, true, true, true, true, true, true, true, true, true, true, true, true, true], [true, true, true, true, true, true, true, true, true, true, true, true, true, true], [true, true, true, true, true, true, true, true, true, true, true, true, true, true, false, false, false, false, false, true], [true, true, true, true, true, true, true, true, true, true, true, true, true, true, true, true, true, true, true, true, true], [true, true, true, true, true, true, true, true, true, true, true, true, true, true, true, true, true, true, true, true, true, true], [true, true, true, true, true, true, true, true, true, true, true, true, true, true, true, true, true, true, true, true, true, true, true], [true, true, true, true, true, true, true, true, true, true, true, true, true, true, true, true, true, true, true, true, true, true, true], [true, true, true, true, true, true, true, true, true, true, true, true, true, true, true, true, true, true, true, true, true, true, true, true, true], [true, true, true, true, true, true, true, true, true, true, true, true, true, true, true, true, true, true, true, true, true, true, true, true, true, true], [true, true, true, true, true, true, true, true, true, true, true, true, true, true, true, true, true, true, true, true, true, true, true, true, true, true, true], [true, true, true, true, true, true, true, true, true, true, true, true, true, true, true, true, true, true, true, true, true, true, true], [true, true, true, true, true, true, true, true, true, true, true, true, true, true, true, true, true, true, true, true, true, true, true, false, false, false, false, false, true], [true, true, true, true, true, true, true, true, true, true, true, true, true, true, true, true, true, true, true, true, true, true, true, true, true, true, true, true, true, true], [true, true, true, true, true, true, true, true, true, true, true, true, true, true, true, true, true, true, true, true, true, true, true, true, true, true, true, true, true, true, true], [true, true, true, true, true, true, true, true, true, true, true, true, true, true, true, true, true, true, true, true, true, true, true, true, true, true, true, true, true, true, true, true], [true, true, true, true, true, true, true, true, true, true, true, true, true, true, true, true, true, true, true, true, true, true, true, true, true, true, true, true, true, true, true, true, true]] [] (by decide) (by kernel_rfl) (by kernel_rfl) ?_
    conv => whnf
    refine And.intro g5 ?_
    clear g5
    conv => whnf
    refine And.intro g6 ?_
    clear g6
    conv => whnf
    refine And.intro g7 ?_
    clear g7
    conv => whnf
    refine And.intro (by kernel_rfl) ?_
    conv => whnf
    refine And.intro (fun e => ?_) (fun e => ?_)
    · replace g3 := ite_t g3 e; clear e
      conv => whnf
      obtain rfl := Option.some.inj g3
      refine ⟨_, rfl, le_mk ?_ ?_ ?_⟩ <;> (repeat' first | ((conv => whnf); first | exact trivial | refine And.intro ?_ ?_ | exact BLe.refl _ | exact VLe.refl _) | exact trivial | exact rfl | refine And.intro ?_ ?_ | exact BLe.refl _ | exact VLe.refl _ | exact VLe.any _ | exact VLe.nil_osl rfl | exact VLe.nil_sl rfl | exact VLe.built rfl rfl | (refine VLe.osl rfl ?_; (first | rfl | (simp; done) | assumption | (simp [dsub_eq] <;> omega) | omega)) | exact VLe.rows (by first | rfl | (simp; done) | assumption | (simp [dsub_eq] <;> omega) | omega) (fun _ _ => rfl) | exact VLe.rows (by simp [dsub_eq] <;> omega) rows_take | exact VLe.rows (by simp [dsub_eq] <;> omega) rows_dt | exact VLe.rows (by simp [dsub_eq] <;> omega) rows_vt | exact VLe.rows (by simp) (fun i _ => by simp [viewRow_eq, Nat.add_comm]) | refine VLe.aggL ?_ | (refine BLe.rows rfl ?_ fun _ _ => rfl; (first | rfl | (simp; done) | assumption | (simp [dsub_eq] <;> omega) | omega)) | (refine BLe.rows rfl rfl ?_; first | exact rows_take) | refine BLe.box ?_)
    · replace g3 := ite_f g3 e; clear e
      conv => whnf
      obtain rfl := Option.some.inj g3
      obtain rfl := hy2 _ rfl
      obtain ⟨g9, h⟩ := gd_some h
      obtain ⟨g10, h⟩ := gd_some h
      obtain ⟨g11, h⟩ := gd_some h
      obtain ⟨g12, h⟩ := gd_some h
      obtain ⟨g13, h⟩ := gd_some h
      refine draw_ek tOk (by kernel_rfl) (fun j => match j with | 4 => some (.app [] (.osl 46 0 ((a0.take s1.toNat).length)) [(46, .arr 71 4 ((a0.take s1.toNat).length) (rows NatDoor.enc (a0.take s1.toNat)))]) | 7 => some (.app [(46, .arr 71 4 ((a0.take s1.toNat).length) (rows NatDoor.enc (a0.take s1.toNat)))] (.osl 49 0 (((a0.take s1.toNat) ++ ([a1] : List NatDoor)).length)) [(49, .arr 71 4 (((a0.take s1.toNat) ++ ([a1] : List NatDoor)).length) (rows NatDoor.enc ((a0.take s1.toNat) ++ ([a1] : List NatDoor))))]) | 11 => some (.app [(49, .arr 71 4 (((a0.take s1.toNat) ++ ([a1] : List NatDoor)).length) (rows NatDoor.enc ((a0.take s1.toNat) ++ ([a1] : List NatDoor))))] (.osl 53 0 ((((a0.take s1.toNat) ++ ([a1] : List NatDoor)) ++ (((a0).take (s1.toNat + (dsub ((a0.length : Nat) : Int) s1))).drop s1.toNat)).length)) [(53, .arr 71 4 ((((a0.take s1.toNat) ++ ([a1] : List NatDoor)) ++ (((a0).take (s1.toNat + (dsub ((a0.length : Nat) : Int) s1))).drop s1.toNat)).length) (rows NatDoor.enc (((a0.take s1.toNat) ++ ([a1] : List NatDoor)) ++ (((a0).take (s1.toNat + (dsub ((a0.length : Nat) : Int) s1))).drop s1.toNat))))]) | _ => none) 13 [] [[], [], [], [false, true, true], [true, true, true, true], [], [false, false, false, false, false, true], [true, true, true, true, true, true, true], [], [], [false, false, false, false, false, false, false, false, true, true], [true, true, true, true, true, true, true, true, true, true, true], [true, true, true, true, true, true, true, true, true, true, true, true]] [] [] (by decide) (by kernel_rfl) (chain_pure rfl (chain_app rfl rfl (chain_pure rfl (chain_pure rfl (chain_pure rfl (chain_app rfl rfl (chain_pure rfl (chain_pure rfl (chain_app rfl rfl (chain_pure rfl (chain_pure rfl (chain_pure rfl (chain_pure rfl (chain_nil)))))))))))))) (by kernel_rfl) ?_
      conv => whnf
      refine And.intro ⟨g9, .inr rfl⟩ ?_
      conv => whnf
      refine And.intro (by (conv => whnf); exact ⟨g10, (a0.take s1.toNat).length, rows NatDoor.enc (a0.take s1.toNat), (by first | rfl | (simp; done) | assumption | (simp [dsub_eq] <;> omega) | omega), (by first | exact app_rows (m := s1.toNat) (by first | rfl | (simp; done) | assumption | (simp [dsub_eq] <;> omega) | omega) (by first | rfl | (simp; done) | assumption | (simp [dsub_eq] <;> omega) | omega) (fun _ _ => rfl) (fun _ _ => rfl) | exact app_rows0 (m := s1.toNat) (by first | rfl | (simp; done) | assumption | (simp [dsub_eq] <;> omega) | omega) (fun _ _ => rfl) | exact app_rows (m := s1.toNat) (by first | rfl | (simp; done) | assumption | (simp [dsub_eq] <;> omega) | omega) (by first | rfl | (simp; done) | assumption | (simp [dsub_eq] <;> omega) | omega) (by first | exact fun _ _ => rfl | exact rows_take | exact rows_vt | exact rows_dt | (intro i hi; simp only [viewRow_eq, Nat.zero_add]) | (intro i hi; simp [viewRow_eq])) (by first | exact fun _ _ => rfl | exact rows_take | exact rows_vt | exact rows_dt | (intro i hi; simp only [viewRow_eq, Nat.zero_add]) | (intro i hi; simp [viewRow_eq])) | exact app_rows0 (m := s1.toNat) (by first | rfl | (simp; done) | assumption | (simp [dsub_eq] <;> omega) | omega) (by first | exact fun _ _ => rfl | exact rows_take | exact rows_vt | exact rows_dt | (intro i hi; simp only [viewRow_eq, Nat.zero_add]) | (intro i hi; simp [viewRow_eq]))), rfl, rfl⟩) ?_
      conv => whnf
      refine ⟨([a1] : List NatDoor).length, rows NatDoor.enc ([a1] : List NatDoor), rfl, build_rows, ?_⟩
      conv => whnf
      refine And.intro (by (conv => whnf); exact ⟨g11, ((a0.take s1.toNat) ++ ([a1] : List NatDoor)).length, rows NatDoor.enc ((a0.take s1.toNat) ++ ([a1] : List NatDoor)), (by first | rfl | (simp; done) | assumption | (simp [dsub_eq] <;> omega) | omega), (by first | exact app_rows (m := ([a1] : List NatDoor).length) (by first | rfl | (simp; done) | assumption | (simp [dsub_eq] <;> omega) | omega) (by first | rfl | (simp; done) | assumption | (simp [dsub_eq] <;> omega) | omega) (fun _ _ => rfl) (fun _ _ => rfl) | exact app_rows0 (m := ([a1] : List NatDoor).length) (by first | rfl | (simp; done) | assumption | (simp [dsub_eq] <;> omega) | omega) (fun _ _ => rfl) | exact app_rows (m := ([a1] : List NatDoor).length) (by first | rfl | (simp; done) | assumption | (simp [dsub_eq] <;> omega) | omega) (by first | rfl | (simp; done) | assumption | (simp [dsub_eq] <;> omega) | omega) (by first | exact fun _ _ => rfl | exact rows_take | exact rows_vt | exact rows_dt | (intro i hi; simp only [viewRow_eq, Nat.zero_add]) | (intro i hi; simp [viewRow_eq])) (by first | exact fun _ _ => rfl | exact rows_take | exact rows_vt | exact rows_dt | (intro i hi; simp only [viewRow_eq, Nat.zero_add]) | (intro i hi; simp [viewRow_eq])) | exact app_rows0 (m := ([a1] : List NatDoor).length) (by first | rfl | (simp; done) | assumption | (simp [dsub_eq] <;> omega) | omega) (by first | exact fun _ _ => rfl | exact rows_take | exact rows_vt | exact rows_dt | (intro i hi; simp only [viewRow_eq, Nat.zero_add]) | (intro i hi; simp [viewRow_eq]))), rfl, rfl⟩) ?_
      conv => whnf
      refine And.intro ⟨g12, .inr rfl⟩ ?_
      conv => whnf
      refine And.intro (by (conv => whnf); exact ⟨g13, (((a0.take s1.toNat) ++ ([a1] : List NatDoor)) ++ (((a0).take (s1.toNat + (dsub ((a0.length : Nat) : Int) s1))).drop s1.toNat)).length, rows NatDoor.enc (((a0.take s1.toNat) ++ ([a1] : List NatDoor)) ++ (((a0).take (s1.toNat + (dsub ((a0.length : Nat) : Int) s1))).drop s1.toNat)), (by first | rfl | (simp; done) | assumption | (simp [dsub_eq] <;> omega) | omega), (by first | exact app_rows (m := (dsub ((a0.length : Nat) : Int) s1)) (by first | rfl | (simp; done) | assumption | (simp [dsub_eq] <;> omega) | omega) (by first | rfl | (simp; done) | assumption | (simp [dsub_eq] <;> omega) | omega) (fun _ _ => rfl) (fun _ _ => rfl) | exact app_rows0 (m := (dsub ((a0.length : Nat) : Int) s1)) (by first | rfl | (simp; done) | assumption | (simp [dsub_eq] <;> omega) | omega) (fun _ _ => rfl) | exact app_rows (m := (dsub ((a0.length : Nat) : Int) s1)) (by first | rfl | (simp; done) | assumption | (simp [dsub_eq] <;> omega) | omega) (by first | rfl | (simp; done) | assumption | (simp [dsub_eq] <;> omega) | omega) (by first | exact fun _ _ => rfl | exact rows_take | exact rows_vt | exact rows_dt | (intro i hi; simp only [viewRow_eq, Nat.zero_add]) | (intro i hi; simp [viewRow_eq])) (by first | exact fun _ _ => rfl | exact rows_take | exact rows_vt | exact rows_dt | (intro i hi; simp only [viewRow_eq, Nat.zero_add]) | (intro i hi; simp [viewRow_eq])) | exact app_rows0 (m := (dsub ((a0.length : Nat) : Int) s1)) (by first | rfl | (simp; done) | assumption | (simp [dsub_eq] <;> omega) | omega) (by first | exact fun _ _ => rfl | exact rows_take | exact rows_vt | exact rows_dt | (intro i hi; simp only [viewRow_eq, Nat.zero_add]) | (intro i hi; simp [viewRow_eq]))), rfl, rfl⟩) ?_
      conv => whnf
      refine And.intro (by kernel_rfl) ?_
      conv => whnf
      obtain rfl := Option.some.inj h
      refine ⟨⟨0, 54, [(4, .osl 5001 0 ((((a0.take s1.toNat) ++ ([a1] : List NatDoor)) ++ (((a0).take (s1.toNat + (dsub ((a0.length : Nat) : Int) s1))).drop s1.toNat)).length))], [], [(5001, .arr 71 4 ((((a0.take s1.toNat) ++ ([a1] : List NatDoor)) ++ (((a0).take (s1.toNat + (dsub ((a0.length : Nat) : Int) s1))).drop s1.toNat)).length) (rows NatDoor.enc (((a0.take s1.toNat) ++ ([a1] : List NatDoor)) ++ (((a0).take (s1.toNat + (dsub ((a0.length : Nat) : Int) s1))).drop s1.toNat))))], []⟩, ?_, And.intro rfl ?_⟩
      · refine LE.trans (S' := ⟨0, 54, [(4, .osl 53 0 ((((a0.take s1.toNat) ++ ([a1] : List NatDoor)) ++ (((a0).take (s1.toNat + (dsub ((a0.length : Nat) : Int) s1))).drop s1.toNat)).length))], [], [(53, .arr 71 4 ((((a0.take s1.toNat) ++ ([a1] : List NatDoor)) ++ (((a0).take (s1.toNat + (dsub ((a0.length : Nat) : Int) s1))).drop s1.toNat)).length) (rows NatDoor.enc (((a0.take s1.toNat) ++ ([a1] : List NatDoor)) ++ (((a0).take (s1.toNat + (dsub ((a0.length : Nat) : Int) s1))).drop s1.toNat))))], []⟩) (le_mk ?_ ?_ ?_) (le_swaps [(53, 5001)] rfl) <;> (repeat' first | ((conv => whnf); first | exact trivial | refine And.intro ?_ ?_ | exact BLe.refl _ | exact VLe.refl _) | exact trivial | exact rfl | refine And.intro ?_ ?_ | exact BLe.refl _ | exact VLe.refl _ | exact VLe.any _ | exact VLe.nil_osl rfl | exact VLe.nil_sl rfl | exact VLe.built rfl rfl | (refine VLe.osl rfl ?_; (first | rfl | (simp; done) | assumption | (simp [dsub_eq] <;> omega) | omega)) | exact VLe.rows (by first | rfl | (simp; done) | assumption | (simp [dsub_eq] <;> omega) | omega) (fun _ _ => rfl) | exact VLe.rows (by simp [dsub_eq] <;> omega) rows_take | exact VLe.rows (by simp [dsub_eq] <;> omega) rows_dt | exact VLe.rows (by simp [dsub_eq] <;> omega) rows_vt | exact VLe.rows (by simp) (fun i _ => by simp [viewRow_eq, Nat.add_comm]) | refine VLe.aggL ?_ | (refine BLe.rows rfl ?_ fun _ _ => rfl; (first | rfl | (simp; done) | assumption | (simp [dsub_eq] <;> omega) | omega)) | (refine BLe.rows rfl rfl ?_; first | exact rows_take) | refine BLe.box ?_)
      · exact And.intro (And.intro rfl (And.intro rfl (fun _ _ => rfl))) (trivial)

noncomputable def spec_l22Inside_m (a0 : NatBook) (a1 : Int) : Option (Bool) :=
 bd (gcall ((decide (a1 ≥ a0.Addr)) = true) (spec_l22Size_m a0.Len)) fun x1 =>
 some ((decide (a1 ≥ a0.Addr)) && (decide (a1 < (IntKind.i64.wrap (a0.Addr + x1)))))

theorem spec_l22Inside_c {a0 : NatBook} {a1 : Int} {r : Bool} (h : spec_l22Inside_m a0 a1 = some r) : PureC Try.prog 42 [.agg [.d (.int .i64 a0.Addr), .d (.int .i64 a0.Len), .d (.int .i64 a0.Own), .d (.int .i64 a0.Low), .d (.int .i64 a0.High), .d (slD NatDoor.enc a0.Doors), .d (.int .i64 a0.Now), .d (slD NatEntry.enc a0.Entries)], .d (.int .i64 a1)] (.d (.bool r)) [] := by
  refine pureC_m tOk (fn := Try.f42) (c := codeOf Try.f42) rfl rfl (by kernel_rfl) rfl rfl (by simp) (by simp) (ids_of rfl) ?_
  unfold spec_l22Inside_m at h
  conv => whnf
  obtain ⟨x1, hx1, h⟩ := bd_some h
  refine draw_k tOk (by kernel_rfl) (fun j => match j with | 10 => some (.pure 0 (.d (.int .i64 x1)) []) | _ => none) 15 [] [[], [], [false, true], [true, true, true], [true, true, true, true], [true, true, true, true, true], [true, true, true, true, true], [true, true, true, true, true, false, true], [true, true, true, true, true], [true, true, true, true, true, false, false, false, true], [true, true, true, true, true, false, false, false, true, true], [true, true, true, true, true, false, true, true, true, true, true], [true, true, true, true, true, true, true, true, true, true, true, true], [true, true, true, true, true, true, true, true, true, true, true, true, true], [true, true, true, true, true, true, true, true, true, true, true, true, true, true]] [] (by decide) (by kernel_rfl) (by kernel_rfl) ?_
  conv => whnf
  refine And.intro (callDG_if rfl rfl rfl rfl (by intro c0; exact spec_l22Size_c (gcall_some hx1 c0))) ?_
  conv => whnf
  refine And.intro (by kernel_rfl) ?_
  conv => whnf
  obtain rfl := Option.some.inj h
  exact ⟨_, LE.refl _, And.intro rfl trivial⟩

noncomputable def spec_l22Frame_m (a0 : NatBook) : Option (Bool) :=
 bd (spec_l21In_m a0.Len 0 16) fun x1 =>
 bd (gcall ((!x1) = false) (spec_l21In_m a0.Addr 0 65535)) fun x2 =>
 bd (gcall (((!x1) || (!x2)) = false) (spec_l22Size_m a0.Len)) fun x3 =>
 gd (((!x1) || (!x2)) = false → ((x3 : Int) ≠ 0)) <|
(if (((!x1) || (!x2)) || (((a0.Addr : Int).tmod x3) != 0)) = true then
 some false
else
 bd (spec_l21In_m a0.Own 0 65535) fun x5 =>
 bd (gcall ((!x5) = false) (spec_l22Inside_m a0 a0.Own)) fun x6 =>
(if ((!x5) || x6) = true then
 some false
else
 bd (gcall ((((decide (a0.Low ≥ 1)) && (decide (a0.Low ≤ a0.High))) && (decide (a0.High ≤ 65535))) = true) (spec_l21In_m a0.Now 0 1000000)) fun x7 =>
 some ((((decide (a0.Low ≥ 1)) && (decide (a0.Low ≤ a0.High))) && (decide (a0.High ≤ 65535))) && x7)))

theorem spec_l22Frame_c {a0 : NatBook} {r : Bool} (h : spec_l22Frame_m a0 = some r) : PureC Try.prog 30 [.agg [.d (.int .i64 a0.Addr), .d (.int .i64 a0.Len), .d (.int .i64 a0.Own), .d (.int .i64 a0.Low), .d (.int .i64 a0.High), .d (slD NatDoor.enc a0.Doors), .d (.int .i64 a0.Now), .d (slD NatEntry.enc a0.Entries)]] (.d (.bool r)) [] := by
  refine pureC_m tOk (fn := Try.f30) (c := codeOf Try.f30) rfl rfl (by kernel_rfl) rfl rfl (by simp) (by simp) (ids_of rfl) ?_
  unfold spec_l22Frame_m at h
  conv => whnf
  refine seq_in tOk ?_
  conv => whnf
  obtain ⟨x1, hx1, h⟩ := bd_some h
  obtain ⟨x2, hx2, h⟩ := bd_some h
  obtain ⟨x3, hx3, h⟩ := bd_some h
  obtain ⟨g4, h⟩ := gd_some h
  refine draw_k tOk (by kernel_rfl) (fun j => match j with | 2 => some (.pure 0 (.d (.bool x1)) []) | 7 => some (.pure 0 (.d (.bool x2)) []) | 15 => some (.pure 0 (.d (.int .i64 x3)) []) | _ => none) 19 [] [[], [true], [true, true], [true, true, true], [true, true, true, true], [true, true, true, true, true], [true, true, true, true, true, true], [true, true, true, true, true, true, true], [true, true, true, true, true, true, true, true], [true, true, true, true, true, true, true, true, true], [true, true, true, true, true, true, true, true, true, true], [true, true, true, true, true, true, true, true, true, true, true], [true, true, true, true, true, true, true, true, true, true, true, true], [true, true, true, true, true, true, true, true, true, true, true], [true, true, true, true, true, true, true, true, true, true, true, false, false, true], [true, true, true, true, true, true, true, true, true, true, true, false, false, true, true], [true, true, true, true, true, true, true, true, true, true, true, true, true, true, true, true], [true, true, true, true, true, true, true, true, true, true, true, true, true, true, true, true, true], [true, true, true, true, true, true, true, true, true, true, true, true, true, true, true, true, true, true]] [] (by decide) (by kernel_rfl) (by kernel_rfl) ?_
  conv => whnf
  refine And.intro (callD_any (spec_l21In_c hx1) (by kernel_rfl)) ?_
  conv => whnf
  refine And.intro (callDG_if rfl rfl rfl rfl (by intro c0; exact spec_l21In_c (gcall_some hx2 c0))) ?_
  conv => whnf
  refine And.intro (callDG_if rfl rfl rfl rfl (by intro c0; exact spec_l22Size_c (gcall_some hx3 c0))) ?_
  conv => whnf
  refine And.intro g4 ?_
  clear g4
  conv => whnf
  refine And.intro (by kernel_rfl) ?_
  conv => whnf
  refine And.intro (fun e => ?_) (fun e => ?_)
  · replace h := ite_t h e; clear e
    conv => whnf
    obtain rfl := Option.some.inj h
    exact ⟨_, LE.refl _, And.intro rfl trivial⟩
  · replace h := ite_f h e; clear e
    conv => whnf
    refine seq_in tOk ?_
    conv => whnf
    obtain ⟨x5, hx5, h⟩ := bd_some h
    refine callC 0 (spec_l21In_c hx5) (by kernel_rfl) (by kernel_rfl) ?_
    clear hx5
    conv => whnf
    obtain ⟨x6, hx6, h⟩ := bd_some h
    refine callG_m rfl rfl rfl rfl rfl rfl (by intro c0; exact spec_l22Inside_c (gcall_some hx6 c0)) ?_
    conv => whnf
    refine And.intro (fun e => ?_) (fun e => ?_)
    · replace h := ite_t h e; clear e
      conv => whnf
      obtain rfl := Option.some.inj h
      exact ⟨_, LE.refl _, And.intro rfl trivial⟩
    · replace h := ite_f h e; clear e
      conv => whnf
      obtain ⟨x7, hx7, h⟩ := bd_some h
      refine callG_m rfl rfl rfl rfl rfl rfl (by intro c0; exact spec_l21In_c (gcall_some hx7 c0)) ?_
      conv => whnf
      obtain rfl := Option.some.inj h
      exact ⟨_, LE.refl _, And.intro rfl trivial⟩

noncomputable def spec_l22DoorOk_m (a0 : NatBook) (a1 : NatDoor) : Option (Bool) :=
 bd (spec_l21In_m a1.Kind 1 7) fun x1 =>
 bd (gcall (x1 = true) (spec_l21In_m a1.Outer 1 65535)) fun x2 =>
 bd (gcall ((x1 && x2) = true) (spec_l21In_m a1.Outer a0.Low a0.High)) fun x3 =>
 bd (gcall (((x1 && x2) && (!x3)) = true) (spec_l22Inside_m a0 a1.Inner)) fun x4 =>
 bd (gcall ((((x1 && x2) && (!x3)) && x4) = true) (spec_l21In_m a1.InnerPort 1 65535)) fun x5 =>
 some ((((x1 && x2) && (!x3)) && x4) && x5)

theorem spec_l22DoorOk_c {a0 : NatBook} {a1 : NatDoor} {r : Bool} (h : spec_l22DoorOk_m a0 a1 = some r) : PureC Try.prog 66 [.agg [.d (.int .i64 a0.Addr), .d (.int .i64 a0.Len), .d (.int .i64 a0.Own), .d (.int .i64 a0.Low), .d (.int .i64 a0.High), .d (slD NatDoor.enc a0.Doors), .d (.int .i64 a0.Now), .d (slD NatEntry.enc a0.Entries)], .agg [.d (.int .i64 a1.Kind), .d (.int .i64 a1.Outer), .d (.int .i64 a1.Inner), .d (.int .i64 a1.InnerPort)]] (.d (.bool r)) [] := by
  refine pureC_m tOk (fn := Try.f66) (c := codeOf Try.f66) rfl rfl (by kernel_rfl) rfl rfl (by simp) (by simp) (ids_of rfl) ?_
  unfold spec_l22DoorOk_m at h
  conv => whnf
  obtain ⟨x1, hx1, h⟩ := bd_some h
  refine callC 0 (spec_l21In_c hx1) (by kernel_rfl) (by kernel_rfl) ?_
  clear hx1
  conv => whnf
  obtain ⟨x2, hx2, h⟩ := bd_some h
  refine callG_m rfl rfl rfl rfl rfl rfl (by intro c0; exact spec_l21In_c (gcall_some hx2 c0)) ?_
  conv => whnf
  obtain ⟨x3, hx3, h⟩ := bd_some h
  refine callG_m rfl rfl rfl rfl rfl rfl (by intro c0; exact spec_l21In_c (gcall_some hx3 c0)) ?_
  conv => whnf
  obtain ⟨x4, hx4, h⟩ := bd_some h
  refine callG_m rfl rfl rfl rfl rfl rfl (by intro c0; exact spec_l22Inside_c (gcall_some hx4 c0)) ?_
  conv => whnf
  obtain ⟨x5, hx5, h⟩ := bd_some h
  refine callG_m rfl rfl rfl rfl rfl rfl (by intro c0; exact spec_l21In_c (gcall_some hx5 c0)) ?_
  conv => whnf
  obtain rfl := Option.some.inj h
  exact ⟨_, LE.refl _, And.intro rfl trivial⟩

noncomputable def spec_l22Doors_m (a0 : NatBook) : Option (Bool) :=
(if (decide (((a0.Doors.length : Nat) : Int) > 6)) = true then
 some false
else
 bd (lp (σ := Int) (β := (Unit ⊕ Unit)) (fun s1 =>
(if (decide (s1 < ((a0.Doors.length : Nat) : Int))) = true then
 gd ((0 : Int) ≤ s1 ∧ s1 < ((a0.Doors.length : Nat) : Int)) <|
 bd (spec_l22DoorOk_m a0 (a0.Doors.getD s1.toNat default)) fun x6 =>
(if (!x6) = true then
 some (.inr (.inl ()))
else
 bd (lp (σ := Int) (β := (Unit ⊕ Unit)) (fun s7 =>
(if (decide (s7 < s1)) = true then
 gd ((0 : Int) ≤ s7 ∧ s7 < ((a0.Doors.length : Nat) : Int)) <|
(if ((decide (((a0.Doors.getD s7.toNat default).Kind) > ((a0.Doors.getD s1.toNat default).Kind))) || ((((a0.Doors.getD s7.toNat default).Kind) == ((a0.Doors.getD s1.toNat default).Kind)) && ((decide (((a0.Doors.getD s7.toNat default).Outer) ≥ ((a0.Doors.getD s1.toNat default).Outer))) || ((((a0.Doors.getD s7.toNat default).Inner) == ((a0.Doors.getD s1.toNat default).Inner)) && (((a0.Doors.getD s7.toNat default).InnerPort) == ((a0.Doors.getD s1.toNat default).InnerPort)))))) = true then
 some (.inr (.inl ()))
else
 some (.inl (IntKind.i64.wrap (s7 + 1))))
else
 some (.inr (.inr ())))) 0) fun x10 =>
(match x10 with
| .inl d12 =>
 some (.inr (.inl ()))
| .inr d13 =>
 some (.inl (IntKind.i64.wrap (s1 + 1)))))
else
 some (.inr (.inr ())))) 0) fun x4 =>
(match x4 with
| .inl d14 =>
 some false
| .inr d15 =>
 some true))

theorem spec_l22Doors_c {a0 : NatBook} {r : Bool} (h : spec_l22Doors_m a0 = some r) : PureC Try.prog 31 [.agg [.d (.int .i64 a0.Addr), .d (.int .i64 a0.Len), .d (.int .i64 a0.Own), .d (.int .i64 a0.Low), .d (.int .i64 a0.High), .d (slD NatDoor.enc a0.Doors), .d (.int .i64 a0.Now), .d (slD NatEntry.enc a0.Entries)]] (.d (.bool r)) [] := by
  refine pureC_m tOk (fn := Try.f31) (c := codeOf Try.f31) rfl rfl (by kernel_rfl) rfl rfl (by simp) (by simp) (ids_of rfl) ?_
  unfold spec_l22Doors_m at h
  conv => whnf
  refine seq_in tOk ?_
  conv => whnf
  refine And.intro (fun e => ?_) (fun e => ?_)
  · replace h := ite_t h e; clear e
    conv => whnf
    obtain rfl := Option.some.inj h
    exact ⟨_, LE.refl _, And.intro rfl trivial⟩
  · replace h := ite_f h e; clear e
    conv => whnf
    refine seq_in tOk ?_
    conv => whnf
    obtain ⟨x4, hx4, h⟩ := bd_some h
    refine loop_m tOk hx4 (fun s1 => ⟨0, 70, [(1, .ref 1 0 0), (3, .d (.int .i64 s1))], [], [(1, .box 31 [.d (.int .i64 a0.Addr), .d (.int .i64 a0.Len), .d (.int .i64 a0.Own), .d (.int .i64 a0.Low), .d (.int .i64 a0.High), .d (slD NatDoor.enc a0.Doors), .d (.int .i64 a0.Now), .d (slD NatEntry.enc a0.Entries)])], []⟩) ?_ ?_
    · refine le_mk ?_ ?_ ?_ <;> (repeat' first | ((conv => whnf); first | exact trivial | refine And.intro ?_ ?_ | exact BLe.refl _ | exact VLe.refl _) | exact trivial | exact rfl | refine And.intro ?_ ?_ | exact BLe.refl _ | exact VLe.refl _ | exact VLe.any _ | exact VLe.nil_osl rfl | exact VLe.nil_sl rfl | exact VLe.built rfl rfl | (refine VLe.osl rfl ?_; (first | rfl | (simp; done) | assumption | (simp [dsub_eq] <;> omega) | omega)) | exact VLe.rows (by first | rfl | (simp; done) | assumption | (simp [dsub_eq] <;> omega) | omega) (fun _ _ => rfl) | exact VLe.rows (by simp [dsub_eq] <;> omega) rows_take | exact VLe.rows (by simp [dsub_eq] <;> omega) rows_dt | exact VLe.rows (by simp [dsub_eq] <;> omega) rows_vt | exact VLe.rows (by simp) (fun i _ => by simp [viewRow_eq, Nat.add_comm]) | refine VLe.aggL ?_ | (refine BLe.rows rfl ?_ fun _ _ => rfl; (first | rfl | (simp; done) | assumption | (simp [dsub_eq] <;> omega) | omega)) | (refine BLe.rows rfl rfl ?_; first | exact rows_take) | refine BLe.box ?_)
    · clear hx4
      intro s1 y2 g3 hy2
      conv => whnf
      refine seq_in tOk ?_
      conv => whnf
      refine And.intro (fun e => ?_) (fun e => ?_)
      · replace g3 := ite_t g3 e; clear e
        conv => whnf
        refine seq_in tOk ?_
        conv => whnf
        obtain ⟨g5, g3⟩ := gd_some g3
        refine And.intro g5 ?_
        clear g5
        conv => whnf
        refine seq_in tOk ?_
        conv => whnf
        obtain ⟨x6, hx6, g3⟩ := bd_some g3
        refine callC 0 (spec_l22DoorOk_c hx6) (by kernel_rfl) (by kernel_rfl) ?_
        clear hx6
        conv => whnf
        refine And.intro (fun e => ?_) (fun e => ?_)
        · replace g3 := ite_t g3 e; clear e
          conv => whnf
          obtain rfl := Option.some.inj g3
          obtain rfl := hy2 _ rfl
          obtain rfl := Option.some.inj h
          exact ⟨_, LE.refl _, And.intro rfl trivial⟩
        · replace g3 := ite_f g3 e; clear e
          conv => whnf
          obtain ⟨x10, hx10, g3⟩ := bd_some g3
          refine loop_m tOk hx10 (fun s7 => ⟨0, 70, [(1, .ref 1 0 0), (3, .d (.int .i64 s1)), (4, .ref 4 0 0), (5, .d (.int .i64 s7))], [], [(4, .box 71 [.d (.int .i64 ((a0.Doors.getD s1.toNat default).Kind)), .d (.int .i64 ((a0.Doors.getD s1.toNat default).Outer)), .d (.int .i64 ((a0.Doors.getD s1.toNat default).Inner)), .d (.int .i64 ((a0.Doors.getD s1.toNat default).InnerPort))]), (1, .box 31 [.d (.int .i64 a0.Addr), .d (.int .i64 a0.Len), .d (.int .i64 a0.Own), .d (.int .i64 a0.Low), .d (.int .i64 a0.High), .d (slD NatDoor.enc a0.Doors), .d (.int .i64 a0.Now), .d (slD NatEntry.enc a0.Entries)])], []⟩) ?_ ?_
          · refine le_mk ?_ ?_ ?_ <;> (repeat' first | ((conv => whnf); first | exact trivial | refine And.intro ?_ ?_ | exact BLe.refl _ | exact VLe.refl _) | exact trivial | exact rfl | refine And.intro ?_ ?_ | exact BLe.refl _ | exact VLe.refl _ | exact VLe.any _ | exact VLe.nil_osl rfl | exact VLe.nil_sl rfl | exact VLe.built rfl rfl | (refine VLe.osl rfl ?_; (first | rfl | (simp; done) | assumption | (simp [dsub_eq] <;> omega) | omega)) | exact VLe.rows (by first | rfl | (simp; done) | assumption | (simp [dsub_eq] <;> omega) | omega) (fun _ _ => rfl) | exact VLe.rows (by simp [dsub_eq] <;> omega) rows_take | exact VLe.rows (by simp [dsub_eq] <;> omega) rows_dt | exact VLe.rows (by simp [dsub_eq] <;> omega) rows_vt | exact VLe.rows (by simp) (fun i _ => by simp [viewRow_eq, Nat.add_comm]) | refine VLe.aggL ?_ | (refine BLe.rows rfl ?_ fun _ _ => rfl; (first | rfl | (simp; done) | assumption | (simp [dsub_eq] <;> omega) | omega)) | (refine BLe.rows rfl rfl ?_; first | exact rows_take) | refine BLe.box ?_)
          · clear hx10
            intro s7 y8 g9 hy8
            conv => whnf
            refine seq_in tOk ?_
            conv => whnf
            refine And.intro (fun e => ?_) (fun e => ?_)
            · replace g9 := ite_t g9 e; clear e
              conv => whnf
              refine seq_in tOk ?_
              conv => whnf
              obtain ⟨g11, g9⟩ := gd_some g9
              refine And.intro g11 ?_
              clear g11
              conv => whnf
              refine And.intro (fun e => ?_) (fun e => ?_)
              · replace g9 := ite_t g9 e; clear e
                conv => whnf
                obtain rfl := Option.some.inj g9
                obtain rfl := hy8 _ rfl
                obtain rfl := Option.some.inj g3
                obtain rfl := hy2 _ rfl
                obtain rfl := Option.some.inj h
                exact ⟨_, LE.refl _, And.intro rfl trivial⟩
              · replace g9 := ite_f g9 e; clear e
                conv => whnf
                obtain rfl := Option.some.inj g9
                refine ⟨_, rfl, le_mk ?_ ?_ ?_⟩ <;> (repeat' first | ((conv => whnf); first | exact trivial | refine And.intro ?_ ?_ | exact BLe.refl _ | exact VLe.refl _) | exact trivial | exact rfl | refine And.intro ?_ ?_ | exact BLe.refl _ | exact VLe.refl _ | exact VLe.any _ | exact VLe.nil_osl rfl | exact VLe.nil_sl rfl | exact VLe.built rfl rfl | (refine VLe.osl rfl ?_; (first | rfl | (simp; done) | assumption | (simp [dsub_eq] <;> omega) | omega)) | exact VLe.rows (by first | rfl | (simp; done) | assumption | (simp [dsub_eq] <;> omega) | omega) (fun _ _ => rfl) | exact VLe.rows (by simp [dsub_eq] <;> omega) rows_take | exact VLe.rows (by simp [dsub_eq] <;> omega) rows_dt | exact VLe.rows (by simp [dsub_eq] <;> omega) rows_vt | exact VLe.rows (by simp) (fun i _ => by simp [viewRow_eq, Nat.add_comm]) | refine VLe.aggL ?_ | (refine BLe.rows rfl ?_ fun _ _ => rfl; (first | rfl | (simp; done) | assumption | (simp [dsub_eq] <;> omega) | omega)) | (refine BLe.rows rfl rfl ?_; first | exact rows_take) | refine BLe.box ?_)
            · replace g9 := ite_f g9 e; clear e
              conv => whnf
              obtain rfl := Option.some.inj g9
              obtain rfl := hy8 _ rfl
              obtain rfl := Option.some.inj g3
              refine ⟨_, rfl, le_mk ?_ ?_ ?_⟩ <;> (repeat' first | ((conv => whnf); first | exact trivial | refine And.intro ?_ ?_ | exact BLe.refl _ | exact VLe.refl _) | exact trivial | exact rfl | refine And.intro ?_ ?_ | exact BLe.refl _ | exact VLe.refl _ | exact VLe.any _ | exact VLe.nil_osl rfl | exact VLe.nil_sl rfl | exact VLe.built rfl rfl | (refine VLe.osl rfl ?_; (first | rfl | (simp; done) | assumption | (simp [dsub_eq] <;> omega) | omega)) | exact VLe.rows (by first | rfl | (simp; done) | assumption | (simp [dsub_eq] <;> omega) | omega) (fun _ _ => rfl) | exact VLe.rows (by simp [dsub_eq] <;> omega) rows_take | exact VLe.rows (by simp [dsub_eq] <;> omega) rows_dt | exact VLe.rows (by simp [dsub_eq] <;> omega) rows_vt | exact VLe.rows (by simp) (fun i _ => by simp [viewRow_eq, Nat.add_comm]) | refine VLe.aggL ?_ | (refine BLe.rows rfl ?_ fun _ _ => rfl; (first | rfl | (simp; done) | assumption | (simp [dsub_eq] <;> omega) | omega)) | (refine BLe.rows rfl rfl ?_; first | exact rows_take) | refine BLe.box ?_)
      · replace g3 := ite_f g3 e; clear e
        conv => whnf
        obtain rfl := Option.some.inj g3
        obtain rfl := hy2 _ rfl
        obtain rfl := Option.some.inj h
        exact ⟨_, LE.refl _, And.intro rfl trivial⟩

noncomputable def spec_l22EntryOk_m (a0 : NatBook) (a1 : NatEntry) : Option (Bool) :=
 bd (spec_l21In_m a1.Kind 1 7) fun x1 =>
 bd (gcall ((!x1) = false) (spec_l21In_m a1.Peer 0 65535)) fun x2 =>
 bd (gcall (((!x1) || (!x2)) = false) (spec_l22Inside_m a0 a1.Peer)) fun x3 =>
 bd (gcall (((((!x1) || (!x2)) || x3) || (a1.Peer == a0.Own)) = false) (spec_l21In_m a1.PeerPort 1 65535)) fun x4 =>
(if (((((!x1) || (!x2)) || x3) || (a1.Peer == a0.Own)) || (!x4)) = true then
 some false
else
 bd (spec_l21In_m a1.Outer a0.Low a0.High) fun x5 =>
 bd (gcall ((!x5) = false) (spec_l22Inside_m a0 a1.Inner)) fun x6 =>
 bd (gcall (((!x5) || (!x6)) = false) (spec_l21In_m a1.InnerPort 1 65535)) fun x7 =>
(if (((!x5) || (!x6)) || (!x7)) = true then
 some false
else
 bd (spec_l21In_m a1.Last 0 a0.Now) fun x8 =>
 some (x8 && (decide ((IntKind.i64.wrap (a0.Now - a1.Last)) < 12)))))

theorem spec_l22EntryOk_c {a0 : NatBook} {a1 : NatEntry} {r : Bool} (h : spec_l22EntryOk_m a0 a1 = some r) : PureC Try.prog 67 [.agg [.d (.int .i64 a0.Addr), .d (.int .i64 a0.Len), .d (.int .i64 a0.Own), .d (.int .i64 a0.Low), .d (.int .i64 a0.High), .d (slD NatDoor.enc a0.Doors), .d (.int .i64 a0.Now), .d (slD NatEntry.enc a0.Entries)], .agg [.d (.int .i64 a1.Kind), .d (.int .i64 a1.Peer), .d (.int .i64 a1.PeerPort), .d (.int .i64 a1.Outer), .d (.int .i64 a1.Inner), .d (.int .i64 a1.InnerPort), .d (.int .i64 a1.Last)]] (.d (.bool r)) [] := by
  refine pureC_m tOk (fn := Try.f67) (c := codeOf Try.f67) rfl rfl (by kernel_rfl) rfl rfl (by simp) (by simp) (ids_of rfl) ?_
  unfold spec_l22EntryOk_m at h
  conv => whnf
  refine seq_in tOk ?_
  conv => whnf
  obtain ⟨x1, hx1, h⟩ := bd_some h
  refine callC 0 (spec_l21In_c hx1) (by kernel_rfl) (by kernel_rfl) ?_
  clear hx1
  conv => whnf
  obtain ⟨x2, hx2, h⟩ := bd_some h
  refine callG_m rfl rfl rfl rfl rfl rfl (by intro c0; exact spec_l21In_c (gcall_some hx2 c0)) ?_
  conv => whnf
  obtain ⟨x3, hx3, h⟩ := bd_some h
  refine callG_m rfl rfl rfl rfl rfl rfl (by intro c0; exact spec_l22Inside_c (gcall_some hx3 c0)) ?_
  conv => whnf
  obtain ⟨x4, hx4, h⟩ := bd_some h
  refine callG_m rfl rfl rfl rfl rfl rfl (by intro c0; exact spec_l21In_c (gcall_some hx4 c0)) ?_
  conv => whnf
  refine And.intro (fun e => ?_) (fun e => ?_)
  · replace h := ite_t h e; clear e
    conv => whnf
    obtain rfl := Option.some.inj h
    exact ⟨_, LE.refl _, And.intro rfl trivial⟩
  · replace h := ite_f h e; clear e
    conv => whnf
    refine seq_in tOk ?_
    conv => whnf
    obtain ⟨x5, hx5, h⟩ := bd_some h
    refine callC 0 (spec_l21In_c hx5) (by kernel_rfl) (by kernel_rfl) ?_
    clear hx5
    conv => whnf
    obtain ⟨x6, hx6, h⟩ := bd_some h
    refine callG_m rfl rfl rfl rfl rfl rfl (by intro c0; exact spec_l22Inside_c (gcall_some hx6 c0)) ?_
    conv => whnf
    obtain ⟨x7, hx7, h⟩ := bd_some h
    refine callG_m rfl rfl rfl rfl rfl rfl (by intro c0; exact spec_l21In_c (gcall_some hx7 c0)) ?_
    conv => whnf
    refine And.intro (fun e => ?_) (fun e => ?_)
    · replace h := ite_t h e; clear e
      conv => whnf
      obtain rfl := Option.some.inj h
      exact ⟨_, LE.refl _, And.intro rfl trivial⟩
    · replace h := ite_f h e; clear e
      conv => whnf
      obtain ⟨x8, hx8, h⟩ := bd_some h
      refine callC 0 (spec_l21In_c hx8) (by kernel_rfl) (by kernel_rfl) ?_
      clear hx8
      conv => whnf
      obtain rfl := Option.some.inj h
      exact ⟨_, LE.refl _, And.intro rfl trivial⟩

noncomputable def spec_l22Less_m (a0 : NatEntry) (a1 : NatEntry) : Option (Bool) :=
(if (a0.Kind != a1.Kind) = true then
 some (decide (a0.Kind < a1.Kind))
else
(if (a0.Peer != a1.Peer) = true then
 some (decide (a0.Peer < a1.Peer))
else
(if (a0.PeerPort != a1.PeerPort) = true then
 some (decide (a0.PeerPort < a1.PeerPort))
else
 some (decide (a0.Outer < a1.Outer)))))

theorem spec_l22Less_c {a0 : NatEntry} {a1 : NatEntry} {r : Bool} (h : spec_l22Less_m a0 a1 = some r) : PureC Try.prog 68 [.agg [.d (.int .i64 a0.Kind), .d (.int .i64 a0.Peer), .d (.int .i64 a0.PeerPort), .d (.int .i64 a0.Outer), .d (.int .i64 a0.Inner), .d (.int .i64 a0.InnerPort), .d (.int .i64 a0.Last)], .agg [.d (.int .i64 a1.Kind), .d (.int .i64 a1.Peer), .d (.int .i64 a1.PeerPort), .d (.int .i64 a1.Outer), .d (.int .i64 a1.Inner), .d (.int .i64 a1.InnerPort), .d (.int .i64 a1.Last)]] (.d (.bool r)) [] := by
  refine pureC_m tOk (fn := Try.f68) (c := codeOf Try.f68) rfl rfl (by kernel_rfl) rfl rfl (by simp) (by simp) (ids_of rfl) ?_
  unfold spec_l22Less_m at h
  conv => whnf
  refine seq_in tOk ?_
  conv => whnf
  refine And.intro (fun e => ?_) (fun e => ?_)
  · replace h := ite_t h e; clear e
    conv => whnf
    obtain rfl := Option.some.inj h
    exact ⟨_, LE.refl _, And.intro rfl trivial⟩
  · replace h := ite_f h e; clear e
    conv => whnf
    refine seq_in tOk ?_
    conv => whnf
    refine And.intro (fun e => ?_) (fun e => ?_)
    · replace h := ite_t h e; clear e
      conv => whnf
      obtain rfl := Option.some.inj h
      exact ⟨_, LE.refl _, And.intro rfl trivial⟩
    · replace h := ite_f h e; clear e
      conv => whnf
      refine seq_in tOk ?_
      conv => whnf
      refine And.intro (fun e => ?_) (fun e => ?_)
      · replace h := ite_t h e; clear e
        conv => whnf
        obtain rfl := Option.some.inj h
        exact ⟨_, LE.refl _, And.intro rfl trivial⟩
      · replace h := ite_f h e; clear e
        conv => whnf
        obtain rfl := Option.some.inj h
        exact ⟨_, LE.refl _, And.intro rfl trivial⟩

noncomputable def spec_l22Flow_m (a0 : NatEntry) : Option (NatFlow) :=
 some (⟨a0.Kind, a0.Inner, a0.InnerPort, a0.Peer, a0.PeerPort⟩ : NatFlow)

theorem spec_l22Flow_c {a0 : NatEntry} {r : NatFlow} (h : spec_l22Flow_m a0 = some r) : PureC Try.prog 70 [.agg [.d (.int .i64 a0.Kind), .d (.int .i64 a0.Peer), .d (.int .i64 a0.PeerPort), .d (.int .i64 a0.Outer), .d (.int .i64 a0.Inner), .d (.int .i64 a0.InnerPort), .d (.int .i64 a0.Last)]] (.agg [.d (.int .i64 r.Kind), .d (.int .i64 r.From), .d (.int .i64 r.FromPort), .d (.int .i64 r.To), .d (.int .i64 r.ToPort)]) [] := by
  refine pureC_m tOk (fn := Try.f70) (c := codeOf Try.f70) rfl rfl (by kernel_rfl) rfl rfl (by simp) (by simp) (ids_of rfl) ?_
  unfold spec_l22Flow_m at h
  conv => whnf
  obtain rfl := Option.some.inj h
  exact ⟨_, LE.refl _, And.intro rfl trivial⟩

end Go.Proofs.Ytkcmmigdhkalnaa
