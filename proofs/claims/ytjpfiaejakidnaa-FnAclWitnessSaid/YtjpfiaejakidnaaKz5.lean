/-
  What some of the program's functions compute: their models, and that the functions compute these; no condition.
-/
import Derived.Test.YtjpfiaejakidnaaTyz
import Derived.Test.YtjpfiaejakidnaaTbz
import Derived.Test.YtjpfiaejakidnaaLayz
import Derived.Test.YtjpfiaejakidnaaKz4
set_option linter.all false
namespace Go.Proofs.Ytjpfiaejakidnaa
open Go Go.Ab
set_option maxRecDepth 100000
set_option maxHeartbeats 4000000
noncomputable def spec_DrawAclSays_m (a0 : (List Int)) : Option ((List AclRule) × AclPacket) :=
 bd (spec_l1Open_m a0) fun x1 =>
 bd (spec_l5AnyRules_m x1) fun x2 =>
 bd (spec_l5Packet_m (⟨x1.b, x2.2.p⟩ : l1Rd) x2.1) fun x3 =>
 some (x2.1, x3.1)

theorem spec_DrawAclSays_c {a0 : (List Int)} {r : (List AclRule) × AclPacket} (h : spec_DrawAclSays_m a0 = some r) : EffC Try.prog 15 [.d (slD encByte a0)] [] (.tup [.d (slD AclRule.enc r.1), .agg [.d (.int .i64 r.2.From), .d (.int .i64 r.2.To), .d (.int .i64 r.2.Kind)]]) [] := by
  refine effC_m tOk (fn := Try.f15) (c := codeOf Try.f15) rfl rfl (by kernel_rfl) rfl rfl rfl rfl ?_
  unfold spec_DrawAclSays_m at h
  conv => whnf
  obtain ⟨x1, hx1, h⟩ := bd_some h
  refine callE [] 1000 (spec_l1Open_c hx1) (by (repeat' first | ((conv => whnf); first | exact trivial | refine And.intro ?_ ?_ | exact BLe.refl _ | exact VLe.refl _) | exact trivial | refine And.intro ?_ ?_ | exact VLe.refl _ | exact VLe.any _ | exact VLe.nil_osl rfl | exact VLe.nil_sl rfl | exact VLe.built rfl rfl | (refine VLe.osl rfl ?_; (first | rfl | (simp; done) | assumption | (simp [dsub_eq] <;> omega) | omega)) | exact VLe.rows (by first | rfl | (simp; done) | assumption | (simp [dsub_eq] <;> omega) | omega) (fun _ _ => rfl) | exact VLe.rows (by simp [dsub_eq] <;> omega) rows_take | exact VLe.rows (by simp [dsub_eq] <;> omega) rows_dt | exact VLe.rows (by simp [dsub_eq] <;> omega) rows_vt | exact VLe.rows (by simp) (fun i _ => by simp [viewRow_eq, Nat.add_comm]) | refine VLe.aggL ?_)) (by (repeat' first | ((conv => whnf); first | exact trivial | refine And.intro ?_ ?_ | exact BLe.refl _ | exact VLe.refl _) | exact trivial | exact rfl | refine And.intro ?_ ?_ | exact BLe.refl _ | exact VLe.refl _ | exact VLe.any _ | exact VLe.nil_osl rfl | exact VLe.nil_sl rfl | exact VLe.built rfl rfl | (refine VLe.osl rfl ?_; (first | rfl | (simp; done) | assumption | (simp [dsub_eq] <;> omega) | omega)) | exact VLe.rows (by first | rfl | (simp; done) | assumption | (simp [dsub_eq] <;> omega) | omega) (fun _ _ => rfl) | exact VLe.rows (by simp [dsub_eq] <;> omega) rows_take | exact VLe.rows (by simp [dsub_eq] <;> omega) rows_dt | exact VLe.rows (by simp [dsub_eq] <;> omega) rows_vt | exact VLe.rows (by simp) (fun i _ => by simp [viewRow_eq, Nat.add_comm]) | refine VLe.aggL ?_ | (refine BLe.rows rfl ?_ fun _ _ => rfl; (first | rfl | (simp; done) | assumption | (simp [dsub_eq] <;> omega) | omega)) | refine BLe.box ?_ | (simp; done))) rfl rfl ?_
  conv => whnf
  obtain ⟨x2, hx2, h⟩ := bd_some h
  refine callE [(9000, 6001)] 2000 (spec_l5AnyRules_c hx2) (by (repeat' first | ((conv => whnf); first | exact trivial | refine And.intro ?_ ?_ | exact BLe.refl _ | exact VLe.refl _) | exact trivial | refine And.intro ?_ ?_ | exact VLe.refl _ | exact VLe.any _ | exact VLe.nil_osl rfl | exact VLe.nil_sl rfl | exact VLe.built rfl rfl | (refine VLe.osl rfl ?_; (first | rfl | (simp; done) | assumption | (simp [dsub_eq] <;> omega) | omega)) | exact VLe.rows (by first | rfl | (simp; done) | assumption | (simp [dsub_eq] <;> omega) | omega) (fun _ _ => rfl) | exact VLe.rows (by simp [dsub_eq] <;> omega) rows_take | exact VLe.rows (by simp [dsub_eq] <;> omega) rows_dt | exact VLe.rows (by simp [dsub_eq] <;> omega) rows_vt | exact VLe.rows (by simp) (fun i _ => by simp [viewRow_eq, Nat.add_comm]) | refine VLe.aggL ?_)) (by (repeat' first | ((conv => whnf); first | exact trivial | refine And.intro ?_ ?_ | exact BLe.refl _ | exact VLe.refl _) | exact trivial | exact rfl | refine And.intro ?_ ?_ | exact BLe.refl _ | exact VLe.refl _ | exact VLe.any _ | exact VLe.nil_osl rfl | exact VLe.nil_sl rfl | exact VLe.built rfl rfl | (refine VLe.osl rfl ?_; (first | rfl | (simp; done) | assumption | (simp [dsub_eq] <;> omega) | omega)) | exact VLe.rows (by first | rfl | (simp; done) | assumption | (simp [dsub_eq] <;> omega) | omega) (fun _ _ => rfl) | exact VLe.rows (by simp [dsub_eq] <;> omega) rows_take | exact VLe.rows (by simp [dsub_eq] <;> omega) rows_dt | exact VLe.rows (by simp [dsub_eq] <;> omega) rows_vt | exact VLe.rows (by simp) (fun i _ => by simp [viewRow_eq, Nat.add_comm]) | refine VLe.aggL ?_ | (refine BLe.rows rfl ?_ fun _ _ => rfl; (first | rfl | (simp; done) | assumption | (simp [dsub_eq] <;> omega) | omega)) | refine BLe.box ?_ | (simp; done))) rfl rfl ?_
  conv => whnf
  obtain ⟨x3, hx3, h⟩ := bd_some h
  refine callFz [7001] ?_
  conv => whnf
  refine callE [(9000, 6001)] 0 (spec_l5Packet_c hx3) (by (repeat' first | ((conv => whnf); first | exact trivial | refine And.intro ?_ ?_ | exact BLe.refl _ | exact VLe.refl _) | exact trivial | refine And.intro ?_ ?_ | exact VLe.refl _ | exact VLe.any _ | exact VLe.nil_osl rfl | exact VLe.nil_sl rfl | exact VLe.built rfl rfl | (refine VLe.osl rfl ?_; (first | rfl | (simp; done) | assumption | (simp [dsub_eq] <;> omega) | omega)) | exact VLe.rows (by first | rfl | (simp; done) | assumption | (simp [dsub_eq] <;> omega) | omega) (fun _ _ => rfl) | exact VLe.rows (by simp [dsub_eq] <;> omega) rows_take | exact VLe.rows (by simp [dsub_eq] <;> omega) rows_dt | exact VLe.rows (by simp [dsub_eq] <;> omega) rows_vt | exact VLe.rows (by simp) (fun i _ => by simp [viewRow_eq, Nat.add_comm]) | refine VLe.aggL ?_)) (by (repeat' first | ((conv => whnf); first | exact trivial | refine And.intro ?_ ?_ | exact BLe.refl _ | exact VLe.refl _) | exact trivial | exact rfl | refine And.intro ?_ ?_ | exact BLe.refl _ | exact VLe.refl _ | exact VLe.any _ | exact VLe.nil_osl rfl | exact VLe.nil_sl rfl | exact VLe.built rfl rfl | (refine VLe.osl rfl ?_; (first | rfl | (simp; done) | assumption | (simp [dsub_eq] <;> omega) | omega)) | exact VLe.rows (by first | rfl | (simp; done) | assumption | (simp [dsub_eq] <;> omega) | omega) (fun _ _ => rfl) | exact VLe.rows (by simp [dsub_eq] <;> omega) rows_take | exact VLe.rows (by simp [dsub_eq] <;> omega) rows_dt | exact VLe.rows (by simp [dsub_eq] <;> omega) rows_vt | exact VLe.rows (by simp) (fun i _ => by simp [viewRow_eq, Nat.add_comm]) | refine VLe.aggL ?_ | (refine BLe.rows rfl ?_ fun _ _ => rfl; (first | rfl | (simp; done) | assumption | (simp [dsub_eq] <;> omega) | omega)) | refine BLe.box ?_ | (simp; done))) rfl rfl ?_
  conv => whnf
  obtain rfl := Option.some.inj h
  refine ⟨⟨0, 14, [(2, .d (slD AclRule.enc x2.1)), (3, .ref 3 0 0)], [], [(3, .box 30 [.d (.int .i64 x3.1.From), .d (.int .i64 x3.1.To), .d (.int .i64 x3.1.Kind)])], [⟨[], []⟩]⟩, ?_, And.intro rfl (And.intro ?_ ?_)⟩
  · refine le_mk ?_ ?_ ?_ <;> (repeat' first | ((conv => whnf); first | exact trivial | refine And.intro ?_ ?_ | exact BLe.refl _ | exact VLe.refl _) | exact trivial | exact rfl | refine And.intro ?_ ?_ | exact BLe.refl _ | exact VLe.refl _ | exact VLe.any _ | exact VLe.nil_osl rfl | exact VLe.nil_sl rfl | exact VLe.built rfl rfl | (refine VLe.osl rfl ?_; (first | rfl | (simp; done) | assumption | (simp [dsub_eq] <;> omega) | omega)) | exact VLe.rows (by first | rfl | (simp; done) | assumption | (simp [dsub_eq] <;> omega) | omega) (fun _ _ => rfl) | exact VLe.rows (by simp [dsub_eq] <;> omega) rows_take | exact VLe.rows (by simp [dsub_eq] <;> omega) rows_dt | exact VLe.rows (by simp [dsub_eq] <;> omega) rows_vt | exact VLe.rows (by simp) (fun i _ => by simp [viewRow_eq, Nat.add_comm]) | refine VLe.aggL ?_ | (refine BLe.rows rfl ?_ fun _ _ => rfl; (first | rfl | (simp; done) | assumption | (simp [dsub_eq] <;> omega) | omega)) | (refine BLe.rows rfl rfl ?_; first | exact rows_take) | refine BLe.box ?_)
  · (repeat' first | ((conv => whnf); first | exact trivial | refine And.intro ?_ ?_ | exact BLe.refl _ | exact VLe.refl _) | exact trivial | exact rfl | refine And.intro ?_ ?_ | exact BLe.refl _ | exact VLe.refl _ | exact VLe.any _ | exact VLe.nil_osl rfl | exact VLe.nil_sl rfl | exact VLe.built rfl rfl | (refine VLe.osl rfl ?_; (first | rfl | (simp; done) | assumption | (simp [dsub_eq] <;> omega) | omega)) | exact VLe.rows (by first | rfl | (simp; done) | assumption | (simp [dsub_eq] <;> omega) | omega) (fun _ _ => rfl) | exact VLe.rows (by simp [dsub_eq] <;> omega) rows_take | exact VLe.rows (by simp [dsub_eq] <;> omega) rows_dt | exact VLe.rows (by simp [dsub_eq] <;> omega) rows_vt | exact VLe.rows (by simp) (fun i _ => by simp [viewRow_eq, Nat.add_comm]) | refine VLe.aggL ?_ | (refine BLe.rows rfl ?_ fun _ _ => rfl; (first | rfl | (simp; done) | assumption | (simp [dsub_eq] <;> omega) | omega)) | refine BLe.box ?_ | (simp; done))
  · (repeat' first | ((conv => whnf); first | exact trivial | refine And.intro ?_ ?_ | exact BLe.refl _ | exact VLe.refl _) | exact trivial | exact rfl | refine And.intro ?_ ?_ | exact BLe.refl _ | exact VLe.refl _ | exact VLe.any _ | exact VLe.nil_osl rfl | exact VLe.nil_sl rfl | exact VLe.built rfl rfl | (refine VLe.osl rfl ?_; (first | rfl | (simp; done) | assumption | (simp [dsub_eq] <;> omega) | omega)) | exact VLe.rows (by first | rfl | (simp; done) | assumption | (simp [dsub_eq] <;> omega) | omega) (fun _ _ => rfl) | exact VLe.rows (by simp [dsub_eq] <;> omega) rows_take | exact VLe.rows (by simp [dsub_eq] <;> omega) rows_dt | exact VLe.rows (by simp [dsub_eq] <;> omega) rows_vt | exact VLe.rows (by simp) (fun i _ => by simp [viewRow_eq, Nat.add_comm]) | refine VLe.aggL ?_ | (refine BLe.rows rfl ?_ fun _ _ => rfl; (first | rfl | (simp; done) | assumption | (simp [dsub_eq] <;> omega) | omega)) | refine BLe.box ?_ | (simp; done))

noncomputable def laws_FnAclWitness_m (a0 : (List Int)) (a1 : (List Int)) : Option (Bool) :=
(if ((decide (((a0.length : Nat) : Int) > 1048576)) || (decide (((a1.length : Nat) : Int) > 1048576))) = true then
 some true
else
 bd (spec_DrawAclWitness_m a0) fun x1 =>
 bd (impl_AclWitness_m x1.1 x1.2) fun x2 =>
 bd (spec_AclWitness_m x1.1 x1.2) fun x3 =>
(if ((!((x2.1.From == x3.1.From) && ((x2.1.To == x3.1.To) && ((x2.1.Kind == x3.1.Kind) && true)))) || (!(x2.2 == x3.2))) = true then
 some false
else
(if x2.2 = true then
 bd (impl_AclSays_m x1.1 x2.1) fun x4 =>
 some (x4.1 == x1.2)
else
 bd (spec_DrawAclSays_m a1) fun x5 =>
 bd (impl_AclSays_m x1.1 x5.2) fun x6 =>
 some ((decide (x1.2 < 0)) || (x6.1 != x1.2)))))

theorem laws_FnAclWitness_c {a0 : (List Int)} {a1 : (List Int)} {r : Bool} (h : laws_FnAclWitness_m a0 a1 = some r) : PureC Try.prog 6 [.d (slD encByte a0), .d (slD encByte a1)] (.d (.bool r)) [] := by
  refine pureC_m tOk (fn := Try.f6) (c := codeOf Try.f6) rfl rfl (by kernel_rfl) rfl rfl (by simp) (by simp) (ids_of rfl) ?_
  unfold laws_FnAclWitness_m at h
  conv => whnf
  refine seq_in tOk ?_
  conv => whnf
  refine And.intro (fun e => ?_) (fun e => ?_)
  · replace h := ite_t h e; clear e
    conv => whnf
    obtain rfl := Option.some.inj h
    exact ⟨_, LE.refl _, And.intro rfl trivial⟩
  · replace h := ite_f h e; clear e
    conv => whnf
    obtain ⟨x1, hx1, h⟩ := bd_some h
    refine callC 1000 (spec_DrawAclWitness_c hx1) (by kernel_rfl) (by kernel_rfl) ?_
    clear hx1
    conv => whnf
    obtain ⟨x2, hx2, h⟩ := bd_some h
    refine callC 0 (impl_AclWitness_c hx2) (by kernel_rfl) (by kernel_rfl) ?_
    clear hx2
    conv => whnf
    obtain ⟨x3, hx3, h⟩ := bd_some h
    refine callC 0 (spec_AclWitness_c hx3) (by kernel_rfl) (by kernel_rfl) ?_
    clear hx3
    conv => whnf
    refine seq_in tOk ?_
    conv => whnf
    refine And.intro (fun e => ?_) (fun e => ?_)
    · replace h := ite_t h e; clear e
      conv => whnf
      obtain rfl := Option.some.inj h
      exact ⟨_, LE.refl _, And.intro rfl trivial⟩
    · replace h := ite_f h e; clear e
      conv => whnf
      refine seq_in tOk ?_
      conv => whnf
      refine And.intro (fun e => ?_) (fun e => ?_)
      · replace h := ite_t h e; clear e
        conv => whnf
        obtain ⟨x4, hx4, h⟩ := bd_some h
        refine callC 0 (impl_AclSays_c hx4) (by kernel_rfl) (by kernel_rfl) ?_
        clear hx4
        conv => whnf
        obtain rfl := Option.some.inj h
        exact ⟨_, LE.refl _, And.intro rfl trivial⟩
      · replace h := ite_f h e; clear e
        conv => whnf
        obtain ⟨x5, hx5, h⟩ := bd_some h
        refine callE [] 0 (spec_DrawAclSays_c hx5) (by (repeat' first | ((conv => whnf); first | exact trivial | refine And.intro ?_ ?_ | exact BLe.refl _ | exact VLe.refl _) | exact trivial | refine And.intro ?_ ?_ | exact VLe.refl _ | exact VLe.any _ | exact VLe.nil_osl rfl | exact VLe.nil_sl rfl | exact VLe.built rfl rfl | (refine VLe.osl rfl ?_; (first | rfl | (simp; done) | assumption | (simp [dsub_eq] <;> omega) | omega)) | exact VLe.rows (by first | rfl | (simp; done) | assumption | (simp [dsub_eq] <;> omega) | omega) (fun _ _ => rfl) | exact VLe.rows (by simp [dsub_eq] <;> omega) rows_take | exact VLe.rows (by simp [dsub_eq] <;> omega) rows_dt | exact VLe.rows (by simp [dsub_eq] <;> omega) rows_vt | exact VLe.rows (by simp) (fun i _ => by simp [viewRow_eq, Nat.add_comm]) | refine VLe.aggL ?_)) (by (repeat' first | ((conv => whnf); first | exact trivial | refine And.intro ?_ ?_ | exact BLe.refl _ | exact VLe.refl _) | exact trivial | exact rfl | refine And.intro ?_ ?_ | exact BLe.refl _ | exact VLe.refl _ | exact VLe.any _ | exact VLe.nil_osl rfl | exact VLe.nil_sl rfl | exact VLe.built rfl rfl | (refine VLe.osl rfl ?_; (first | rfl | (simp; done) | assumption | (simp [dsub_eq] <;> omega) | omega)) | exact VLe.rows (by first | rfl | (simp; done) | assumption | (simp [dsub_eq] <;> omega) | omega) (fun _ _ => rfl) | exact VLe.rows (by simp [dsub_eq] <;> omega) rows_take | exact VLe.rows (by simp [dsub_eq] <;> omega) rows_dt | exact VLe.rows (by simp [dsub_eq] <;> omega) rows_vt | exact VLe.rows (by simp) (fun i _ => by simp [viewRow_eq, Nat.add_comm]) | refine VLe.aggL ?_ | (refine BLe.rows rfl ?_ fun _ _ => rfl; (first | rfl | (simp; done) | assumption | (simp [dsub_eq] <;> omega) | omega)) | refine BLe.box ?_ | (simp; done))) rfl rfl ?_
        conv => whnf
        obtain ⟨x6, hx6, h⟩ := bd_some h
        refine callC 0 (impl_AclSays_c hx6) (by kernel_rfl) (by kernel_rfl) ?_
        clear hx6
        conv => whnf
        obtain rfl := Option.some.inj h
        exact ⟨_, LE.refl _, And.intro rfl trivial⟩

noncomputable def impl_clone_AclRule_m (a0 : (List AclRule)) : Option ((List AclRule)) :=
 gd ((0 : Int) ≤ 0 ∧ 0 ≤ ((a0.length : Nat) : Int) ∧ ((a0.length : Nat) : Int) * 48 ≤ 140737488355328 ∧ ((a0.length : Nat) : Int) ≤ 140737488355328) <|
 gd ((((List.replicate (0 : Int).toNat (default : AclRule)).length) + (a0.length)) * (48 + 1) ≤ 70368744177664) <|
 some ((List.replicate (0 : Int).toNat (default : AclRule)) ++ a0)

theorem impl_clone_AclRule_c {a0 : (List AclRule)} {r : (List AclRule)} (h : impl_clone_AclRule_m a0 = some r) : PureC Try.prog 44 [.d (slD AclRule.enc a0)] (.osl 5001 0 r.length) [⟨5001, 41, 6, r.length, rows AclRule.enc r⟩] := by
  refine pureC_m tOk (fn := Try.f44) (c := codeOf Try.f44) rfl rfl (by kernel_rfl) rfl rfl (by simp [atomD]) (by simp) (ids_of rfl) ?_
  unfold impl_clone_AclRule_m at h
  conv => whnf
  obtain ⟨g2, h⟩ := gd_some h
  refine And.intro g2 ?_
  clear g2
  refine ⟨(List.replicate (0 : Int).toNat (default : AclRule)).length, rows AclRule.enc (List.replicate (0 : Int).toNat (default : AclRule)), by simp, make_rows rfl, ?_⟩
  conv => whnf
  obtain ⟨g1, h⟩ := gd_some h
  refine And.intro g1 ?_
  clear g1
  refine ⟨((List.replicate (0 : Int).toNat (default : AclRule)) ++ a0).length, rows AclRule.enc ((List.replicate (0 : Int).toNat (default : AclRule)) ++ a0), (by first | rfl | (simp; done) | assumption | (simp [dsub_eq] <;> omega) | omega), (by first | exact app_rows (m := a0.length) (by first | rfl | (simp; done) | assumption | (simp [dsub_eq] <;> omega) | omega) (by first | rfl | (simp; done) | assumption | (simp [dsub_eq] <;> omega) | omega) (fun _ _ => rfl) (fun _ _ => rfl) | exact app_rows0 (m := a0.length) (by first | rfl | (simp; done) | assumption | (simp [dsub_eq] <;> omega) | omega) (fun _ _ => rfl) | exact app_rows (m := a0.length) (by first | rfl | (simp; done) | assumption | (simp [dsub_eq] <;> omega) | omega) (by first | rfl | (simp; done) | assumption | (simp [dsub_eq] <;> omega) | omega) (by first | exact fun _ _ => rfl | exact rows_take | (intro i hi; simp only [viewRow_eq, addOff_eq, Int.toNat_zero, Nat.zero_add, Nat.add_zero]; exact rows_take i hi) | exact rows_vt | exact rows_dt | (intro i hi; simp only [viewRow_eq, Nat.zero_add]) | (intro i hi; simp [viewRow_eq])) (by first | exact fun _ _ => rfl | exact rows_take | (intro i hi; simp only [viewRow_eq, addOff_eq, Int.toNat_zero, Nat.zero_add, Nat.add_zero]; exact rows_take i hi) | exact rows_vt | exact rows_dt | (intro i hi; simp only [viewRow_eq, Nat.zero_add]) | (intro i hi; simp [viewRow_eq])) | exact app_rows0 (m := a0.length) (by first | rfl | (simp; done) | assumption | (simp [dsub_eq] <;> omega) | omega) (by first | exact fun _ _ => rfl | exact rows_take | (intro i hi; simp only [viewRow_eq, addOff_eq, Int.toNat_zero, Nat.zero_add, Nat.add_zero]; exact rows_take i hi) | exact rows_vt | exact rows_dt | (intro i hi; simp only [viewRow_eq, Nat.zero_add]) | (intro i hi; simp [viewRow_eq]))), ?_⟩
  conv => whnf
  obtain rfl := Option.some.inj h
  refine ⟨⟨0, 8, [(2, .osl 5001 0 (((List.replicate (0 : Int).toNat (default : AclRule)) ++ a0).length))], [], [(5001, .arr 41 6 (((List.replicate (0 : Int).toNat (default : AclRule)) ++ a0).length) (rows AclRule.enc ((List.replicate (0 : Int).toNat (default : AclRule)) ++ a0)))], []⟩, ?_, And.intro rfl ?_⟩
  · refine LE.trans (S' := ⟨0, 8, [(2, .osl 5 0 (((List.replicate (0 : Int).toNat (default : AclRule)) ++ a0).length))], [], [(5, .arr 41 6 (((List.replicate (0 : Int).toNat (default : AclRule)) ++ a0).length) (rows AclRule.enc ((List.replicate (0 : Int).toNat (default : AclRule)) ++ a0)))], []⟩) (le_mk ?_ ?_ ?_) (le_swaps [(5, 5001)] rfl) <;> (repeat' first | ((conv => whnf); first | exact trivial | refine And.intro ?_ ?_ | exact BLe.refl _ | exact VLe.refl _) | exact trivial | exact rfl | refine And.intro ?_ ?_ | exact BLe.refl _ | exact VLe.refl _ | exact VLe.any _ | exact VLe.nil_osl rfl | exact VLe.nil_sl rfl | exact VLe.built rfl rfl | (refine VLe.osl rfl ?_; (first | rfl | (simp; done) | assumption | (simp [dsub_eq] <;> omega) | omega)) | exact VLe.rows (by first | rfl | (simp; done) | assumption | (simp [dsub_eq] <;> omega) | omega) (fun _ _ => rfl) | exact VLe.rows (by simp [dsub_eq] <;> omega) rows_take | exact VLe.rows (by simp [dsub_eq] <;> omega) rows_dt | exact VLe.rows (by simp [dsub_eq] <;> omega) rows_vt | exact VLe.rows (by simp) (fun i _ => by simp [viewRow_eq, Nat.add_comm]) | refine VLe.aggL ?_ | (refine BLe.rows rfl ?_ fun _ _ => rfl; (first | rfl | (simp; done) | assumption | (simp [dsub_eq] <;> omega) | omega)) | (refine BLe.rows rfl rfl ?_; first | exact rows_take) | refine BLe.box ?_)
  · exact And.intro (And.intro rfl (And.intro rfl (fun _ _ => rfl))) (trivial)

noncomputable def impl_AclDiffer_1_m (a0 : AclPacket) (a1 : (List AclRule)) (a2 : (List AclRule)) : Option (Bool) :=
 bd (impl_passes_m a1 a0) fun x1 =>
 bd (impl_passes_m a2 a0) fun x2 =>
 some (!(x1 == x2))

theorem impl_AclDiffer_1_c {a0 : AclPacket} {a1 : (List AclRule)} {a2 : (List AclRule)} {r : Bool} (h : impl_AclDiffer_1_m a0 a1 a2 = some r) : PureC Try.prog 45 [.agg [.d (.int .i64 a0.From), .d (.int .i64 a0.To), .d (.int .i64 a0.Kind)], .rp [slD AclRule.enc a1], .rp [slD AclRule.enc a2]] (.d (.bool r)) [] := by
  refine pureC_m tOk (fn := Try.f45) (c := codeOf Try.f45) rfl rfl (by kernel_rfl) rfl rfl (by simp) (by simp) (ids_of rfl) ?_
  unfold impl_AclDiffer_1_m at h
  conv => whnf
  obtain ⟨x1, hx1, h⟩ := bd_some h
  obtain ⟨x2, hx2, h⟩ := bd_some h
  refine draw_k tOk (by kernel_rfl) (fun j => match j with | 2 => some (.pure 0 (.d (.bool x1)) []) | 5 => some (.pure 0 (.d (.bool x2)) []) | _ => none) 8 [] [[], [], [true, true], [], [], [true, true, true, true, true], [true, true, true, true, true, true], [true, true, true, true, true, true, true]] [] (by decide) (by kernel_rfl) (by kernel_rfl) ?_
  conv => whnf
  refine And.intro (callD_any (impl_passes_c hx1) (by kernel_rfl)) ?_
  conv => whnf
  refine And.intro (callD_any (impl_passes_c hx2) (by kernel_rfl)) ?_
  conv => whnf
  refine And.intro (by kernel_rfl) ?_
  conv => whnf
  obtain rfl := Option.some.inj h
  exact ⟨_, LE.refl _, And.intro rfl trivial⟩

noncomputable def impl_least_impl_AclDiffer_1_m (a0 : (List AclRule)) (a1c0 : (List AclRule)) (a1c1 : (List AclRule)) : Option (AclPacket × Bool) :=
 bd (impl_edges_impl_least_1_m a0) fun x1 =>
 bd (impl_edges_impl_least_2_m a0) fun x2 =>
 bd (lp (σ := Int) (β := ((Int × Int × Int) ⊕ Unit)) (fun s3 =>
(if (decide (s3 < ((x2.length : Nat) : Int))) = true then
 gd ((0 : Int) ≤ s3 ∧ s3 < ((x2.length : Nat) : Int)) <|
 bd (lp (σ := Int) (β := ((Int × Int) ⊕ Unit)) (fun s8 =>
(if (decide (s8 < ((x1.length : Nat) : Int))) = true then
 gd ((0 : Int) ≤ s8 ∧ s8 < ((x1.length : Nat) : Int)) <|
 bd (lp (σ := Int) (β := (Int ⊕ Unit)) (fun s13 =>
(if (decide (s13 ≤ 7)) = true then
 bd (impl_AclDiffer_1_m (⟨(x2.getD s3.toNat default), (x1.getD s8.toNat default), s13⟩ : AclPacket) a1c0 a1c1) fun x17 =>
(if x17 = true then
 some (.inr (.inl s13))
else
 some (.inl (IntKind.i64.wrap (s13 + 1))))
else
 some (.inr (.inr ())))) 1) fun x16 =>
(match x16 with
| .inl d18 =>
 some (.inr (.inl ((x1.getD s8.toNat default), d18)))
| .inr d19 =>
 some (.inl (IntKind.i64.wrap (s8 + 1))))
else
 some (.inr (.inr ())))) 0) fun x11 =>
(match x11 with
| .inl d20 =>
 some (.inr (.inl ((x2.getD s3.toNat default), d20.1, d20.2)))
| .inr d21 =>
 some (.inl (IntKind.i64.wrap (s3 + 1))))
else
 some (.inr (.inr ())))) 0) fun x6 =>
(match x6 with
| .inl d22 =>
 some ((⟨d22.1, d22.2.1, d22.2.2⟩ : AclPacket), true)
| .inr d23 =>
 some ((⟨0, 0, 0⟩ : AclPacket), false))

theorem impl_least_impl_AclDiffer_1_c {a0 : (List AclRule)} {a1c0 : (List AclRule)} {a1c1 : (List AclRule)} {r : AclPacket × Bool} (h : impl_least_impl_AclDiffer_1_m a0 a1c0 a1c1 = some r) : PureC Try.prog 43 [.d (slD AclRule.enc a0), .fn 45 [.rp [slD AclRule.enc a1c0], .rp [slD AclRule.enc a1c1]]] (.tup [.agg [.d (.int .i64 r.1.From), .d (.int .i64 r.1.To), .d (.int .i64 r.1.Kind)], .d (.bool r.2)]) [] := by
  refine pureC_m tOk (fn := Try.f43) (c := codeOf Try.f43) rfl rfl (by kernel_rfl) rfl rfl (by simp) (by simp) (ids_of rfl) ?_
  unfold impl_least_impl_AclDiffer_1_m at h
  conv => whnf
  obtain ⟨x1, hx1, h⟩ := bd_some h
  refine callC 1000 (impl_edges_impl_least_1_c hx1) (by kernel_rfl) (by kernel_rfl) ?_
  clear hx1
  conv => whnf
  refine seq_in tOk ?_
  conv => whnf
  obtain ⟨x2, hx2, h⟩ := bd_some h
  refine callC 2000 (impl_edges_impl_least_2_c hx2) (by kernel_rfl) (by kernel_rfl) ?_
  clear hx2
  conv => whnf
  obtain ⟨x6, hx6, h⟩ := bd_some h
  refine loop_m tOk hx6 (fun s3 => ⟨0, 43, [(1, .fn 45 [.rp [slD AclRule.enc a1c0], .rp [slD AclRule.enc a1c1]]), (4, .ref 4 0 0), (6, .osl 6001 0 x1.length), (16, .osl 7001 0 x2.length), (17, .d (.int .i64 ((x2.length : Nat) : Int))), (18, .d (.int .i64 s3))], [], [(7001, .arr 3 1 x2.length (rows encInt x2)), (6001, .arr 3 1 x1.length (rows encInt x1)), (4, .box 30 [.d (.int .i64 0), .d (.int .i64 0), .d (.int .i64 0)])], []⟩) ?_ ?_
  · refine le_mk ?_ ?_ ?_ <;> (repeat' first | ((conv => whnf); first | exact trivial | refine And.intro ?_ ?_ | exact BLe.refl _ | exact VLe.refl _) | exact trivial | exact rfl | refine And.intro ?_ ?_ | exact BLe.refl _ | exact VLe.refl _ | exact VLe.any _ | exact VLe.nil_osl rfl | exact VLe.nil_sl rfl | exact VLe.built rfl rfl | (refine VLe.osl rfl ?_; (first | rfl | (simp; done) | assumption | (simp [dsub_eq] <;> omega) | omega)) | exact VLe.rows (by first | rfl | (simp; done) | assumption | (simp [dsub_eq] <;> omega) | omega) (fun _ _ => rfl) | exact VLe.rows (by simp [dsub_eq] <;> omega) rows_take | exact VLe.rows (by simp [dsub_eq] <;> omega) rows_dt | exact VLe.rows (by simp [dsub_eq] <;> omega) rows_vt | exact VLe.rows (by simp) (fun i _ => by simp [viewRow_eq, Nat.add_comm]) | refine VLe.aggL ?_ | (refine BLe.rows rfl ?_ fun _ _ => rfl; (first | rfl | (simp; done) | assumption | (simp [dsub_eq] <;> omega) | omega)) | (refine BLe.rows rfl rfl ?_; first | exact rows_take) | refine BLe.box ?_)
  · clear hx6
    intro s3 y4 g5 hy4
    conv => whnf
    refine seq_in tOk ?_
    conv => whnf
    refine And.intro (fun e => ?_) (fun e => ?_)
    · replace g5 := ite_t g5 e; clear e
      conv => whnf
      refine seq_in tOk ?_
      conv => whnf
      obtain ⟨g7, g5⟩ := gd_some g5
      refine And.intro g7 ?_
      clear g7
      conv => whnf
      obtain ⟨x11, hx11, g5⟩ := bd_some g5
      refine loop_m tOk hx11 (fun s8 => ⟨0, 43, [(1, .fn 45 [.rp [slD AclRule.enc a1c0], .rp [slD AclRule.enc a1c1]]), (4, .ref 4 0 0), (6, .osl 6001 0 x1.length), (8, .d (.int .i64 (x2.getD s3.toNat default))), (16, .osl 7001 0 x2.length), (17, .d (.int .i64 ((x2.length : Nat) : Int))), (18, .d (.int .i64 s3)), (22, .osl 6001 0 x1.length), (23, .d (.int .i64 ((x1.length : Nat) : Int))), (24, .d (.int .i64 s8))], [], [(7001, .arr 3 1 x2.length (rows encInt x2)), (6001, .arr 3 1 x1.length (rows encInt x1)), (4, .box 30 [.d (.int .i64 0), .d (.int .i64 0), .d (.int .i64 0)])], []⟩) ?_ ?_
      · refine le_mk ?_ ?_ ?_ <;> (repeat' first | ((conv => whnf); first | exact trivial | refine And.intro ?_ ?_ | exact BLe.refl _ | exact VLe.refl _) | exact trivial | exact rfl | refine And.intro ?_ ?_ | exact BLe.refl _ | exact VLe.refl _ | exact VLe.any _ | exact VLe.nil_osl rfl | exact VLe.nil_sl rfl | exact VLe.built rfl rfl | (refine VLe.osl rfl ?_; (first | rfl | (simp; done) | assumption | (simp [dsub_eq] <;> omega) | omega)) | exact VLe.rows (by first | rfl | (simp; done) | assumption | (simp [dsub_eq] <;> omega) | omega) (fun _ _ => rfl) | exact VLe.rows (by simp [dsub_eq] <;> omega) rows_take | exact VLe.rows (by simp [dsub_eq] <;> omega) rows_dt | exact VLe.rows (by simp [dsub_eq] <;> omega) rows_vt | exact VLe.rows (by simp) (fun i _ => by simp [viewRow_eq, Nat.add_comm]) | refine VLe.aggL ?_ | (refine BLe.rows rfl ?_ fun _ _ => rfl; (first | rfl | (simp; done) | assumption | (simp [dsub_eq] <;> omega) | omega)) | (refine BLe.rows rfl rfl ?_; first | exact rows_take) | refine BLe.box ?_)
      · clear hx11
        intro s8 y9 g10 hy9
        conv => whnf
        refine seq_in tOk ?_
        conv => whnf
        refine And.intro (fun e => ?_) (fun e => ?_)
        · replace g10 := ite_t g10 e; clear e
          conv => whnf
          refine seq_in tOk ?_
          conv => whnf
          obtain ⟨g12, g10⟩ := gd_some g10
          refine And.intro g12 ?_
          clear g12
          conv => whnf
          obtain ⟨x16, hx16, g10⟩ := bd_some g10
          refine loop_m tOk hx16 (fun s13 => ⟨0, 43, [(1, .fn 45 [.rp [slD AclRule.enc a1c0], .rp [slD AclRule.enc a1c1]]), (4, .ref 4 0 0), (6, .osl 6001 0 x1.length), (8, .d (.int .i64 (x2.getD s3.toNat default))), (10, .d (.int .i64 (x1.getD s8.toNat default))), (11, .d (.int .i64 s13)), (16, .osl 7001 0 x2.length), (17, .d (.int .i64 ((x2.length : Nat) : Int))), (18, .d (.int .i64 s3)), (22, .osl 6001 0 x1.length), (23, .d (.int .i64 ((x1.length : Nat) : Int))), (24, .d (.int .i64 s8))], [], [(7001, .arr 3 1 x2.length (rows encInt x2)), (6001, .arr 3 1 x1.length (rows encInt x1)), (4, .box 30 [.d (.int .i64 0), .d (.int .i64 0), .d (.int .i64 0)])], []⟩) ?_ ?_
          · refine le_mk ?_ ?_ ?_ <;> (repeat' first | ((conv => whnf); first | exact trivial | refine And.intro ?_ ?_ | exact BLe.refl _ | exact VLe.refl _) | exact trivial | exact rfl | refine And.intro ?_ ?_ | exact BLe.refl _ | exact VLe.refl _ | exact VLe.any _ | exact VLe.nil_osl rfl | exact VLe.nil_sl rfl | exact VLe.built rfl rfl | (refine VLe.osl rfl ?_; (first | rfl | (simp; done) | assumption | (simp [dsub_eq] <;> omega) | omega)) | exact VLe.rows (by first | rfl | (simp; done) | assumption | (simp [dsub_eq] <;> omega) | omega) (fun _ _ => rfl) | exact VLe.rows (by simp [dsub_eq] <;> omega) rows_take | exact VLe.rows (by simp [dsub_eq] <;> omega) rows_dt | exact VLe.rows (by simp [dsub_eq] <;> omega) rows_vt | exact VLe.rows (by simp) (fun i _ => by simp [viewRow_eq, Nat.add_comm]) | refine VLe.aggL ?_ | (refine BLe.rows rfl ?_ fun _ _ => rfl; (first | rfl | (simp; done) | assumption | (simp [dsub_eq] <;> omega) | omega)) | (refine BLe.rows rfl rfl ?_; first | exact rows_take) | refine BLe.box ?_)
          · clear hx16
            intro s13 y14 g15 hy14
            conv => whnf
            refine seq_in tOk ?_
            conv => whnf
            refine And.intro (fun e => ?_) (fun e => ?_)
            · replace g15 := ite_t g15 e; clear e
              conv => whnf
              refine seq_in tOk ?_
              conv => whnf
              obtain ⟨x17, hx17, g15⟩ := bd_some g15
              refine callC 0 (impl_AclDiffer_1_c hx17) (by kernel_rfl) (by kernel_rfl) ?_
              clear hx17
              conv => whnf
              refine And.intro (fun e => ?_) (fun e => ?_)
              · replace g15 := ite_t g15 e; clear e
                conv => whnf
                obtain rfl := Option.some.inj g15
                obtain rfl := hy14 _ rfl
                obtain rfl := Option.some.inj g10
                obtain rfl := hy9 _ rfl
                obtain rfl := Option.some.inj g5
                obtain rfl := hy4 _ rfl
                obtain rfl := Option.some.inj h
                exact ⟨_, LE.refl _, And.intro rfl trivial⟩
              · replace g15 := ite_f g15 e; clear e
                conv => whnf
                obtain rfl := Option.some.inj g15
                refine ⟨_, rfl, le_mk ?_ ?_ ?_⟩ <;> (repeat' first | ((conv => whnf); first | exact trivial | refine And.intro ?_ ?_ | exact BLe.refl _ | exact VLe.refl _) | exact trivial | exact rfl | refine And.intro ?_ ?_ | exact BLe.refl _ | exact VLe.refl _ | exact VLe.any _ | exact VLe.nil_osl rfl | exact VLe.nil_sl rfl | exact VLe.built rfl rfl | (refine VLe.osl rfl ?_; (first | rfl | (simp; done) | assumption | (simp [dsub_eq] <;> omega) | omega)) | exact VLe.rows (by first | rfl | (simp; done) | assumption | (simp [dsub_eq] <;> omega) | omega) (fun _ _ => rfl) | exact VLe.rows (by simp [dsub_eq] <;> omega) rows_take | exact VLe.rows (by simp [dsub_eq] <;> omega) rows_dt | exact VLe.rows (by simp [dsub_eq] <;> omega) rows_vt | exact VLe.rows (by simp) (fun i _ => by simp [viewRow_eq, Nat.add_comm]) | refine VLe.aggL ?_ | (refine BLe.rows rfl ?_ fun _ _ => rfl; (first | rfl | (simp; done) | assumption | (simp [dsub_eq] <;> omega) | omega)) | (refine BLe.rows rfl rfl ?_; first | exact rows_take) | refine BLe.box ?_)
            · replace g15 := ite_f g15 e; clear e
              conv => whnf
              obtain rfl := Option.some.inj g15
              obtain rfl := hy14 _ rfl
              obtain rfl := Option.some.inj g10
              refine ⟨_, rfl, le_mk ?_ ?_ ?_⟩ <;> (repeat' first | ((conv => whnf); first | exact trivial | refine And.intro ?_ ?_ | exact BLe.refl _ | exact VLe.refl _) | exact trivial | exact rfl | refine And.intro ?_ ?_ | exact BLe.refl _ | exact VLe.refl _ | exact VLe.any _ | exact VLe.nil_osl rfl | exact VLe.nil_sl rfl | exact VLe.built rfl rfl | (refine VLe.osl rfl ?_; (first | rfl | (simp; done) | assumption | (simp [dsub_eq] <;> omega) | omega)) | exact VLe.rows (by first | rfl | (simp; done) | assumption | (simp [dsub_eq] <;> omega) | omega) (fun _ _ => rfl) | exact VLe.rows (by simp [dsub_eq] <;> omega) rows_take | exact VLe.rows (by simp [dsub_eq] <;> omega) rows_dt | exact VLe.rows (by simp [dsub_eq] <;> omega) rows_vt | exact VLe.rows (by simp) (fun i _ => by simp [viewRow_eq, Nat.add_comm]) | refine VLe.aggL ?_ | (refine BLe.rows rfl ?_ fun _ _ => rfl; (first | rfl | (simp; done) | assumption | (simp [dsub_eq] <;> omega) | omega)) | (refine BLe.rows rfl rfl ?_; first | exact rows_take) | refine BLe.box ?_)
        · replace g10 := ite_f g10 e; clear e
          conv => whnf
          obtain rfl := Option.some.inj g10
          obtain rfl := hy9 _ rfl
          obtain rfl := Option.some.inj g5
          refine ⟨_, rfl, le_mk ?_ ?_ ?_⟩ <;> (repeat' first | ((conv => whnf); first | exact trivial | refine And.intro ?_ ?_ | exact BLe.refl _ | exact VLe.refl _) | exact trivial | exact rfl | refine And.intro ?_ ?_ | exact BLe.refl _ | exact VLe.refl _ | exact VLe.any _ | exact VLe.nil_osl rfl | exact VLe.nil_sl rfl | exact VLe.built rfl rfl | (refine VLe.osl rfl ?_; (first | rfl | (simp; done) | assumption | (simp [dsub_eq] <;> omega) | omega)) | exact VLe.rows (by first | rfl | (simp; done) | assumption | (simp [dsub_eq] <;> omega) | omega) (fun _ _ => rfl) | exact VLe.rows (by simp [dsub_eq] <;> omega) rows_take | exact VLe.rows (by simp [dsub_eq] <;> omega) rows_dt | exact VLe.rows (by simp [dsub_eq] <;> omega) rows_vt | exact VLe.rows (by simp) (fun i _ => by simp [viewRow_eq, Nat.add_comm]) | refine VLe.aggL ?_ | (refine BLe.rows rfl ?_ fun _ _ => rfl; (first | rfl | (simp; done) | assumption | (simp [dsub_eq] <;> omega) | omega)) | (refine BLe.rows rfl rfl ?_; first | exact rows_take) | refine BLe.box ?_)
    · replace g5 := ite_f g5 e; clear e
      conv => whnf
      obtain rfl := Option.some.inj g5
      obtain rfl := hy4 _ rfl
      obtain rfl := Option.some.inj h
      exact ⟨_, LE.refl _, And.intro rfl trivial⟩

noncomputable def impl_AclDiffer_m (a0 : (List AclRule)) (a1 : (List AclRule)) : Option (AclPacket × Bool) :=
 bd (impl_AclOk_m a0) fun x1 =>
 bd (gcall ((!x1) = false) (impl_AclOk_m a1)) fun x2 =>
(if ((!x1) || (!x2)) = true then
 some ((⟨0, 0, 0⟩ : AclPacket), false)
else
 bd (impl_clone_AclRule_m a0) fun x3 =>
 gd (((x3.length) + (a1.length)) * (48 + 1) ≤ 70368744177664) <|
 bd (impl_least_impl_AclDiffer_1_m (x3 ++ a1) a0 a1) fun x5 =>
 some (x5.1, x5.2))

theorem impl_AclDiffer_c {a0 : (List AclRule)} {a1 : (List AclRule)} {r : AclPacket × Bool} (h : impl_AclDiffer_m a0 a1 = some r) : PureC Try.prog 18 [.d (slD AclRule.enc a0), .d (slD AclRule.enc a1)] (.tup [.agg [.d (.int .i64 r.1.From), .d (.int .i64 r.1.To), .d (.int .i64 r.1.Kind)], .d (.bool r.2)]) [] := by
  refine pureC_m tOk (fn := Try.f18) (c := codeOf Try.f18) rfl rfl (by kernel_rfl) rfl rfl (by simp) (by simp) (ids_of rfl) ?_
  unfold impl_AclDiffer_m at h
  conv => whnf
  refine seq_in tOk ?_
  conv => whnf
  obtain ⟨x1, hx1, h⟩ := bd_some h
  refine callC 0 (impl_AclOk_c hx1) (by kernel_rfl) (by kernel_rfl) ?_
  clear hx1
  conv => whnf
  obtain ⟨x2, hx2, h⟩ := bd_some h
  refine callG_m rfl rfl rfl rfl rfl rfl (by intro c0; exact impl_AclOk_c (gcall_some hx2 c0)) ?_
  conv => whnf
  refine And.intro (fun e => ?_) (fun e => ?_)
  · replace h := ite_t h e; clear e
    conv => whnf
    obtain rfl := Option.some.inj h
    exact ⟨_, LE.refl _, And.intro rfl trivial⟩
  · replace h := ite_f h e; clear e
    conv => whnf
    obtain ⟨x3, hx3, h⟩ := bd_some h
    obtain ⟨g4, h⟩ := gd_some h
    obtain ⟨x5, hx5, h⟩ := bd_some h
    refine draw_gk tOk (by kernel_rfl) (fun j => match j with | 0 => some (.app [(2, .box 28 [.d (slD AclRule.enc a0)])] (.d (slD AclRule.enc a0)) [(2, .box 28 [.d (slD AclRule.enc a0)])]) | 1 => some (.eff (.osl 6001 0 x3.length) [] [(6001, .arr 41 6 x3.length (rows AclRule.enc x3))] (fun g vs => EffD Try.prog [] g vs (.osl 6001 0 x3.length) [] [(6001, .arr 41 6 x3.length (rows AclRule.enc x3))]) (LeB [] [(6001, .arr 41 6 x3.length (rows AclRule.enc x3))])) | 2 => some (.app [(3, .box 28 [.d (slD AclRule.enc a1)])] (.d (slD AclRule.enc a1)) [(3, .box 28 [.d (slD AclRule.enc a1)])]) | 3 => some (.app [(6001, .arr 41 6 x3.length (rows AclRule.enc x3))] (.osl 18 0 ((x3 ++ a1).length)) [(18, .arr 41 6 ((x3 ++ a1).length) (rows AclRule.enc (x3 ++ a1)))]) | 5 => some (.eff (.tup [.agg [.d (.int .i64 x5.1.From), .d (.int .i64 x5.1.To), .d (.int .i64 x5.1.Kind)], .d (.bool x5.2)]) [] [(2, .box 28 [.d (slD AclRule.enc a0)]), (3, .box 28 [.d (slD AclRule.enc a1)]), (18, .arr 41 6 ((x3 ++ a1).length) (rows AclRule.enc (x3 ++ a1)))] (fun g vs => EffD Try.prog [(2, .box 28 [.d (slD AclRule.enc a0)]), (3, .box 28 [.d (slD AclRule.enc a1)]), (18, .arr 41 6 ((x3 ++ a1).length) (rows AclRule.enc (x3 ++ a1)))] g vs (.tup [.agg [.d (.int .i64 x5.1.From), .d (.int .i64 x5.1.To), .d (.int .i64 x5.1.Kind)], .d (.bool x5.2)]) [] [(2, .box 28 [.d (slD AclRule.enc a0)]), (3, .box 28 [.d (slD AclRule.enc a1)]), (18, .arr 41 6 ((x3 ++ a1).length) (rows AclRule.enc (x3 ++ a1)))]) (LeB [(2, .box 28 [.d (slD AclRule.enc a0)]), (3, .box 28 [.d (slD AclRule.enc a1)]), (18, .arr 41 6 ((x3 ++ a1).length) (rows AclRule.enc (x3 ++ a1)))] [(2, .box 28 [.d (slD AclRule.enc a0)]), (3, .box 28 [.d (slD AclRule.enc a1)]), (18, .arr 41 6 ((x3 ++ a1).length) (rows AclRule.enc (x3 ++ a1)))])) | _ => none) (fun j => match j with | 0 => [(2, .box 28 [.d (slD AclRule.enc a0)])] | 2 => [(3, .box 28 [.d (slD AclRule.enc a1)])] | 3 => [(6001, .arr 41 6 x3.length (rows AclRule.enc x3))] | 5 => [(2, .box 28 [.d (slD AclRule.enc a0)]), (3, .box 28 [.d (slD AclRule.enc a1)]), (18, .arr 41 6 ((x3 ++ a1).length) (rows AclRule.enc (x3 ++ a1)))] | _ => []) (fun j => match j with | 0 => [2] | 2 => [3] | 5 => [2, 3, 18] | _ => []) 8 [] [[], [true], [], [true, true, true], [], [true, true, true, true, true], [true, true, true, true, true, true], [true, true, true, true, true, true]] [[true, true, true, true, true, true, true, true], [true, true, true, true, true, true, true, true, true]] [2, 3] (by decide) (by kernel_rfl) (chainG_pure rfl (chainG_pure rfl (chainG_eff rfl (fun _ _ h => h) (fun h => h) rfl rfl (chainG_pure rfl (chainG_app rfl rfl rfl rfl (chainG_app rfl rfl rfl rfl (chainG_eff rfl (fun _ _ h => h) (fun h => h) rfl rfl (chainG_app rfl rfl rfl rfl (chainG_nil))))))))) (by kernel_rfl) ?_
    conv => whnf
    refine And.intro (by (conv => whnf); exact ⟨rfl, rfl⟩) ?_
    conv => whnf
    refine And.intro (effD_mkH [] 1000 ((impl_clone_AclRule_c hx3).eff rfl rfl) (by (repeat' first | ((conv => whnf); first | exact trivial | refine And.intro ?_ ?_ | exact BLe.refl _ | exact VLe.refl _) | exact trivial | refine And.intro ?_ ?_ | exact VLe.refl _ | exact VLe.any _ | exact VLe.nil_osl rfl | exact VLe.nil_sl rfl | exact VLe.built rfl rfl | (refine VLe.osl rfl ?_; (first | rfl | (simp; done) | assumption | (simp [dsub_eq] <;> omega) | omega)) | exact VLe.rows (by first | rfl | (simp; done) | assumption | (simp [dsub_eq] <;> omega) | omega) (fun _ _ => rfl) | exact VLe.rows (by simp [dsub_eq] <;> omega) rows_take | exact VLe.rows (by simp [dsub_eq] <;> omega) rows_dt | exact VLe.rows (by simp [dsub_eq] <;> omega) rows_vt | exact VLe.rows (by simp) (fun i _ => by simp [viewRow_eq, Nat.add_comm]) | refine VLe.aggL ?_)) (by (repeat' first | ((conv => whnf); first | exact trivial | refine And.intro ?_ ?_ | exact BLe.refl _ | exact VLe.refl _) | exact trivial | exact rfl | refine And.intro ?_ ?_ | exact BLe.refl _ | exact VLe.refl _ | exact VLe.any _ | exact VLe.nil_osl rfl | exact VLe.nil_sl rfl | exact VLe.built rfl rfl | (refine VLe.osl rfl ?_; (first | rfl | (simp; done) | assumption | (simp [dsub_eq] <;> omega) | omega)) | exact VLe.rows (by first | rfl | (simp; done) | assumption | (simp [dsub_eq] <;> omega) | omega) (fun _ _ => rfl) | exact VLe.rows (by simp [dsub_eq] <;> omega) rows_take | exact VLe.rows (by simp [dsub_eq] <;> omega) rows_dt | exact VLe.rows (by simp [dsub_eq] <;> omega) rows_vt | exact VLe.rows (by simp) (fun i _ => by simp [viewRow_eq, Nat.add_comm]) | refine VLe.aggL ?_ | (refine BLe.rows rfl ?_ fun _ _ => rfl; (first | rfl | (simp; done) | assumption | (simp [dsub_eq] <;> omega) | omega)) | refine BLe.box ?_ | (simp; done))) rfl rfl rfl rfl) ?_
    conv => whnf
    refine And.intro (by (conv => whnf); exact ⟨rfl, rfl⟩) ?_
    conv => whnf
    refine And.intro (by (conv => whnf); exact ⟨g4, (x3 ++ a1).length, rows AclRule.enc (x3 ++ a1), (by first | rfl | (simp; done) | assumption | (simp [dsub_eq] <;> omega) | omega), (by first | exact app_rows (m := a1.length) (by first | rfl | (simp; done) | assumption | (simp [dsub_eq] <;> omega) | omega) (by first | rfl | (simp; done) | assumption | (simp [dsub_eq] <;> omega) | omega) (fun _ _ => rfl) (fun _ _ => rfl) | exact app_rows0 (m := a1.length) (by first | rfl | (simp; done) | assumption | (simp [dsub_eq] <;> omega) | omega) (fun _ _ => rfl) | exact app_rows (m := a1.length) (by first | rfl | (simp; done) | assumption | (simp [dsub_eq] <;> omega) | omega) (by first | rfl | (simp; done) | assumption | (simp [dsub_eq] <;> omega) | omega) (by first | exact fun _ _ => rfl | exact rows_take | (intro i hi; simp only [viewRow_eq, addOff_eq, Int.toNat_zero, Nat.zero_add, Nat.add_zero]; exact rows_take i hi) | exact rows_vt | exact rows_dt | (intro i hi; simp only [viewRow_eq, Nat.zero_add]) | (intro i hi; simp [viewRow_eq])) (by first | exact fun _ _ => rfl | exact rows_take | (intro i hi; simp only [viewRow_eq, addOff_eq, Int.toNat_zero, Nat.zero_add, Nat.add_zero]; exact rows_take i hi) | exact rows_vt | exact rows_dt | (intro i hi; simp only [viewRow_eq, Nat.zero_add]) | (intro i hi; simp [viewRow_eq])) | exact app_rows0 (m := a1.length) (by first | rfl | (simp; done) | assumption | (simp [dsub_eq] <;> omega) | omega) (by first | exact fun _ _ => rfl | exact rows_take | (intro i hi; simp only [viewRow_eq, addOff_eq, Int.toNat_zero, Nat.zero_add, Nat.add_zero]; exact rows_take i hi) | exact rows_vt | exact rows_dt | (intro i hi; simp only [viewRow_eq, Nat.zero_add]) | (intro i hi; simp [viewRow_eq]))), rfl, rfl⟩) ?_
    conv => whnf
    refine And.intro (effD_mk [(2, 2), (3, 3), (18, 18)] 0 ((impl_least_impl_AclDiffer_1_c hx5).effV (args := [.osl 18 0 ((x3 ++ a1).length), .fn 45 [.ref 2 0 0, .ref 3 0 0]]) (bs := [(2, .box 28 [.d (slD AclRule.enc a0)]), (3, .box 28 [.d (slD AclRule.enc a1)]), (18, .arr 41 6 ((x3 ++ a1).length) (rows AclRule.enc (x3 ++ a1)))]) rfl (by kernel_rfl) rfl rfl rfl) (by (repeat' first | ((conv => whnf); first | exact trivial | refine And.intro ?_ ?_ | exact BLe.refl _ | exact VLe.refl _) | exact trivial | refine And.intro ?_ ?_ | exact VLe.refl _ | exact VLe.any _ | exact VLe.nil_osl rfl | exact VLe.nil_sl rfl | exact VLe.built rfl rfl | (refine VLe.osl rfl ?_; (first | rfl | (simp; done) | assumption | (simp [dsub_eq] <;> omega) | omega)) | exact VLe.rows (by first | rfl | (simp; done) | assumption | (simp [dsub_eq] <;> omega) | omega) (fun _ _ => rfl) | exact VLe.rows (by simp [dsub_eq] <;> omega) rows_take | exact VLe.rows (by simp [dsub_eq] <;> omega) rows_dt | exact VLe.rows (by simp [dsub_eq] <;> omega) rows_vt | exact VLe.rows (by simp) (fun i _ => by simp [viewRow_eq, Nat.add_comm]) | refine VLe.aggL ?_)) (by (repeat' first | ((conv => whnf); first | exact trivial | refine And.intro ?_ ?_ | exact BLe.refl _ | exact VLe.refl _) | exact trivial | exact rfl | refine And.intro ?_ ?_ | exact BLe.refl _ | exact VLe.refl _ | exact VLe.any _ | exact VLe.nil_osl rfl | exact VLe.nil_sl rfl | exact VLe.built rfl rfl | (refine VLe.osl rfl ?_; (first | rfl | (simp; done) | assumption | (simp [dsub_eq] <;> omega) | omega)) | exact VLe.rows (by first | rfl | (simp; done) | assumption | (simp [dsub_eq] <;> omega) | omega) (fun _ _ => rfl) | exact VLe.rows (by simp [dsub_eq] <;> omega) rows_take | exact VLe.rows (by simp [dsub_eq] <;> omega) rows_dt | exact VLe.rows (by simp [dsub_eq] <;> omega) rows_vt | exact VLe.rows (by simp) (fun i _ => by simp [viewRow_eq, Nat.add_comm]) | refine VLe.aggL ?_ | (refine BLe.rows rfl ?_ fun _ _ => rfl; (first | rfl | (simp; done) | assumption | (simp [dsub_eq] <;> omega) | omega)) | refine BLe.box ?_ | (simp; done))) rfl rfl rfl rfl) ?_
    conv => whnf
    refine And.intro (by kernel_rfl) ?_
    conv => whnf
    obtain rfl := Option.some.inj h
    exact ⟨_, LE.refl _, And.intro rfl trivial⟩

noncomputable def spec_AclDiffer_m (a0 : (List AclRule)) (a1 : (List AclRule)) : Option (AclPacket × Bool) :=
 bd (spec_AclOk_m a0) fun x1 =>
 bd (gcall ((!x1) = false) (spec_AclOk_m a1)) fun x2 =>
(if ((!x1) || (!x2)) = true then
 some ((⟨0, 0, 0⟩ : AclPacket), false)
else
 bd (spec_l4Least_m a0 a1 (-1)) fun x3 =>
 some (x3.1, x3.2))

theorem spec_AclDiffer_c {a0 : (List AclRule)} {a1 : (List AclRule)} {r : AclPacket × Bool} (h : spec_AclDiffer_m a0 a1 = some r) : PureC Try.prog 17 [.d (slD AclRule.enc a0), .d (slD AclRule.enc a1)] (.tup [.agg [.d (.int .i64 r.1.From), .d (.int .i64 r.1.To), .d (.int .i64 r.1.Kind)], .d (.bool r.2)]) [] := by
  refine pureC_m tOk (fn := Try.f17) (c := codeOf Try.f17) rfl rfl (by kernel_rfl) rfl rfl (by simp) (by simp) (ids_of rfl) ?_
  unfold spec_AclDiffer_m at h
  conv => whnf
  refine seq_in tOk ?_
  conv => whnf
  obtain ⟨x1, hx1, h⟩ := bd_some h
  refine callC 0 (spec_AclOk_c hx1) (by kernel_rfl) (by kernel_rfl) ?_
  clear hx1
  conv => whnf
  obtain ⟨x2, hx2, h⟩ := bd_some h
  refine callG_m rfl rfl rfl rfl rfl rfl (by intro c0; exact spec_AclOk_c (gcall_some hx2 c0)) ?_
  conv => whnf
  refine And.intro (fun e => ?_) (fun e => ?_)
  · replace h := ite_t h e; clear e
    conv => whnf
    obtain rfl := Option.some.inj h
    exact ⟨_, LE.refl _, And.intro rfl trivial⟩
  · replace h := ite_f h e; clear e
    conv => whnf
    obtain ⟨x3, hx3, h⟩ := bd_some h
    refine callC 0 (spec_l4Least_c hx3) (by kernel_rfl) (by kernel_rfl) ?_
    clear hx3
    conv => whnf
    obtain rfl := Option.some.inj h
    exact ⟨_, LE.refl _, And.intro rfl trivial⟩

noncomputable def spec_l4PacketOk_m (a0 : AclPacket) : Option (Bool) :=
 bd (spec_l1In_m a0.From 0 65535) fun x1 =>
 bd (gcall (x1 = true) (spec_l1In_m a0.To 0 65535)) fun x2 =>
 bd (gcall ((x1 && x2) = true) (spec_l1In_m a0.Kind 1 7)) fun x3 =>
 some ((x1 && x2) && x3)

theorem spec_l4PacketOk_c {a0 : AclPacket} {r : Bool} (h : spec_l4PacketOk_m a0 = some r) : PureC Try.prog 30 [.agg [.d (.int .i64 a0.From), .d (.int .i64 a0.To), .d (.int .i64 a0.Kind)]] (.d (.bool r)) [] := by
  refine pureC_m tOk (fn := Try.f30) (c := codeOf Try.f30) rfl rfl (by kernel_rfl) rfl rfl (by simp) (by simp) (ids_of rfl) ?_
  unfold spec_l4PacketOk_m at h
  conv => whnf
  obtain ⟨x1, hx1, h⟩ := bd_some h
  refine callC 0 (spec_l1In_c hx1) (by kernel_rfl) (by kernel_rfl) ?_
  clear hx1
  conv => whnf
  obtain ⟨x2, hx2, h⟩ := bd_some h
  refine callG_m rfl rfl rfl rfl rfl rfl (by intro c0; exact spec_l1In_c (gcall_some hx2 c0)) ?_
  conv => whnf
  obtain ⟨x3, hx3, h⟩ := bd_some h
  refine callG_m rfl rfl rfl rfl rfl rfl (by intro c0; exact spec_l1In_c (gcall_some hx3 c0)) ?_
  conv => whnf
  obtain rfl := Option.some.inj h
  exact ⟨_, LE.refl _, And.intro rfl trivial⟩

noncomputable def spec_AclSays_m (a0 : (List AclRule)) (a1 : AclPacket) : Option (Int × Bool) :=
 bd (spec_AclOk_m a0) fun x1 =>
 bd (gcall ((!x1) = false) (spec_l4PacketOk_m a1)) fun x2 =>
(if ((!x1) || (!x2)) = true then
 some (-1, false)
else
 bd (spec_l4Says_m a0 a1) fun x3 =>
 some (x3.1, x3.2))

theorem spec_AclSays_c {a0 : (List AclRule)} {a1 : AclPacket} {r : Int × Bool} (h : spec_AclSays_m a0 a1 = some r) : PureC Try.prog 10 [.d (slD AclRule.enc a0), .agg [.d (.int .i64 a1.From), .d (.int .i64 a1.To), .d (.int .i64 a1.Kind)]] (.tup [.d (.int .i64 r.1), .d (.bool r.2)]) [] := by
  refine pureC_m tOk (fn := Try.f10) (c := codeOf Try.f10) rfl rfl (by kernel_rfl) rfl rfl (by simp) (by simp) (ids_of rfl) ?_
  unfold spec_AclSays_m at h
  conv => whnf
  refine seq_in tOk ?_
  conv => whnf
  obtain ⟨x1, hx1, h⟩ := bd_some h
  refine callC 0 (spec_AclOk_c hx1) (by kernel_rfl) (by kernel_rfl) ?_
  clear hx1
  conv => whnf
  obtain ⟨x2, hx2, h⟩ := bd_some h
  refine callG_m rfl rfl rfl rfl rfl rfl (by intro c0; exact spec_l4PacketOk_c (gcall_some hx2 c0)) ?_
  conv => whnf
  refine And.intro (fun e => ?_) (fun e => ?_)
  · replace h := ite_t h e; clear e
    conv => whnf
    obtain rfl := Option.some.inj h
    exact ⟨_, LE.refl _, And.intro rfl trivial⟩
  · replace h := ite_f h e; clear e
    conv => whnf
    obtain ⟨x3, hx3, h⟩ := bd_some h
    refine callC 0 (spec_l4Says_c hx3) (by kernel_rfl) (by kernel_rfl) ?_
    clear hx3
    conv => whnf
    obtain rfl := Option.some.inj h
    exact ⟨_, LE.refl _, And.intro rfl trivial⟩

noncomputable def spec_DrawAclDiffer_m (a0 : (List Int)) : Option ((List AclRule) × (List AclRule)) :=
 bd (spec_l1Open_m a0) fun x1 =>
 bd (spec_l5AnyRules_m x1) fun x2 =>
 gd (((0) + (x2.1.length)) * (48 + 1) ≤ 70368744177664) <|
 bd (α := List AclRule × Int) ((if (decide (((x2.1.length : Nat) : Int) > 1)) = true then
 bd (spec_l1Rd_pick_m (⟨x1.b, x2.2.p⟩ : l1Rd) (IntKind.i64.wrap (((x2.1.length : Nat) : Int) - 1))) fun x6 =>
 bd (spec_l1Rd_pick_m (⟨x1.b, x6.2.p⟩ : l1Rd) 4) fun x7 =>
(if (x7.1 == 0) = true then
 gd ((0 : Int) ≤ x6.1 ∧ x6.1 < ((x2.1.length : Nat) : Int)) <|
 gd ((0 : Int) ≤ IntKind.i64.wrap (x6.1 + 1) ∧ IntKind.i64.wrap (x6.1 + 1) < ((x2.1.length : Nat) : Int)) <|
 gd ((0 : Int) ≤ x6.1 ∧ x6.1 < ((x2.1.length : Nat) : Int)) <|
 bd (some (x2.1.set x6.1.toNat ({ (x2.1.getD ((IntKind.i64.wrap (x6.1 + 1)).toNat) default) with From := ((x2.1.getD ((IntKind.i64.wrap (x6.1 + 1)).toNat) default).From), To := ((x2.1.getD ((IntKind.i64.wrap (x6.1 + 1)).toNat) default).To) }))) fun x11 =>
 gd ((0 : Int) ≤ IntKind.i64.wrap (x6.1 + 1) ∧ IntKind.i64.wrap (x6.1 + 1) < ((x2.1.length : Nat) : Int)) <|
 bd (some (x11.set ((IntKind.i64.wrap (x6.1 + 1)).toNat) ({ (x2.1.getD x6.1.toNat default) with From := ((x2.1.getD x6.1.toNat default).From), To := ((x2.1.getD x6.1.toNat default).To) }))) fun x13 =>
 some (x13, x7.2.p)
else
(if (x7.1 == 1) = true then
 gd ((0 : Int) ≤ (0 : Int) ∧ (0 : Int) ≤ x6.1 ∧ x6.1 ≤ ((x2.1.length : Nat) : Int)) <|
 gd (((0) + (x6.1.toNat)) * (48 + 1) ≤ 70368744177664) <|
 gd ((0 : Int) ≤ IntKind.i64.wrap (x6.1 + 1) ∧ IntKind.i64.wrap (x6.1 + 1) ≤ ((x2.1.length : Nat) : Int) ∧ ((x2.1.length : Nat) : Int) ≤ ((x2.1.length : Nat) : Int)) <|
 gd ((((x2.1.take x6.1.toNat).length) + ((dsub ((x2.1.length : Nat) : Int) (IntKind.i64.wrap (x6.1 + 1))))) * (48 + 1) ≤ 70368744177664) <|
 some (((x2.1.take x6.1.toNat) ++ (((x2.1).take ((IntKind.i64.wrap (x6.1 + 1)).toNat + (dsub ((x2.1.length : Nat) : Int) (IntKind.i64.wrap (x6.1 + 1))))).drop ((IntKind.i64.wrap (x6.1 + 1)).toNat))), x7.2.p)
else
(if (x7.1 == 2) = true then
 gd ((0 : Int) ≤ x6.1 ∧ x6.1 < ((x2.1.length : Nat) : Int)) <|
 gd ((0 : Int) ≤ x6.1 ∧ x6.1 < ((x2.1.length : Nat) : Int)) <|
 bd (some (x2.1.set x6.1.toNat (⟨(!((x2.1.getD x6.1.toNat default).Permit)), ((x2.1.getD x6.1.toNat default).From), ((x2.1.getD x6.1.toNat default).To), (x2.1.getD x6.1.toNat default).Kind⟩ : AclRule))) fun x20 =>
 some (x20, x7.2.p)
else
 some (x2.1, x7.2.p))))
else
 some (x2.1, x2.2.p))) fun x3 =>
 bd (spec_l1Rd_pick_m (⟨x1.b, x3.2⟩ : l1Rd) 8) fun x21 =>
(if (x21.1 == 0) = true then
 bd (spec_l5AnyRules_m (⟨x1.b, x21.2.p⟩ : l1Rd)) fun x22 =>
 some (x2.1, x22.1)
else
 some (x2.1, x3.1))

theorem spec_DrawAclDiffer_c {a0 : (List Int)} {r : (List AclRule) × (List AclRule)} (h : spec_DrawAclDiffer_m a0 = some r) : PureC Try.prog 23 [.d (slD encByte a0)] (.tup [.osl 5001 0 r.1.length, .osl 5002 0 r.2.length]) [⟨5001, 41, 6, r.1.length, rows AclRule.enc r.1⟩, ⟨5002, 41, 6, r.2.length, rows AclRule.enc r.2⟩] := by
  refine pureC_m tOk (fn := Try.f23) (c := codeOf Try.f23) rfl rfl (by kernel_rfl) rfl rfl (by simp [atomD]) (by simp) (ids_of rfl) ?_
  unfold spec_DrawAclDiffer_m at h
  conv => whnf
  obtain ⟨x1, hx1, h⟩ := bd_some h
  refine callE [] 1000 (spec_l1Open_c hx1) (by (repeat' first | ((conv => whnf); first | exact trivial | refine And.intro ?_ ?_ | exact BLe.refl _ | exact VLe.refl _) | exact trivial | refine And.intro ?_ ?_ | exact VLe.refl _ | exact VLe.any _ | exact VLe.nil_osl rfl | exact VLe.nil_sl rfl | exact VLe.built rfl rfl | (refine VLe.osl rfl ?_; (first | rfl | (simp; done) | assumption | (simp [dsub_eq] <;> omega) | omega)) | exact VLe.rows (by first | rfl | (simp; done) | assumption | (simp [dsub_eq] <;> omega) | omega) (fun _ _ => rfl) | exact VLe.rows (by simp [dsub_eq] <;> omega) rows_take | exact VLe.rows (by simp [dsub_eq] <;> omega) rows_dt | exact VLe.rows (by simp [dsub_eq] <;> omega) rows_vt | exact VLe.rows (by simp) (fun i _ => by simp [viewRow_eq, Nat.add_comm]) | refine VLe.aggL ?_)) (by (repeat' first | ((conv => whnf); first | exact trivial | refine And.intro ?_ ?_ | exact BLe.refl _ | exact VLe.refl _) | exact trivial | exact rfl | refine And.intro ?_ ?_ | exact BLe.refl _ | exact VLe.refl _ | exact VLe.any _ | exact VLe.nil_osl rfl | exact VLe.nil_sl rfl | exact VLe.built rfl rfl | (refine VLe.osl rfl ?_; (first | rfl | (simp; done) | assumption | (simp [dsub_eq] <;> omega) | omega)) | exact VLe.rows (by first | rfl | (simp; done) | assumption | (simp [dsub_eq] <;> omega) | omega) (fun _ _ => rfl) | exact VLe.rows (by simp [dsub_eq] <;> omega) rows_take | exact VLe.rows (by simp [dsub_eq] <;> omega) rows_dt | exact VLe.rows (by simp [dsub_eq] <;> omega) rows_vt | exact VLe.rows (by simp) (fun i _ => by simp [viewRow_eq, Nat.add_comm]) | refine VLe.aggL ?_ | (refine BLe.rows rfl ?_ fun _ _ => rfl; (first | rfl | (simp; done) | assumption | (simp [dsub_eq] <;> omega) | omega)) | refine BLe.box ?_ | (simp; done))) rfl rfl ?_
  conv => whnf
  obtain ⟨x2, hx2, h⟩ := bd_some h
  refine callE [(9000, 6001)] 2000 (spec_l5AnyRules_c hx2) (by (repeat' first | ((conv => whnf); first | exact trivial | refine And.intro ?_ ?_ | exact BLe.refl _ | exact VLe.refl _) | exact trivial | refine And.intro ?_ ?_ | exact VLe.refl _ | exact VLe.any _ | exact VLe.nil_osl rfl | exact VLe.nil_sl rfl | exact VLe.built rfl rfl | (refine VLe.osl rfl ?_; (first | rfl | (simp; done) | assumption | (simp [dsub_eq] <;> omega) | omega)) | exact VLe.rows (by first | rfl | (simp; done) | assumption | (simp [dsub_eq] <;> omega) | omega) (fun _ _ => rfl) | exact VLe.rows (by simp [dsub_eq] <;> omega) rows_take | exact VLe.rows (by simp [dsub_eq] <;> omega) rows_dt | exact VLe.rows (by simp [dsub_eq] <;> omega) rows_vt | exact VLe.rows (by simp) (fun i _ => by simp [viewRow_eq, Nat.add_comm]) | refine VLe.aggL ?_)) (by (repeat' first | ((conv => whnf); first | exact trivial | refine And.intro ?_ ?_ | exact BLe.refl _ | exact VLe.refl _) | exact trivial | exact rfl | refine And.intro ?_ ?_ | exact BLe.refl _ | exact VLe.refl _ | exact VLe.any _ | exact VLe.nil_osl rfl | exact VLe.nil_sl rfl | exact VLe.built rfl rfl | (refine VLe.osl rfl ?_; (first | rfl | (simp; done) | assumption | (simp [dsub_eq] <;> omega) | omega)) | exact VLe.rows (by first | rfl | (simp; done) | assumption | (simp [dsub_eq] <;> omega) | omega) (fun _ _ => rfl) | exact VLe.rows (by simp [dsub_eq] <;> omega) rows_take | exact VLe.rows (by simp [dsub_eq] <;> omega) rows_dt | exact VLe.rows (by simp [dsub_eq] <;> omega) rows_vt | exact VLe.rows (by simp) (fun i _ => by simp [viewRow_eq, Nat.add_comm]) | refine VLe.aggL ?_ | (refine BLe.rows rfl ?_ fun _ _ => rfl; (first | rfl | (simp; done) | assumption | (simp [dsub_eq] <;> omega) | omega)) | refine BLe.box ?_ | (simp; done))) rfl rfl ?_
  conv => whnf
  obtain ⟨g23, h⟩ := gd_some h
  refine And.intro g23 ?_
  clear g23
  refine ⟨x2.1.length, rows AclRule.enc x2.1, (by first | rfl | (simp; done) | assumption | (simp [dsub_eq] <;> omega) | omega), (by first | exact app_rows (m := x2.1.length) (by first | rfl | (simp; done) | assumption | (simp [dsub_eq] <;> omega) | omega) (by first | rfl | (simp; done) | assumption | (simp [dsub_eq] <;> omega) | omega) (fun _ _ => rfl) (fun _ _ => rfl) | exact app_rows0 (m := x2.1.length) (by first | rfl | (simp; done) | assumption | (simp [dsub_eq] <;> omega) | omega) (fun _ _ => rfl) | exact app_rows (m := x2.1.length) (by first | rfl | (simp; done) | assumption | (simp [dsub_eq] <;> omega) | omega) (by first | rfl | (simp; done) | assumption | (simp [dsub_eq] <;> omega) | omega) (by first | exact fun _ _ => rfl | exact rows_take | (intro i hi; simp only [viewRow_eq, addOff_eq, Int.toNat_zero, Nat.zero_add, Nat.add_zero]; exact rows_take i hi) | exact rows_vt | exact rows_dt | (intro i hi; simp only [viewRow_eq, Nat.zero_add]) | (intro i hi; simp [viewRow_eq])) (by first | exact fun _ _ => rfl | exact rows_take | (intro i hi; simp only [viewRow_eq, addOff_eq, Int.toNat_zero, Nat.zero_add, Nat.add_zero]; exact rows_take i hi) | exact rows_vt | exact rows_dt | (intro i hi; simp only [viewRow_eq, Nat.zero_add]) | (intro i hi; simp [viewRow_eq])) | exact app_rows0 (m := x2.1.length) (by first | rfl | (simp; done) | assumption | (simp [dsub_eq] <;> omega) | omega) (by first | exact fun _ _ => rfl | exact rows_take | (intro i hi; simp only [viewRow_eq, addOff_eq, Int.toNat_zero, Nat.zero_add, Nat.add_zero]; exact rows_take i hi) | exact rows_vt | exact rows_dt | (intro i hi; simp only [viewRow_eq, Nat.zero_add]) | (intro i hi; simp [viewRow_eq]))), ?_⟩
  conv => whnf
  obtain ⟨x3, hx3, h⟩ := bd_some h
  refine seq_join tOk (fun s4 => ⟨0, 76, [(4, .ref 6001 0 0), (5, .osl 7001 0 x2.1.length), (6, .osl 15 0 s4.1.length)], [], [(15, .arr 41 6 s4.1.length (rows AclRule.enc s4.1)), (7001, .arr 41 6 x2.1.length (rows AclRule.enc x2.1)), (6001, .box 79 [.d (slD encByte x1.b), .d (.int .i64 s4.2)])], []⟩) (fun s4 => x3 = s4) ?_ ?_
  · conv => whnf
    refine And.intro (fun e => ?_) (fun e => ?_)
    · replace hx3 := ite_t hx3 e; clear e
      conv => whnf
      obtain ⟨x6, hx6, hx3⟩ := bd_some hx3
      refine callE [(9000, 6001)] 0 (spec_l1Rd_pick_c hx6) (by (repeat' first | ((conv => whnf); first | exact trivial | refine And.intro ?_ ?_ | exact BLe.refl _ | exact VLe.refl _) | exact trivial | refine And.intro ?_ ?_ | exact VLe.refl _ | exact VLe.any _ | exact VLe.nil_osl rfl | exact VLe.nil_sl rfl | exact VLe.built rfl rfl | (refine VLe.osl rfl ?_; (first | rfl | (simp; done) | assumption | (simp [dsub_eq] <;> omega) | omega)) | exact VLe.rows (by first | rfl | (simp; done) | assumption | (simp [dsub_eq] <;> omega) | omega) (fun _ _ => rfl) | exact VLe.rows (by simp [dsub_eq] <;> omega) rows_take | exact VLe.rows (by simp [dsub_eq] <;> omega) rows_dt | exact VLe.rows (by simp [dsub_eq] <;> omega) rows_vt | exact VLe.rows (by simp) (fun i _ => by simp [viewRow_eq, Nat.add_comm]) | refine VLe.aggL ?_)) (by (repeat' first | ((conv => whnf); first | exact trivial | refine And.intro ?_ ?_ | exact BLe.refl _ | exact VLe.refl _) | exact trivial | exact rfl | refine And.intro ?_ ?_ | exact BLe.refl _ | exact VLe.refl _ | exact VLe.any _ | exact VLe.nil_osl rfl | exact VLe.nil_sl rfl | exact VLe.built rfl rfl | (refine VLe.osl rfl ?_; (first | rfl | (simp; done) | assumption | (simp [dsub_eq] <;> omega) | omega)) | exact VLe.rows (by first | rfl | (simp; done) | assumption | (simp [dsub_eq] <;> omega) | omega) (fun _ _ => rfl) | exact VLe.rows (by simp [dsub_eq] <;> omega) rows_take | exact VLe.rows (by simp [dsub_eq] <;> omega) rows_dt | exact VLe.rows (by simp [dsub_eq] <;> omega) rows_vt | exact VLe.rows (by simp) (fun i _ => by simp [viewRow_eq, Nat.add_comm]) | refine VLe.aggL ?_ | (refine BLe.rows rfl ?_ fun _ _ => rfl; (first | rfl | (simp; done) | assumption | (simp [dsub_eq] <;> omega) | omega)) | refine BLe.box ?_ | (simp; done))) rfl rfl ?_
      conv => whnf
      obtain ⟨x7, hx7, hx3⟩ := bd_some hx3
      refine callE [(9000, 6001)] 0 (spec_l1Rd_pick_c hx7) (by (repeat' first | ((conv => whnf); first | exact trivial | refine And.intro ?_ ?_ | exact BLe.refl _ | exact VLe.refl _) | exact trivial | refine And.intro ?_ ?_ | exact VLe.refl _ | exact VLe.any _ | exact VLe.nil_osl rfl | exact VLe.nil_sl rfl | exact VLe.built rfl rfl | (refine VLe.osl rfl ?_; (first | rfl | (simp; done) | assumption | (simp [dsub_eq] <;> omega) | omega)) | exact VLe.rows (by first | rfl | (simp; done) | assumption | (simp [dsub_eq] <;> omega) | omega) (fun _ _ => rfl) | exact VLe.rows (by simp [dsub_eq] <;> omega) rows_take | exact VLe.rows (by simp [dsub_eq] <;> omega) rows_dt | exact VLe.rows (by simp [dsub_eq] <;> omega) rows_vt | exact VLe.rows (by simp) (fun i _ => by simp [viewRow_eq, Nat.add_comm]) | refine VLe.aggL ?_)) (by (repeat' first | ((conv => whnf); first | exact trivial | refine And.intro ?_ ?_ | exact BLe.refl _ | exact VLe.refl _) | exact trivial | exact rfl | refine And.intro ?_ ?_ | exact BLe.refl _ | exact VLe.refl _ | exact VLe.any _ | exact VLe.nil_osl rfl | exact VLe.nil_sl rfl | exact VLe.built rfl rfl | (refine VLe.osl rfl ?_; (first | rfl | (simp; done) | assumption | (simp [dsub_eq] <;> omega) | omega)) | exact VLe.rows (by first | rfl | (simp; done) | assumption | (simp [dsub_eq] <;> omega) | omega) (fun _ _ => rfl) | exact VLe.rows (by simp [dsub_eq] <;> omega) rows_take | exact VLe.rows (by simp [dsub_eq] <;> omega) rows_dt | exact VLe.rows (by simp [dsub_eq] <;> omega) rows_vt | exact VLe.rows (by simp) (fun i _ => by simp [viewRow_eq, Nat.add_comm]) | refine VLe.aggL ?_ | (refine BLe.rows rfl ?_ fun _ _ => rfl; (first | rfl | (simp; done) | assumption | (simp [dsub_eq] <;> omega) | omega)) | refine BLe.box ?_ | (simp; done))) rfl rfl ?_
      conv => whnf
      refine And.intro (fun e => ?_) (fun e => ?_)
      · replace hx3 := ite_t hx3 e; clear e
        conv => whnf
        obtain ⟨g8, hx3⟩ := gd_some hx3
        refine And.intro g8 ?_
        clear g8
        conv => whnf
        obtain ⟨g9, hx3⟩ := gd_some hx3
        refine And.intro g9 ?_
        clear g9
        conv => whnf
        obtain ⟨g10, hx3⟩ := gd_some hx3
        refine And.intro g10 ?_
        clear g10
        conv => whnf
        obtain ⟨x11, hx11, hx3⟩ := bd_some hx3
        replace hx11 := Option.some.inj hx11
        have hlx11 := set_len hx11
        try simp only [List.length_set] at hlx11
        refine ⟨rows AclRule.enc x11, store_rows2 hx11 ((by first | rfl | (simp; done) | assumption | (simp [dsub_eq] <;> omega) | omega)) rfl, ?_⟩
        conv => whnf
        obtain ⟨g12, hx3⟩ := gd_some hx3
        refine And.intro g12 ?_
        clear g12
        conv => whnf
        obtain ⟨x13, hx13, hx3⟩ := bd_some hx3
        replace hx13 := Option.some.inj hx13
        have hlx13 := set_len hx13
        try simp only [List.length_set] at hlx13
        refine ⟨rows AclRule.enc x13, store_rows2 hx13 ((by first | rfl | (simp; done) | assumption | (simp [dsub_eq] <;> omega) | omega)) rfl, ?_⟩
        conv => whnf
        obtain rfl := Option.some.inj hx3
        refine ⟨_, rfl, le_mk ?_ ?_ ?_⟩ <;> (repeat' first | ((conv => whnf); first | exact trivial | refine And.intro ?_ ?_ | exact BLe.refl _ | exact VLe.refl _) | exact trivial | exact rfl | refine And.intro ?_ ?_ | exact BLe.refl _ | exact VLe.refl _ | exact VLe.any _ | exact VLe.nil_osl rfl | exact VLe.nil_sl rfl | exact VLe.built rfl rfl | (refine VLe.osl rfl ?_; (first | rfl | (simp; done) | assumption | (simp [dsub_eq] <;> omega) | omega)) | exact VLe.rows (by first | rfl | (simp; done) | assumption | (simp [dsub_eq] <;> omega) | omega) (fun _ _ => rfl) | exact VLe.rows (by simp [dsub_eq] <;> omega) rows_take | exact VLe.rows (by simp [dsub_eq] <;> omega) rows_dt | exact VLe.rows (by simp [dsub_eq] <;> omega) rows_vt | exact VLe.rows (by simp) (fun i _ => by simp [viewRow_eq, Nat.add_comm]) | refine VLe.aggL ?_ | (refine BLe.rows rfl ?_ fun _ _ => rfl; (first | rfl | (simp; done) | assumption | (simp [dsub_eq] <;> omega) | omega)) | (refine BLe.rows rfl rfl ?_; first | exact rows_take) | refine BLe.box ?_)
      · replace hx3 := ite_f hx3 e; clear e
        conv => whnf
        refine And.intro (fun e => ?_) (fun e => ?_)
        · replace hx3 := ite_t hx3 e; clear e
          conv => whnf
          obtain ⟨g14, hx3⟩ := gd_some hx3
          obtain ⟨g15, hx3⟩ := gd_some hx3
          obtain ⟨g16, hx3⟩ := gd_some hx3
          refine draw_k tOk (by kernel_rfl) (fun _ => none) 9 [] [[], [], [], [false, true, true], [true, true, true, true], [], [], [false, false, false, false, false, false, true], [false, false, false, false, false, true, true, true]] [[true, true, true, true, true, true, true, true, true], [true, true, true, true, true, true, true, true, true, true]] (by decide) (by kernel_rfl) (by kernel_rfl) ?_
          conv => whnf
          refine And.intro g14 ?_
          conv => whnf
          refine And.intro g15 ?_
          clear g15
          refine ⟨(x2.1.take x6.1.toNat).length, rows AclRule.enc (x2.1.take x6.1.toNat), (by first | rfl | (simp; done) | assumption | (simp [dsub_eq] <;> omega) | omega), (by first | exact app_rows (m := x6.1.toNat) (by first | rfl | (simp; done) | assumption | (simp [dsub_eq] <;> omega) | omega) (by first | rfl | (simp; done) | assumption | (simp [dsub_eq] <;> omega) | omega) (fun _ _ => rfl) (fun _ _ => rfl) | exact app_rows0 (m := x6.1.toNat) (by first | rfl | (simp; done) | assumption | (simp [dsub_eq] <;> omega) | omega) (fun _ _ => rfl) | exact app_rows (m := x6.1.toNat) (by first | rfl | (simp; done) | assumption | (simp [dsub_eq] <;> omega) | omega) (by first | rfl | (simp; done) | assumption | (simp [dsub_eq] <;> omega) | omega) (by first | exact fun _ _ => rfl | exact rows_take | (intro i hi; simp only [viewRow_eq, addOff_eq, Int.toNat_zero, Nat.zero_add, Nat.add_zero]; exact rows_take i hi) | exact rows_vt | exact rows_dt | (intro i hi; simp only [viewRow_eq, Nat.zero_add]) | (intro i hi; simp [viewRow_eq])) (by first | exact fun _ _ => rfl | exact rows_take | (intro i hi; simp only [viewRow_eq, addOff_eq, Int.toNat_zero, Nat.zero_add, Nat.add_zero]; exact rows_take i hi) | exact rows_vt | exact rows_dt | (intro i hi; simp only [viewRow_eq, Nat.zero_add]) | (intro i hi; simp [viewRow_eq])) | exact app_rows0 (m := x6.1.toNat) (by first | rfl | (simp; done) | assumption | (simp [dsub_eq] <;> omega) | omega) (by first | exact fun _ _ => rfl | exact rows_take | (intro i hi; simp only [viewRow_eq, addOff_eq, Int.toNat_zero, Nat.zero_add, Nat.add_zero]; exact rows_take i hi) | exact rows_vt | exact rows_dt | (intro i hi; simp only [viewRow_eq, Nat.zero_add]) | (intro i hi; simp [viewRow_eq]))), ?_⟩
          conv => whnf
          refine And.intro g16 ?_
          conv => whnf
          refine And.intro (by kernel_rfl) ?_
          conv => whnf
          obtain ⟨g17, hx3⟩ := gd_some hx3
          refine And.intro g17 ?_
          clear g17
          refine ⟨((x2.1.take x6.1.toNat) ++ (((x2.1).take ((IntKind.i64.wrap (x6.1 + 1)).toNat + (dsub ((x2.1.length : Nat) : Int) (IntKind.i64.wrap (x6.1 + 1))))).drop ((IntKind.i64.wrap (x6.1 + 1)).toNat))).length, rows AclRule.enc ((x2.1.take x6.1.toNat) ++ (((x2.1).take ((IntKind.i64.wrap (x6.1 + 1)).toNat + (dsub ((x2.1.length : Nat) : Int) (IntKind.i64.wrap (x6.1 + 1))))).drop ((IntKind.i64.wrap (x6.1 + 1)).toNat))), (by first | rfl | (simp; done) | assumption | (simp [dsub_eq] <;> omega) | omega), (by first | exact app_rows (m := (dsub ((x2.1.length : Nat) : Int) (IntKind.i64.wrap (x6.1 + 1)))) (by first | rfl | (simp; done) | assumption | (simp [dsub_eq] <;> omega) | omega) (by first | rfl | (simp; done) | assumption | (simp [dsub_eq] <;> omega) | omega) (fun _ _ => rfl) (fun _ _ => rfl) | exact app_rows0 (m := (dsub ((x2.1.length : Nat) : Int) (IntKind.i64.wrap (x6.1 + 1)))) (by first | rfl | (simp; done) | assumption | (simp [dsub_eq] <;> omega) | omega) (fun _ _ => rfl) | exact app_rows (m := (dsub ((x2.1.length : Nat) : Int) (IntKind.i64.wrap (x6.1 + 1)))) (by first | rfl | (simp; done) | assumption | (simp [dsub_eq] <;> omega) | omega) (by first | rfl | (simp; done) | assumption | (simp [dsub_eq] <;> omega) | omega) (by first | exact fun _ _ => rfl | exact rows_take | (intro i hi; simp only [viewRow_eq, addOff_eq, Int.toNat_zero, Nat.zero_add, Nat.add_zero]; exact rows_take i hi) | exact rows_vt | exact rows_dt | (intro i hi; simp only [viewRow_eq, Nat.zero_add]) | (intro i hi; simp [viewRow_eq])) (by first | exact fun _ _ => rfl | exact rows_take | (intro i hi; simp only [viewRow_eq, addOff_eq, Int.toNat_zero, Nat.zero_add, Nat.add_zero]; exact rows_take i hi) | exact rows_vt | exact rows_dt | (intro i hi; simp only [viewRow_eq, Nat.zero_add]) | (intro i hi; simp [viewRow_eq])) | exact app_rows0 (m := (dsub ((x2.1.length : Nat) : Int) (IntKind.i64.wrap (x6.1 + 1)))) (by first | rfl | (simp; done) | assumption | (simp [dsub_eq] <;> omega) | omega) (by first | exact fun _ _ => rfl | exact rows_take | (intro i hi; simp only [viewRow_eq, addOff_eq, Int.toNat_zero, Nat.zero_add, Nat.add_zero]; exact rows_take i hi) | exact rows_vt | exact rows_dt | (intro i hi; simp only [viewRow_eq, Nat.zero_add]) | (intro i hi; simp [viewRow_eq]))), ?_⟩
          conv => whnf
          obtain rfl := Option.some.inj hx3
          refine ⟨_, rfl, LE.trans (S' := ⟨0, 76, [(4, .ref 6001 0 0), (5, .osl 7001 0 x2.1.length), (6, .osl 51 0 (((x2.1.take x6.1.toNat) ++ (((x2.1).take ((IntKind.i64.wrap (x6.1 + 1)).toNat + (dsub ((x2.1.length : Nat) : Int) (IntKind.i64.wrap (x6.1 + 1))))).drop ((IntKind.i64.wrap (x6.1 + 1)).toNat))).length))], [], [(51, .arr 41 6 (((x2.1.take x6.1.toNat) ++ (((x2.1).take ((IntKind.i64.wrap (x6.1 + 1)).toNat + (dsub ((x2.1.length : Nat) : Int) (IntKind.i64.wrap (x6.1 + 1))))).drop ((IntKind.i64.wrap (x6.1 + 1)).toNat))).length) (rows AclRule.enc ((x2.1.take x6.1.toNat) ++ (((x2.1).take ((IntKind.i64.wrap (x6.1 + 1)).toNat + (dsub ((x2.1.length : Nat) : Int) (IntKind.i64.wrap (x6.1 + 1))))).drop ((IntKind.i64.wrap (x6.1 + 1)).toNat))))), (7001, .arr 41 6 x2.1.length (rows AclRule.enc x2.1)), (6001, .box 79 [.d (slD encByte x1.b), .d (.int .i64 x7.2.p)])], []⟩) (le_mk ?_ ?_ ?_) (LE.trans (S' := ⟨0, 76, [(4, .ref 6001 0 0), (5, .osl 7001 0 x2.1.length), (6, .osl 15 0 (((x2.1.take x6.1.toNat) ++ (((x2.1).take ((IntKind.i64.wrap (x6.1 + 1)).toNat + (dsub ((x2.1.length : Nat) : Int) (IntKind.i64.wrap (x6.1 + 1))))).drop ((IntKind.i64.wrap (x6.1 + 1)).toNat))).length))], [], [(15, .arr 41 6 (((x2.1.take x6.1.toNat) ++ (((x2.1).take ((IntKind.i64.wrap (x6.1 + 1)).toNat + (dsub ((x2.1.length : Nat) : Int) (IntKind.i64.wrap (x6.1 + 1))))).drop ((IntKind.i64.wrap (x6.1 + 1)).toNat))).length) (rows AclRule.enc ((x2.1.take x6.1.toNat) ++ (((x2.1).take ((IntKind.i64.wrap (x6.1 + 1)).toNat + (dsub ((x2.1.length : Nat) : Int) (IntKind.i64.wrap (x6.1 + 1))))).drop ((IntKind.i64.wrap (x6.1 + 1)).toNat))))), (7001, .arr 41 6 x2.1.length (rows AclRule.enc x2.1)), (6001, .box 79 [.d (slD encByte x1.b), .d (.int .i64 x7.2.p)])], []⟩) (le_swaps [(51, 15)] rfl) (le_mk ?_ ?_ ?_))⟩ <;> (repeat' first | ((conv => whnf); first | exact trivial | refine And.intro ?_ ?_ | exact BLe.refl _ | exact VLe.refl _) | exact trivial | exact rfl | refine And.intro ?_ ?_ | exact BLe.refl _ | exact VLe.refl _ | exact VLe.any _ | exact VLe.nil_osl rfl | exact VLe.nil_sl rfl | exact VLe.built rfl rfl | (refine VLe.osl rfl ?_; (first | rfl | (simp; done) | assumption | (simp [dsub_eq] <;> omega) | omega)) | exact VLe.rows (by first | rfl | (simp; done) | assumption | (simp [dsub_eq] <;> omega) | omega) (fun _ _ => rfl) | exact VLe.rows (by simp [dsub_eq] <;> omega) rows_take | exact VLe.rows (by simp [dsub_eq] <;> omega) rows_dt | exact VLe.rows (by simp [dsub_eq] <;> omega) rows_vt | exact VLe.rows (by simp) (fun i _ => by simp [viewRow_eq, Nat.add_comm]) | refine VLe.aggL ?_ | (refine BLe.rows rfl ?_ fun _ _ => rfl; (first | rfl | (simp; done) | assumption | (simp [dsub_eq] <;> omega) | omega)) | (refine BLe.rows rfl rfl ?_; first | exact rows_take) | refine BLe.box ?_)
        · replace hx3 := ite_f hx3 e; clear e
          conv => whnf
          refine And.intro (fun e => ?_) (fun e => ?_)
          · replace hx3 := ite_t hx3 e; clear e
            conv => whnf
            obtain ⟨g18, hx3⟩ := gd_some hx3
            refine And.intro g18 ?_
            clear g18
            conv => whnf
            obtain ⟨g19, hx3⟩ := gd_some hx3
            refine And.intro g19 ?_
            clear g19
            conv => whnf
            obtain ⟨x20, hx20, hx3⟩ := bd_some hx3
            replace hx20 := Option.some.inj hx20
            have hlx20 := set_len hx20
            try simp only [List.length_set] at hlx20
            refine ⟨rows AclRule.enc x20, store_rows2 hx20 ((by first | rfl | (simp; done) | assumption | (simp [dsub_eq] <;> omega) | omega)) rfl, ?_⟩
            conv => whnf
            obtain rfl := Option.some.inj hx3
            refine ⟨_, rfl, le_mk ?_ ?_ ?_⟩ <;> (repeat' first | ((conv => whnf); first | exact trivial | refine And.intro ?_ ?_ | exact BLe.refl _ | exact VLe.refl _) | exact trivial | exact rfl | refine And.intro ?_ ?_ | exact BLe.refl _ | exact VLe.refl _ | exact VLe.any _ | exact VLe.nil_osl rfl | exact VLe.nil_sl rfl | exact VLe.built rfl rfl | (refine VLe.osl rfl ?_; (first | rfl | (simp; done) | assumption | (simp [dsub_eq] <;> omega) | omega)) | exact VLe.rows (by first | rfl | (simp; done) | assumption | (simp [dsub_eq] <;> omega) | omega) (fun _ _ => rfl) | exact VLe.rows (by simp [dsub_eq] <;> omega) rows_take | exact VLe.rows (by simp [dsub_eq] <;> omega) rows_dt | exact VLe.rows (by simp [dsub_eq] <;> omega) rows_vt | exact VLe.rows (by simp) (fun i _ => by simp [viewRow_eq, Nat.add_comm]) | refine VLe.aggL ?_ | (refine BLe.rows rfl ?_ fun _ _ => rfl; (first | rfl | (simp; done) | assumption | (simp [dsub_eq] <;> omega) | omega)) | (refine BLe.rows rfl rfl ?_; first | exact rows_take) | refine BLe.box ?_)
          · replace hx3 := ite_f hx3 e; clear e
            conv => whnf
            obtain rfl := Option.some.inj hx3
            refine ⟨_, rfl, le_mk ?_ ?_ ?_⟩ <;> (repeat' first | ((conv => whnf); first | exact trivial | refine And.intro ?_ ?_ | exact BLe.refl _ | exact VLe.refl _) | exact trivial | exact rfl | refine And.intro ?_ ?_ | exact BLe.refl _ | exact VLe.refl _ | exact VLe.any _ | exact VLe.nil_osl rfl | exact VLe.nil_sl rfl | exact VLe.built rfl rfl | (refine VLe.osl rfl ?_; (first | rfl | (simp; done) | assumption | (simp [dsub_eq] <;> omega) | omega)) | exact VLe.rows (by first | rfl | (simp; done) | assumption | (simp [dsub_eq] <;> omega) | omega) (fun _ _ => rfl) | exact VLe.rows (by simp [dsub_eq] <;> omega) rows_take | exact VLe.rows (by simp [dsub_eq] <;> omega) rows_dt | exact VLe.rows (by simp [dsub_eq] <;> omega) rows_vt | exact VLe.rows (by simp) (fun i _ => by simp [viewRow_eq, Nat.add_comm]) | refine VLe.aggL ?_ | (refine BLe.rows rfl ?_ fun _ _ => rfl; (first | rfl | (simp; done) | assumption | (simp [dsub_eq] <;> omega) | omega)) | (refine BLe.rows rfl rfl ?_; first | exact rows_take) | refine BLe.box ?_)
    · replace hx3 := ite_f hx3 e; clear e
      conv => whnf
      obtain rfl := Option.some.inj hx3
      refine ⟨_, rfl, le_mk ?_ ?_ ?_⟩ <;> (repeat' first | ((conv => whnf); first | exact trivial | refine And.intro ?_ ?_ | exact BLe.refl _ | exact VLe.refl _) | exact trivial | exact rfl | refine And.intro ?_ ?_ | exact BLe.refl _ | exact VLe.refl _ | exact VLe.any _ | exact VLe.nil_osl rfl | exact VLe.nil_sl rfl | exact VLe.built rfl rfl | (refine VLe.osl rfl ?_; (first | rfl | (simp; done) | assumption | (simp [dsub_eq] <;> omega) | omega)) | exact VLe.rows (by first | rfl | (simp; done) | assumption | (simp [dsub_eq] <;> omega) | omega) (fun _ _ => rfl) | exact VLe.rows (by simp [dsub_eq] <;> omega) rows_take | exact VLe.rows (by simp [dsub_eq] <;> omega) rows_dt | exact VLe.rows (by simp [dsub_eq] <;> omega) rows_vt | exact VLe.rows (by simp) (fun i _ => by simp [viewRow_eq, Nat.add_comm]) | refine VLe.aggL ?_ | (refine BLe.rows rfl ?_ fun _ _ => rfl; (first | rfl | (simp; done) | assumption | (simp [dsub_eq] <;> omega) | omega)) | (refine BLe.rows rfl rfl ?_; first | exact rows_take) | refine BLe.box ?_)
  · rintro _ rfl
    conv => whnf
    refine seq_in tOk ?_
    conv => whnf
    obtain ⟨x21, hx21, h⟩ := bd_some h
    refine callE [(9000, 6001)] 0 (spec_l1Rd_pick_c hx21) (by (repeat' first | ((conv => whnf); first | exact trivial | refine And.intro ?_ ?_ | exact BLe.refl _ | exact VLe.refl _) | exact trivial | refine And.intro ?_ ?_ | exact VLe.refl _ | exact VLe.any _ | exact VLe.nil_osl rfl | exact VLe.nil_sl rfl | exact VLe.built rfl rfl | (refine VLe.osl rfl ?_; (first | rfl | (simp; done) | assumption | (simp [dsub_eq] <;> omega) | omega)) | exact VLe.rows (by first | rfl | (simp; done) | assumption | (simp [dsub_eq] <;> omega) | omega) (fun _ _ => rfl) | exact VLe.rows (by simp [dsub_eq] <;> omega) rows_take | exact VLe.rows (by simp [dsub_eq] <;> omega) rows_dt | exact VLe.rows (by simp [dsub_eq] <;> omega) rows_vt | exact VLe.rows (by simp) (fun i _ => by simp [viewRow_eq, Nat.add_comm]) | refine VLe.aggL ?_)) (by (repeat' first | ((conv => whnf); first | exact trivial | refine And.intro ?_ ?_ | exact BLe.refl _ | exact VLe.refl _) | exact trivial | exact rfl | refine And.intro ?_ ?_ | exact BLe.refl _ | exact VLe.refl _ | exact VLe.any _ | exact VLe.nil_osl rfl | exact VLe.nil_sl rfl | exact VLe.built rfl rfl | (refine VLe.osl rfl ?_; (first | rfl | (simp; done) | assumption | (simp [dsub_eq] <;> omega) | omega)) | exact VLe.rows (by first | rfl | (simp; done) | assumption | (simp [dsub_eq] <;> omega) | omega) (fun _ _ => rfl) | exact VLe.rows (by simp [dsub_eq] <;> omega) rows_take | exact VLe.rows (by simp [dsub_eq] <;> omega) rows_dt | exact VLe.rows (by simp [dsub_eq] <;> omega) rows_vt | exact VLe.rows (by simp) (fun i _ => by simp [viewRow_eq, Nat.add_comm]) | refine VLe.aggL ?_ | (refine BLe.rows rfl ?_ fun _ _ => rfl; (first | rfl | (simp; done) | assumption | (simp [dsub_eq] <;> omega) | omega)) | refine BLe.box ?_ | (simp; done))) rfl rfl ?_
    conv => whnf
    refine And.intro (fun e => ?_) (fun e => ?_)
    · replace h := ite_t h e; clear e
      conv => whnf
      obtain ⟨x22, hx22, h⟩ := bd_some h
      refine callE [(9000, 6001)] 3000 (spec_l5AnyRules_c hx22) (by (repeat' first | ((conv => whnf); first | exact trivial | refine And.intro ?_ ?_ | exact BLe.refl _ | exact VLe.refl _) | exact trivial | refine And.intro ?_ ?_ | exact VLe.refl _ | exact VLe.any _ | exact VLe.nil_osl rfl | exact VLe.nil_sl rfl | exact VLe.built rfl rfl | (refine VLe.osl rfl ?_; (first | rfl | (simp; done) | assumption | (simp [dsub_eq] <;> omega) | omega)) | exact VLe.rows (by first | rfl | (simp; done) | assumption | (simp [dsub_eq] <;> omega) | omega) (fun _ _ => rfl) | exact VLe.rows (by simp [dsub_eq] <;> omega) rows_take | exact VLe.rows (by simp [dsub_eq] <;> omega) rows_dt | exact VLe.rows (by simp [dsub_eq] <;> omega) rows_vt | exact VLe.rows (by simp) (fun i _ => by simp [viewRow_eq, Nat.add_comm]) | refine VLe.aggL ?_)) (by (repeat' first | ((conv => whnf); first | exact trivial | refine And.intro ?_ ?_ | exact BLe.refl _ | exact VLe.refl _) | exact trivial | exact rfl | refine And.intro ?_ ?_ | exact BLe.refl _ | exact VLe.refl _ | exact VLe.any _ | exact VLe.nil_osl rfl | exact VLe.nil_sl rfl | exact VLe.built rfl rfl | (refine VLe.osl rfl ?_; (first | rfl | (simp; done) | assumption | (simp [dsub_eq] <;> omega) | omega)) | exact VLe.rows (by first | rfl | (simp; done) | assumption | (simp [dsub_eq] <;> omega) | omega) (fun _ _ => rfl) | exact VLe.rows (by simp [dsub_eq] <;> omega) rows_take | exact VLe.rows (by simp [dsub_eq] <;> omega) rows_dt | exact VLe.rows (by simp [dsub_eq] <;> omega) rows_vt | exact VLe.rows (by simp) (fun i _ => by simp [viewRow_eq, Nat.add_comm]) | refine VLe.aggL ?_ | (refine BLe.rows rfl ?_ fun _ _ => rfl; (first | rfl | (simp; done) | assumption | (simp [dsub_eq] <;> omega) | omega)) | refine BLe.box ?_ | (simp; done))) rfl rfl ?_
      conv => whnf
      obtain rfl := Option.some.inj h
      refine ⟨⟨0, 76, [(2, .osl 5001 0 x2.1.length), (3, .osl 5002 0 x22.1.length)], [], [(5002, .arr 41 6 x22.1.length (rows AclRule.enc x22.1)), (5001, .arr 41 6 x2.1.length (rows AclRule.enc x2.1))], []⟩, ?_, And.intro rfl ?_⟩
      · refine LE.trans (S' := ⟨0, 76, [(2, .osl 7001 0 x2.1.length), (3, .osl 8001 0 x22.1.length)], [], [(8001, .arr 41 6 x22.1.length (rows AclRule.enc x22.1)), (7001, .arr 41 6 x2.1.length (rows AclRule.enc x2.1))], []⟩) (le_mk ?_ ?_ ?_) (le_swaps [(7001, 5001), (8001, 5002)] rfl) <;> (repeat' first | ((conv => whnf); first | exact trivial | refine And.intro ?_ ?_ | exact BLe.refl _ | exact VLe.refl _) | exact trivial | exact rfl | refine And.intro ?_ ?_ | exact BLe.refl _ | exact VLe.refl _ | exact VLe.any _ | exact VLe.nil_osl rfl | exact VLe.nil_sl rfl | exact VLe.built rfl rfl | (refine VLe.osl rfl ?_; (first | rfl | (simp; done) | assumption | (simp [dsub_eq] <;> omega) | omega)) | exact VLe.rows (by first | rfl | (simp; done) | assumption | (simp [dsub_eq] <;> omega) | omega) (fun _ _ => rfl) | exact VLe.rows (by simp [dsub_eq] <;> omega) rows_take | exact VLe.rows (by simp [dsub_eq] <;> omega) rows_dt | exact VLe.rows (by simp [dsub_eq] <;> omega) rows_vt | exact VLe.rows (by simp) (fun i _ => by simp [viewRow_eq, Nat.add_comm]) | refine VLe.aggL ?_ | (refine BLe.rows rfl ?_ fun _ _ => rfl; (first | rfl | (simp; done) | assumption | (simp [dsub_eq] <;> omega) | omega)) | (refine BLe.rows rfl rfl ?_; first | exact rows_take) | refine BLe.box ?_)
      · exact And.intro (And.intro rfl (And.intro rfl (fun _ _ => rfl))) (And.intro (And.intro rfl (And.intro rfl (fun _ _ => rfl))) (trivial))
    · replace h := ite_f h e; clear e
      conv => whnf
      obtain rfl := Option.some.inj h
      refine ⟨⟨0, 76, [(2, .osl 5001 0 x2.1.length), (3, .osl 5002 0 x3.1.length)], [], [(5002, .arr 41 6 x3.1.length (rows AclRule.enc x3.1)), (5001, .arr 41 6 x2.1.length (rows AclRule.enc x2.1))], []⟩, ?_, And.intro rfl ?_⟩
      · refine LE.trans (S' := ⟨0, 76, [(2, .osl 7001 0 x2.1.length), (3, .osl 15 0 x3.1.length)], [], [(15, .arr 41 6 x3.1.length (rows AclRule.enc x3.1)), (7001, .arr 41 6 x2.1.length (rows AclRule.enc x2.1))], []⟩) (le_mk ?_ ?_ ?_) (le_swaps [(7001, 5001), (15, 5002)] rfl) <;> (repeat' first | ((conv => whnf); first | exact trivial | refine And.intro ?_ ?_ | exact BLe.refl _ | exact VLe.refl _) | exact trivial | exact rfl | refine And.intro ?_ ?_ | exact BLe.refl _ | exact VLe.refl _ | exact VLe.any _ | exact VLe.nil_osl rfl | exact VLe.nil_sl rfl | exact VLe.built rfl rfl | (refine VLe.osl rfl ?_; (first | rfl | (simp; done) | assumption | (simp [dsub_eq] <;> omega) | omega)) | exact VLe.rows (by first | rfl | (simp; done) | assumption | (simp [dsub_eq] <;> omega) | omega) (fun _ _ => rfl) | exact VLe.rows (by simp [dsub_eq] <;> omega) rows_take | exact VLe.rows (by simp [dsub_eq] <;> omega) rows_dt | exact VLe.rows (by simp [dsub_eq] <;> omega) rows_vt | exact VLe.rows (by simp) (fun i _ => by simp [viewRow_eq, Nat.add_comm]) | refine VLe.aggL ?_ | (refine BLe.rows rfl ?_ fun _ _ => rfl; (first | rfl | (simp; done) | assumption | (simp [dsub_eq] <;> omega) | omega)) | (refine BLe.rows rfl rfl ?_; first | exact rows_take) | refine BLe.box ?_)
      · exact And.intro (And.intro rfl (And.intro rfl (fun _ _ => rfl))) (And.intro (And.intro rfl (And.intro rfl (fun _ _ => rfl))) (trivial))

noncomputable def spec_NetHas_m (a0 : NetPrefix) (a1 : Int) : Option (Bool) :=
 bd (spec_NetOk_m a0) fun x1 =>
 bd (gcall (x1 = true) (spec_l1Has_m a0 a1)) fun x2 =>
 some (x1 && x2)

theorem spec_NetHas_c {a0 : NetPrefix} {a1 : Int} {r : Bool} (h : spec_NetHas_m a0 a1 = some r) : PureC Try.prog 16 [.agg [.d (.int .i64 a0.Addr), .d (.int .i64 a0.Len)], .d (.int .i64 a1)] (.d (.bool r)) [] := by
  refine pureC_m tOk (fn := Try.f16) (c := codeOf Try.f16) rfl rfl (by kernel_rfl) rfl rfl (by simp) (by simp) (ids_of rfl) ?_
  unfold spec_NetHas_m at h
  conv => whnf
  obtain ⟨x1, hx1, h⟩ := bd_some h
  refine callC 0 (spec_NetOk_c hx1) (by kernel_rfl) (by kernel_rfl) ?_
  clear hx1
  conv => whnf
  obtain ⟨x2, hx2, h⟩ := bd_some h
  refine callG_m rfl rfl rfl rfl rfl rfl (by intro c0; exact spec_l1Has_c (gcall_some hx2 c0)) ?_
  conv => whnf
  obtain rfl := Option.some.inj h
  exact ⟨_, LE.refl _, And.intro rfl trivial⟩

end Go.Proofs.Ytjpfiaejakidnaa
