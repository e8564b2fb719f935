/-
  What some of the program's functions compute: their models, and that the functions compute these; no condition.
-/
import Derived.Test.YtbolhcpkpncmfaaTyz
import Derived.Test.YtbolhcpkpncmfaaTbz
import Derived.Test.YtbolhcpkpncmfaaKz4
set_option linter.all false
namespace Go.Proofs.Ytbolhcpkpncmfaa
open Go Go.Ab
set_option maxRecDepth 100000
set_option maxHeartbeats 4000000
noncomputable def laws_FnTreeOpen_m (a0 : (List Int)) : Option (Bool) :=
(if (decide (((a0.length : Nat) : Int) > 1048576)) = true then
 some true
else
 bd (spec_DrawTreeOpenWorld_m a0) fun x1 =>
 bd (impl_TreeOpenWorld_fz_m x1.1 x1.2) fun x2 =>
 bd (spec_TreeOpenWorld_m x1.1 x1.2) fun x3 =>
 bd (gcall ((!(x2.2 == x3.2)) = false) (laws_wtWorld_m x2.1 x3.1)) fun x4 =>
(if ((!(x2.2 == x3.2)) || (!x4)) = true then
 some false
else
 bd (impl_TreeLinksOk_m ((x1.1.length : Nat) : Int) x1.2) fun x5 =>
 bd (lp (σ := Int × Bool) (β := (Bool)) (fun s6 =>
(if (decide (s6.1 < ((x1.1.length : Nat) : Int))) = true then
 bd (α := Bool) (gd ((0 : Int) ≤ s6.1 ∧ s6.1 < ((x1.1.length : Nat) : Int)) <|
 gd ((decide ((x1.1.getD s6.1.toNat default) < 1)) = false → ((0 : Int) ≤ s6.1 ∧ s6.1 < ((x1.1.length : Nat) : Int))) <|
(if ((decide ((x1.1.getD s6.1.toNat default) < 1)) || (decide ((x1.1.getD s6.1.toNat default) > 1000))) = true then
 some false
else
 some s6.2)) fun x10 =>
 bd (lp (σ := Int × Bool) (β := (Bool)) (fun s15 =>
(if (decide (s15.1 < s6.1)) = true then
 gd ((0 : Int) ≤ s15.1 ∧ s15.1 < ((x1.1.length : Nat) : Int)) <|
 gd ((0 : Int) ≤ s6.1 ∧ s6.1 < ((x1.1.length : Nat) : Int)) <|
(if ((x1.1.getD s15.1.toNat default) == (x1.1.getD s6.1.toNat default)) = true then
 some (.inl (IntKind.i64.wrap (s15.1 + 1), false))
else
 some (.inl (IntKind.i64.wrap (s15.1 + 1), s15.2)))
else
 some (.inr s15.2))) (0, x10)) fun x18 =>
 some (.inl (IntKind.i64.wrap (s6.1 + 1), x18))
else
 some (.inr s6.2))) (0, x5)) fun x9 =>
 bd (gcall ((!x2.2) = false ∧ (x2.2 == x9) = true) (impl_TreePasses_fz_m x2.1)) fun x23 =>
 some ((x2.2 == x9) && ((!x2.2) || (((x23.length : Nat) : Int) == ((x1.2.length : Nat) : Int))))))

theorem laws_FnTreeOpen_c {a0 : (List Int)} {r : Bool} (h : laws_FnTreeOpen_m a0 = some r) : PureC Try.prog 3 [.d (slD encByte a0)] (.d (.bool r)) [] := by
  refine pureC_m tOk (fn := Try.f3) (c := codeOf Try.f3) rfl rfl (by kernel_rfl) rfl rfl (by simp) (by simp) (ids_of rfl) ?_
  unfold laws_FnTreeOpen_m at h
  conv => whnf
  refine seq_in tOk ?_
  conv => whnf
  refine And.intro (fun e => ?_) (fun e => ?_)
  · replace h := ite_t h e; clear e
    conv => whnf
    obtain rfl := Option.some.inj h
    exact ⟨_, LE.refl _, And.intro rfl trivial⟩
  · replace h := ite_f h e; clear e
    conv => whnf
    obtain ⟨x1, hx1, h⟩ := bd_some h
    refine callC 1000 (spec_DrawTreeOpenWorld_c hx1) (by kernel_rfl) (by kernel_rfl) ?_
    clear hx1
    conv => whnf
    obtain ⟨x2, hx2, h⟩ := bd_some h
    refine callFz [6001, 6002] ?_
    conv => whnf
    refine callE [] 0 (impl_TreeOpenWorld_fz_c hx2) (by (repeat' first | ((conv => whnf); first | exact trivial | refine And.intro ?_ ?_ | exact BLe.refl _ | exact VLe.refl _) | exact trivial | refine And.intro ?_ ?_ | exact VLe.refl _ | exact VLe.any _ | exact VLe.nil_osl rfl | exact VLe.nil_sl rfl | exact VLe.built rfl rfl | (refine VLe.osl rfl ?_; (first | rfl | (simp; done) | assumption | (simp [dsub_eq] <;> omega) | omega)) | exact VLe.rows (by first | rfl | (simp; done) | assumption | (simp [dsub_eq] <;> omega) | omega) (fun _ _ => rfl) | exact VLe.rows (by simp [dsub_eq] <;> omega) rows_take | exact VLe.rows (by simp [dsub_eq] <;> omega) rows_dt | exact VLe.rows (by simp [dsub_eq] <;> omega) rows_vt | exact VLe.rows (by simp) (fun i _ => by simp [viewRow_eq, Nat.add_comm]) | refine VLe.aggL ?_)) (by (repeat' first | ((conv => whnf); first | exact trivial | refine And.intro ?_ ?_ | exact BLe.refl _ | exact VLe.refl _) | exact trivial | exact rfl | refine And.intro ?_ ?_ | exact BLe.refl _ | exact VLe.refl _ | exact VLe.any _ | exact VLe.nil_osl rfl | exact VLe.nil_sl rfl | exact VLe.built rfl rfl | (refine VLe.osl rfl ?_; (first | rfl | (simp; done) | assumption | (simp [dsub_eq] <;> omega) | omega)) | exact VLe.rows (by first | rfl | (simp; done) | assumption | (simp [dsub_eq] <;> omega) | omega) (fun _ _ => rfl) | exact VLe.rows (by simp [dsub_eq] <;> omega) rows_take | exact VLe.rows (by simp [dsub_eq] <;> omega) rows_dt | exact VLe.rows (by simp [dsub_eq] <;> omega) rows_vt | exact VLe.rows (by simp) (fun i _ => by simp [viewRow_eq, Nat.add_comm]) | refine VLe.aggL ?_ | (refine BLe.rows rfl ?_ fun _ _ => rfl; (first | rfl | (simp; done) | assumption | (simp [dsub_eq] <;> omega) | omega)) | refine BLe.box ?_ | (simp; done))) rfl rfl ?_
    conv => whnf
    obtain ⟨x3, hx3, h⟩ := bd_some h
    refine callC 1000 (spec_TreeOpenWorld_c hx3) (by kernel_rfl) (by kernel_rfl) ?_
    clear hx3
    conv => whnf
    refine seq_in tOk ?_
    conv => whnf
    obtain ⟨x4, hx4, h⟩ := bd_some h
    refine callG_m rfl rfl rfl rfl rfl rfl (by intro c0; exact laws_wtWorld_c (gcall_some hx4 c0)) ?_
    conv => whnf
    refine And.intro (fun e => ?_) (fun e => ?_)
    · replace h := ite_t h e; clear e
      conv => whnf
      obtain rfl := Option.some.inj h
      exact ⟨_, LE.refl _, And.intro rfl trivial⟩
    · replace h := ite_f h e; clear e
      conv => whnf
      obtain ⟨x5, hx5, h⟩ := bd_some h
      refine callC 0 (impl_TreeLinksOk_c hx5) (by kernel_rfl) (by kernel_rfl) ?_
      clear hx5
      conv => whnf
      refine seq_in tOk ?_
      conv => whnf
      obtain ⟨x9, hx9, h⟩ := bd_some h
      refine loop_m tOk hx9 (fun s6 => ⟨0, 92, [(3, .d (slD encInt x1.1)), (4, .d (slD TreeLink.enc x1.2)), (5, .ref 5 0 0), (6, .d (.bool x2.2)), (9, .d (.bool s6.2)), (10, .d (.int .i64 s6.1))], [], [(5, .box 31 [.d (slD TreeBridge.enc x2.1.Bridges), .d (slD TreeLink.enc x2.1.Links), .d (slD encInt x2.1.Down), .d (slD TreeSlot.enc x2.1.AtA), .d (slD TreeSlot.enc x2.1.AtB), .d (slD TreeWord.enc x2.1.Radio)])], []⟩) ?_ ?_
      · refine le_mk ?_ ?_ ?_ <;> (repeat' first | ((conv => whnf); first | exact trivial | refine And.intro ?_ ?_ | exact BLe.refl _ | exact VLe.refl _) | exact trivial | exact rfl | refine And.intro ?_ ?_ | exact BLe.refl _ | exact VLe.refl _ | exact VLe.any _ | exact VLe.nil_osl rfl | exact VLe.nil_sl rfl | exact VLe.built rfl rfl | (refine VLe.osl rfl ?_; (first | rfl | (simp; done) | assumption | (simp [dsub_eq] <;> omega) | omega)) | exact VLe.rows (by first | rfl | (simp; done) | assumption | (simp [dsub_eq] <;> omega) | omega) (fun _ _ => rfl) | exact VLe.rows (by simp [dsub_eq] <;> omega) rows_take | exact VLe.rows (by simp [dsub_eq] <;> omega) rows_dt | exact VLe.rows (by simp [dsub_eq] <;> omega) rows_vt | exact VLe.rows (by simp) (fun i _ => by simp [viewRow_eq, Nat.add_comm]) | refine VLe.aggL ?_ | (refine BLe.rows rfl ?_ fun _ _ => rfl; (first | rfl | (simp; done) | assumption | (simp [dsub_eq] <;> omega) | omega)) | (refine BLe.rows rfl rfl ?_; first | exact rows_take) | refine BLe.box ?_)
      · clear hx9
        intro s6 y7 g8 hy7
        conv => whnf
        refine seq_in tOk ?_
        conv => whnf
        refine And.intro (fun e => ?_) (fun e => ?_)
        · replace g8 := ite_t g8 e; clear e
          conv => whnf
          refine seq_in tOk ?_
          conv => whnf
          obtain ⟨x10, hx10, g8⟩ := bd_some g8
          refine seq_join tOk (fun s11 => ⟨0, 92, [(3, .d (slD encInt x1.1)), (4, .d (slD TreeLink.enc x1.2)), (5, .ref 5 0 0), (6, .d (.bool x2.2)), (9, .d (.bool s11)), (10, .d (.int .i64 s6.1))], [], [(5, .box 31 [.d (slD TreeBridge.enc x2.1.Bridges), .d (slD TreeLink.enc x2.1.Links), .d (slD encInt x2.1.Down), .d (slD TreeSlot.enc x2.1.AtA), .d (slD TreeSlot.enc x2.1.AtB), .d (slD TreeWord.enc x2.1.Radio)])], []⟩) (fun s11 => x10 = s11) ?_ ?_
          · conv => whnf
            obtain ⟨g13, hx10⟩ := gd_some hx10
            refine And.intro g13 ?_
            clear g13
            conv => whnf
            obtain ⟨g14, hx10⟩ := gd_some hx10
            refine And.intro g14 ?_
            clear g14
            conv => whnf
            refine And.intro (fun e => ?_) (fun e => ?_)
            · replace hx10 := ite_t hx10 e; clear e
              conv => whnf
              obtain rfl := Option.some.inj hx10
              refine ⟨_, rfl, le_mk ?_ ?_ ?_⟩ <;> (repeat' first | ((conv => whnf); first | exact trivial | refine And.intro ?_ ?_ | exact BLe.refl _ | exact VLe.refl _) | exact trivial | exact rfl | refine And.intro ?_ ?_ | exact BLe.refl _ | exact VLe.refl _ | exact VLe.any _ | exact VLe.nil_osl rfl | exact VLe.nil_sl rfl | exact VLe.built rfl rfl | (refine VLe.osl rfl ?_; (first | rfl | (simp; done) | assumption | (simp [dsub_eq] <;> omega) | omega)) | exact VLe.rows (by first | rfl | (simp; done) | assumption | (simp [dsub_eq] <;> omega) | omega) (fun _ _ => rfl) | exact VLe.rows (by simp [dsub_eq] <;> omega) rows_take | exact VLe.rows (by simp [dsub_eq] <;> omega) rows_dt | exact VLe.rows (by simp [dsub_eq] <;> omega) rows_vt | exact VLe.rows (by simp) (fun i _ => by simp [viewRow_eq, Nat.add_comm]) | refine VLe.aggL ?_ | (refine BLe.rows rfl ?_ fun _ _ => rfl; (first | rfl | (simp; done) | assumption | (simp [dsub_eq] <;> omega) | omega)) | (refine BLe.rows rfl rfl ?_; first | exact rows_take) | refine BLe.box ?_)
            · replace hx10 := ite_f hx10 e; clear e
              conv => whnf
              obtain rfl := Option.some.inj hx10
              refine ⟨_, rfl, le_mk ?_ ?_ ?_⟩ <;> (repeat' first | ((conv => whnf); first | exact trivial | refine And.intro ?_ ?_ | exact BLe.refl _ | exact VLe.refl _) | exact trivial | exact rfl | refine And.intro ?_ ?_ | exact BLe.refl _ | exact VLe.refl _ | exact VLe.any _ | exact VLe.nil_osl rfl | exact VLe.nil_sl rfl | exact VLe.built rfl rfl | (refine VLe.osl rfl ?_; (first | rfl | (simp; done) | assumption | (simp [dsub_eq] <;> omega) | omega)) | exact VLe.rows (by first | rfl | (simp; done) | assumption | (simp [dsub_eq] <;> omega) | omega) (fun _ _ => rfl) | exact VLe.rows (by simp [dsub_eq] <;> omega) rows_take | exact VLe.rows (by simp [dsub_eq] <;> omega) rows_dt | exact VLe.rows (by simp [dsub_eq] <;> omega) rows_vt | exact VLe.rows (by simp) (fun i _ => by simp [viewRow_eq, Nat.add_comm]) | refine VLe.aggL ?_ | (refine BLe.rows rfl ?_ fun _ _ => rfl; (first | rfl | (simp; done) | assumption | (simp [dsub_eq] <;> omega) | omega)) | (refine BLe.rows rfl rfl ?_; first | exact rows_take) | refine BLe.box ?_)
          · rintro _ rfl
            conv => whnf
            obtain ⟨x18, hx18, g8⟩ := bd_some g8
            refine loop_m tOk hx18 (fun s15 => ⟨0, 92, [(3, .d (slD encInt x1.1)), (4, .d (slD TreeLink.enc x1.2)), (5, .ref 5 0 0), (6, .d (.bool x2.2)), (9, .d (.bool s15.2)), (10, .d (.int .i64 s6.1)), (11, .d (.int .i64 s15.1))], [], [(5, .box 31 [.d (slD TreeBridge.enc x2.1.Bridges), .d (slD TreeLink.enc x2.1.Links), .d (slD encInt x2.1.Down), .d (slD TreeSlot.enc x2.1.AtA), .d (slD TreeSlot.enc x2.1.AtB), .d (slD TreeWord.enc x2.1.Radio)])], []⟩) ?_ ?_
            · refine le_mk ?_ ?_ ?_ <;> (repeat' first | ((conv => whnf); first | exact trivial | refine And.intro ?_ ?_ | exact BLe.refl _ | exact VLe.refl _) | exact trivial | exact rfl | refine And.intro ?_ ?_ | exact BLe.refl _ | exact VLe.refl _ | exact VLe.any _ | exact VLe.nil_osl rfl | exact VLe.nil_sl rfl | exact VLe.built rfl rfl | (refine VLe.osl rfl ?_; (first | rfl | (simp; done) | assumption | (simp [dsub_eq] <;> omega) | omega)) | exact VLe.rows (by first | rfl | (simp; done) | assumption | (simp [dsub_eq] <;> omega) | omega) (fun _ _ => rfl) | exact VLe.rows (by simp [dsub_eq] <;> omega) rows_take | exact VLe.rows (by simp [dsub_eq] <;> omega) rows_dt | exact VLe.rows (by simp [dsub_eq] <;> omega) rows_vt | exact VLe.rows (by simp) (fun i _ => by simp [viewRow_eq, Nat.add_comm]) | refine VLe.aggL ?_ | (refine BLe.rows rfl ?_ fun _ _ => rfl; (first | rfl | (simp; done) | assumption | (simp [dsub_eq] <;> omega) | omega)) | (refine BLe.rows rfl rfl ?_; first | exact rows_take) | refine BLe.box ?_)
            · clear hx18
              intro s15 y16 g17 hy16
              conv => whnf
              refine seq_in tOk ?_
              conv => whnf
              refine And.intro (fun e => ?_) (fun e => ?_)
              · replace g17 := ite_t g17 e; clear e
                conv => whnf
                refine seq_in tOk ?_
                conv => whnf
                obtain ⟨g19, g17⟩ := gd_some g17
                obtain ⟨g20, g17⟩ := gd_some g17
                refine draw_k tOk (by kernel_rfl) (fun _ => none) 9 [] [[], [], [true, true], [true, true, true], [], [], [false, false, false, false, true, true], [false, false, false, false, true, true, true], [true, true, true, true, true, true, true, true]] [] (by decide) (by kernel_rfl) (by kernel_rfl) ?_
                conv => whnf
                refine And.intro g19 ?_
                clear g19
                conv => whnf
                refine And.intro g20 ?_
                clear g20
                conv => whnf
                refine And.intro (by kernel_rfl) ?_
                conv => whnf
                refine And.intro (fun e => ?_) (fun e => ?_)
                · replace g17 := ite_t g17 e; clear e
                  conv => whnf
                  obtain rfl := Option.some.inj g17
                  refine ⟨_, rfl, le_mk ?_ ?_ ?_⟩ <;> (repeat' first | ((conv => whnf); first | exact trivial | refine And.intro ?_ ?_ | exact BLe.refl _ | exact VLe.refl _) | exact trivial | exact rfl | refine And.intro ?_ ?_ | exact BLe.refl _ | exact VLe.refl _ | exact VLe.any _ | exact VLe.nil_osl rfl | exact VLe.nil_sl rfl | exact VLe.built rfl rfl | (refine VLe.osl rfl ?_; (first | rfl | (simp; done) | assumption | (simp [dsub_eq] <;> omega) | omega)) | exact VLe.rows (by first | rfl | (simp; done) | assumption | (simp [dsub_eq] <;> omega) | omega) (fun _ _ => rfl) | exact VLe.rows (by simp [dsub_eq] <;> omega) rows_take | exact VLe.rows (by simp [dsub_eq] <;> omega) rows_dt | exact VLe.rows (by simp [dsub_eq] <;> omega) rows_vt | exact VLe.rows (by simp) (fun i _ => by simp [viewRow_eq, Nat.add_comm]) | refine VLe.aggL ?_ | (refine BLe.rows rfl ?_ fun _ _ => rfl; (first | rfl | (simp; done) | assumption | (simp [dsub_eq] <;> omega) | omega)) | (refine BLe.rows rfl rfl ?_; first | exact rows_take) | refine BLe.box ?_)
                · replace g17 := ite_f g17 e; clear e
                  conv => whnf
                  obtain rfl := Option.some.inj g17
                  refine ⟨_, rfl, le_mk ?_ ?_ ?_⟩ <;> (repeat' first | ((conv => whnf); first | exact trivial | refine And.intro ?_ ?_ | exact BLe.refl _ | exact VLe.refl _) | exact trivial | exact rfl | refine And.intro ?_ ?_ | exact BLe.refl _ | exact VLe.refl _ | exact VLe.any _ | exact VLe.nil_osl rfl | exact VLe.nil_sl rfl | exact VLe.built rfl rfl | (refine VLe.osl rfl ?_; (first | rfl | (simp; done) | assumption | (simp [dsub_eq] <;> omega) | omega)) | exact VLe.rows (by first | rfl | (simp; done) | assumption | (simp [dsub_eq] <;> omega) | omega) (fun _ _ => rfl) | exact VLe.rows (by simp [dsub_eq] <;> omega) rows_take | exact VLe.rows (by simp [dsub_eq] <;> omega) rows_dt | exact VLe.rows (by simp [dsub_eq] <;> omega) rows_vt | exact VLe.rows (by simp) (fun i _ => by simp [viewRow_eq, Nat.add_comm]) | refine VLe.aggL ?_ | (refine BLe.rows rfl ?_ fun _ _ => rfl; (first | rfl | (simp; done) | assumption | (simp [dsub_eq] <;> omega) | omega)) | (refine BLe.rows rfl rfl ?_; first | exact rows_take) | refine BLe.box ?_)
              · replace g17 := ite_f g17 e; clear e
                conv => whnf
                obtain rfl := Option.some.inj g17
                obtain rfl := hy16 _ rfl
                obtain rfl := Option.some.inj g8
                refine ⟨_, rfl, le_mk ?_ ?_ ?_⟩ <;> (repeat' first | ((conv => whnf); first | exact trivial | refine And.intro ?_ ?_ | exact BLe.refl _ | exact VLe.refl _) | exact trivial | exact rfl | refine And.intro ?_ ?_ | exact BLe.refl _ | exact VLe.refl _ | exact VLe.any _ | exact VLe.nil_osl rfl | exact VLe.nil_sl rfl | exact VLe.built rfl rfl | (refine VLe.osl rfl ?_; (first | rfl | (simp; done) | assumption | (simp [dsub_eq] <;> omega) | omega)) | exact VLe.rows (by first | rfl | (simp; done) | assumption | (simp [dsub_eq] <;> omega) | omega) (fun _ _ => rfl) | exact VLe.rows (by simp [dsub_eq] <;> omega) rows_take | exact VLe.rows (by simp [dsub_eq] <;> omega) rows_dt | exact VLe.rows (by simp [dsub_eq] <;> omega) rows_vt | exact VLe.rows (by simp) (fun i _ => by simp [viewRow_eq, Nat.add_comm]) | refine VLe.aggL ?_ | (refine BLe.rows rfl ?_ fun _ _ => rfl; (first | rfl | (simp; done) | assumption | (simp [dsub_eq] <;> omega) | omega)) | (refine BLe.rows rfl rfl ?_; first | exact rows_take) | refine BLe.box ?_)
        · replace g8 := ite_f g8 e; clear e
          conv => whnf
          obtain rfl := Option.some.inj g8
          obtain rfl := hy7 _ rfl
          obtain ⟨x23, hx23, h⟩ := bd_some h
          refine callG_e [] 0 rfl rfl rfl (by intro c0 c1; exact impl_TreePasses_fz_c (gcall_some hx23 ⟨c0, c1⟩)) (by (repeat' first | ((conv => whnf); first | exact trivial | refine And.intro ?_ ?_ | exact BLe.refl _ | exact VLe.refl _) | exact trivial | refine And.intro ?_ ?_ | exact VLe.refl _ | exact VLe.any _ | exact VLe.nil_osl rfl | exact VLe.nil_sl rfl | exact VLe.built rfl rfl | (refine VLe.osl rfl ?_; (first | rfl | (simp; done) | assumption | (simp [dsub_eq] <;> omega) | omega)) | exact VLe.rows (by first | rfl | (simp; done) | assumption | (simp [dsub_eq] <;> omega) | omega) (fun _ _ => rfl) | exact VLe.rows (by simp [dsub_eq] <;> omega) rows_take | exact VLe.rows (by simp [dsub_eq] <;> omega) rows_dt | exact VLe.rows (by simp [dsub_eq] <;> omega) rows_vt | exact VLe.rows (by simp) (fun i _ => by simp [viewRow_eq, Nat.add_comm]) | refine VLe.aggL ?_)) (by (repeat' first | ((conv => whnf); first | exact trivial | refine And.intro ?_ ?_ | exact BLe.refl _ | exact VLe.refl _) | exact trivial | exact rfl | refine And.intro ?_ ?_ | exact BLe.refl _ | exact VLe.refl _ | exact VLe.any _ | exact VLe.nil_osl rfl | exact VLe.nil_sl rfl | exact VLe.built rfl rfl | (refine VLe.osl rfl ?_; (first | rfl | (simp; done) | assumption | (simp [dsub_eq] <;> omega) | omega)) | exact VLe.rows (by first | rfl | (simp; done) | assumption | (simp [dsub_eq] <;> omega) | omega) (fun _ _ => rfl) | exact VLe.rows (by simp [dsub_eq] <;> omega) rows_take | exact VLe.rows (by simp [dsub_eq] <;> omega) rows_dt | exact VLe.rows (by simp [dsub_eq] <;> omega) rows_vt | exact VLe.rows (by simp) (fun i _ => by simp [viewRow_eq, Nat.add_comm]) | refine VLe.aggL ?_ | (refine BLe.rows rfl ?_ fun _ _ => rfl; (first | rfl | (simp; done) | assumption | (simp [dsub_eq] <;> omega) | omega)) | refine BLe.box ?_ | (simp; done))) rfl rfl (condN_of (by (repeat' first | ((conv => whnf); first | exact trivial | refine And.intro ?_ ?_ | exact BLe.refl _ | exact VLe.refl _) | exact trivial | exact rfl | refine And.intro ?_ ?_ | exact BLe.refl _ | exact VLe.refl _ | exact VLe.any _ | exact VLe.nil_osl rfl | exact VLe.nil_sl rfl | exact VLe.built rfl rfl | (refine VLe.osl rfl ?_; (first | rfl | (simp; done) | assumption | (simp [dsub_eq] <;> omega) | omega)) | exact VLe.rows (by first | rfl | (simp; done) | assumption | (simp [dsub_eq] <;> omega) | omega) (fun _ _ => rfl) | exact VLe.rows (by simp [dsub_eq] <;> omega) rows_take | exact VLe.rows (by simp [dsub_eq] <;> omega) rows_dt | exact VLe.rows (by simp [dsub_eq] <;> omega) rows_vt | exact VLe.rows (by simp) (fun i _ => by simp [viewRow_eq, Nat.add_comm]) | refine VLe.aggL ?_ | (refine BLe.rows rfl ?_ fun _ _ => rfl; (first | rfl | (simp; done) | assumption | (simp [dsub_eq] <;> omega) | omega)) | refine BLe.box ?_ | (simp; done)))) ?_
          conv => whnf
          obtain rfl := Option.some.inj h
          exact ⟨_, LE.refl _, And.intro rfl trivial⟩

noncomputable def laws_toTreeVector_m (a0 : TreeVector) : Option (TreeVector) :=
 some a0

theorem laws_toTreeVector_c {a0 : TreeVector} {r : TreeVector} (h : laws_toTreeVector_m a0 = some r) : PureC Try.prog 114 [.agg [.d (.int .i64 a0.Root), .d (.int .i64 a0.Cost), .d (.int .i64 a0.Age)]] (.agg [.d (.int .i64 r.Root), .d (.int .i64 r.Cost), .d (.int .i64 r.Age)]) [] := by
  refine pureC_m tOk (fn := Try.f114) (c := codeOf Try.f114) rfl rfl (by kernel_rfl) rfl rfl (by simp) (by simp) (ids_of rfl) ?_
  unfold laws_toTreeVector_m at h
  conv => whnf
  obtain rfl := Option.some.inj h
  exact ⟨_, LE.refl _, And.intro rfl trivial⟩

noncomputable def laws_toTreeMind_m (a0 : TreeMind) : Option (TreeMind) :=
 bd (laws_toTreeVector_m a0.Vector) fun x1 =>
 some (⟨x1, a0.Link⟩ : TreeMind)

theorem laws_toTreeMind_c {a0 : TreeMind} {r : TreeMind} (h : laws_toTreeMind_m a0 = some r) : PureC Try.prog 113 [.agg [.d (.int .i64 a0.Vector.Root), .d (.int .i64 a0.Vector.Cost), .d (.int .i64 a0.Vector.Age), .d (.int .i64 a0.Link)]] (.agg [.d (.int .i64 r.Vector.Root), .d (.int .i64 r.Vector.Cost), .d (.int .i64 r.Vector.Age), .d (.int .i64 r.Link)]) [] := by
  refine pureC_m tOk (fn := Try.f113) (c := codeOf Try.f113) rfl rfl (by kernel_rfl) rfl rfl (by simp) (by simp) (ids_of rfl) ?_
  unfold laws_toTreeMind_m at h
  conv => whnf
  obtain ⟨x1, hx1, h⟩ := bd_some h
  refine callC 0 (laws_toTreeVector_c hx1) (by kernel_rfl) (by kernel_rfl) ?_
  clear hx1
  conv => whnf
  obtain rfl := Option.some.inj h
  exact ⟨_, LE.refl _, And.intro rfl trivial⟩

noncomputable def laws_toTreeBridge_m (a0 : TreeBridge) : Option (TreeBridge) :=
 bd (laws_toTreeMind_m a0.Mind) fun x1 =>
 some ({ a0 with Mind := x1 })

theorem laws_toTreeBridge_c {a0 : TreeBridge} {r : TreeBridge} (h : laws_toTreeBridge_m a0 = some r) : PureC Try.prog 93 [.agg [.d (.int .i64 a0.Id), .d (.bool a0.Up), .d (.int .i64 a0.Mind.Vector.Root), .d (.int .i64 a0.Mind.Vector.Cost), .d (.int .i64 a0.Mind.Vector.Age), .d (.int .i64 a0.Mind.Link)]] (.agg [.d (.int .i64 r.Id), .d (.bool r.Up), .d (.int .i64 r.Mind.Vector.Root), .d (.int .i64 r.Mind.Vector.Cost), .d (.int .i64 r.Mind.Vector.Age), .d (.int .i64 r.Mind.Link)]) [] := by
  refine pureC_m tOk (fn := Try.f93) (c := codeOf Try.f93) rfl rfl (by kernel_rfl) rfl rfl (by simp) (by simp) (ids_of rfl) ?_
  unfold laws_toTreeBridge_m at h
  conv => whnf
  obtain ⟨x1, hx1, h⟩ := bd_some h
  refine callC 0 (laws_toTreeMind_c hx1) (by kernel_rfl) (by kernel_rfl) ?_
  clear hx1
  conv => whnf
  obtain rfl := Option.some.inj h
  exact ⟨_, LE.refl _, And.intro rfl trivial⟩

noncomputable def laws_toTreeLink_m (a0 : TreeLink) : Option (TreeLink) :=
 some a0

theorem laws_toTreeLink_c {a0 : TreeLink} {r : TreeLink} (h : laws_toTreeLink_m a0 = some r) : PureC Try.prog 74 [.agg [.d (.int .i64 a0.A), .d (.int .i64 a0.B), .d (.int .i64 a0.Cost)]] (.agg [.d (.int .i64 r.A), .d (.int .i64 r.B), .d (.int .i64 r.Cost)]) [] := by
  refine pureC_m tOk (fn := Try.f74) (c := codeOf Try.f74) rfl rfl (by kernel_rfl) rfl rfl (by simp) (by simp) (ids_of rfl) ?_
  unfold laws_toTreeLink_m at h
  conv => whnf
  obtain rfl := Option.some.inj h
  exact ⟨_, LE.refl _, And.intro rfl trivial⟩

noncomputable def laws_toTreeSlot_m (a0 : TreeSlot) : Option (TreeSlot) :=
 bd (laws_toTreeVector_m a0.Vector) fun x1 =>
 some (⟨x1, a0.Left⟩ : TreeSlot)

theorem laws_toTreeSlot_c {a0 : TreeSlot} {r : TreeSlot} (h : laws_toTreeSlot_m a0 = some r) : PureC Try.prog 94 [.agg [.d (.int .i64 a0.Vector.Root), .d (.int .i64 a0.Vector.Cost), .d (.int .i64 a0.Vector.Age), .d (.int .i64 a0.Left)]] (.agg [.d (.int .i64 r.Vector.Root), .d (.int .i64 r.Vector.Cost), .d (.int .i64 r.Vector.Age), .d (.int .i64 r.Left)]) [] := by
  refine pureC_m tOk (fn := Try.f94) (c := codeOf Try.f94) rfl rfl (by kernel_rfl) rfl rfl (by simp) (by simp) (ids_of rfl) ?_
  unfold laws_toTreeSlot_m at h
  conv => whnf
  obtain ⟨x1, hx1, h⟩ := bd_some h
  refine callC 0 (laws_toTreeVector_c hx1) (by kernel_rfl) (by kernel_rfl) ?_
  clear hx1
  conv => whnf
  obtain rfl := Option.some.inj h
  exact ⟨_, LE.refl _, And.intro rfl trivial⟩

noncomputable def laws_toTreeWord_m (a0 : TreeWord) : Option (TreeWord) :=
 bd (laws_toTreeVector_m a0.Vector) fun x1 =>
 some ({ a0 with Vector := x1 })

theorem laws_toTreeWord_c {a0 : TreeWord} {r : TreeWord} (h : laws_toTreeWord_m a0 = some r) : PureC Try.prog 95 [.agg [.d (.int .i64 a0.Link), .d (.int .i64 a0.End), .d (.int .i64 a0.Vector.Root), .d (.int .i64 a0.Vector.Cost), .d (.int .i64 a0.Vector.Age)]] (.agg [.d (.int .i64 r.Link), .d (.int .i64 r.End), .d (.int .i64 r.Vector.Root), .d (.int .i64 r.Vector.Cost), .d (.int .i64 r.Vector.Age)]) [] := by
  refine pureC_m tOk (fn := Try.f95) (c := codeOf Try.f95) rfl rfl (by kernel_rfl) rfl rfl (by simp) (by simp) (ids_of rfl) ?_
  unfold laws_toTreeWord_m at h
  conv => whnf
  obtain ⟨x1, hx1, h⟩ := bd_some h
  refine callC 0 (laws_toTreeVector_c hx1) (by kernel_rfl) (by kernel_rfl) ?_
  clear hx1
  conv => whnf
  obtain rfl := Option.some.inj h
  exact ⟨_, LE.refl _, And.intro rfl trivial⟩

end Go.Proofs.Ytbolhcpkpncmfaa
