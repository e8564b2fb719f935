/-
  What some of the program's functions compute: their models, and that the functions compute these; no condition.
-/
import Derived.Test.YtbolhcpkpncmfaaTyz
import Derived.Test.YtbolhcpkpncmfaaTbz
import Derived.Test.YtbolhcpkpncmfaaKz6
set_option linter.all false
namespace Go.Proofs.Ytbolhcpkpncmfaa
open Go Go.Ab
set_option maxRecDepth 100000
set_option maxHeartbeats 4000000
noncomputable def laws_FnExactTreeOpenWorld_m (a0 : (List Int)) (a1 : (List TreeLink)) : Option (Bool) :=
(if (decide (((a0.length : Nat) : Int) > 1048576)) = true then
 some true
else
 bd (laws_szTreeLinkS_m a1 1048576) fun x1 =>
(if (decide (x1 < 0)) = true then
 some true
else
 bd (laws_toIntS_m a0) fun x2 =>
 bd (laws_toTreeLinkS_m a1) fun x3 =>
 bd (spec_TreeOpenWorld_m x2 x3) fun x4 =>
 bd (laws_toIntS_m a0) fun x5 =>
 bd (laws_toTreeLinkS_m a1) fun x6 =>
 bd (impl_TreeOpenWorld_m x5 x6) fun x7 =>
 bd (laws_eqTreeWorld_m x7.1 x4.1) fun x8 =>
(if ((!x8) || (!(x7.2 == x4.2))) = true then
 some false
else
 bd (laws_toIntS_m a0) fun x9 =>
 bd (laws_eqIntS_m x5 x9) fun x10 =>
(if (!x10) = true then
 some false
else
 bd (laws_toTreeLinkS_m a1) fun x11 =>
 bd (laws_eqTreeLinkS_m x6 x11) fun x12 =>
(if (!x12) = true then
 some false
else
 bd (laws_markIntS_m x5 1) fun x13 =>
 gd (x13.2.length = x5.length) <|
 bd (laws_markTreeLinkS_m x6 x13.1) fun x14 =>
 gd (x14.2.length = x6.length) <|
 bd (gcall ((decide (x14.1 < 0)) = false) (laws_eqTreeWorld_m x7.1 x4.1)) fun x15 =>
(if (((decide (x14.1 < 0)) || (!x15)) || (!(x7.2 == x4.2))) = true then
 some false
else
 bd (laws_markTreeWorld_m x7.1 1) fun x16 =>
 gd (x16.2.Bridges.length = x7.1.Bridges.length) <|
 gd (x16.2.Links.length = x7.1.Links.length) <|
 gd (x16.2.Down.length = x7.1.Down.length) <|
 gd (x16.2.AtA.length = x7.1.AtA.length) <|
 gd (x16.2.AtB.length = x7.1.AtB.length) <|
 gd (x16.2.Radio.length = x7.1.Radio.length) <|
 bd (laws_heldTreeWorld_m x16.2 1) fun x17 =>
(if (decide (x17 < 0)) = true then
 some false
else
(if (x17 != x16.1) = true then
 some false
else
 bd (laws_toIntS_m a0) fun x18 =>
 bd (laws_toTreeLinkS_m a1) fun x19 =>
 bd (impl_TreeOpenWorld_m x18 x19) fun x20 =>
 bd (laws_eqTreeWorld_m x20.1 x4.1) fun x21 =>
(if ((!x21) || (!(x20.2 == x4.2))) = true then
 some false
else
 bd (laws_heldTreeWorld_m x16.2 1) fun x22 =>
(if (decide (x22 < 0)) = true then
 some false
else
(if (x22 != x16.1) = true then
 some false
else
 some true)))))))))))

theorem laws_FnExactTreeOpenWorld_c {a0 : (List Int)} {a1 : (List TreeLink)} {r : Bool} (h : laws_FnExactTreeOpenWorld_m a0 a1 = some r) : PureC Try.prog 6 [.d (slD encInt a0), .d (slD TreeLink.enc a1)] (.d (.bool r)) [] := by
  refine pureC_m tOk (fn := Try.f6) (c := codeOf Try.f6) rfl rfl (by kernel_rfl) rfl rfl (by simp) (by simp) (ids_of rfl) ?_
  unfold laws_FnExactTreeOpenWorld_m at h
  conv => whnf
  refine seq_in tOk ?_
  conv => whnf
  refine And.intro (fun e => ?_) (fun e => ?_)
  · replace h := ite_t h e; clear e
    conv => whnf
    obtain rfl := Option.some.inj h
    exact ⟨_, LE.refl _, And.intro rfl trivial⟩
  · replace h := ite_f h e; clear e
    conv => whnf
    obtain ⟨x1, hx1, h⟩ := bd_some h
    refine callC 0 (laws_szTreeLinkS_c hx1) (by kernel_rfl) (by kernel_rfl) ?_
    clear hx1
    conv => whnf
    refine seq_in tOk ?_
    conv => whnf
    refine And.intro (fun e => ?_) (fun e => ?_)
    · replace h := ite_t h e; clear e
      conv => whnf
      obtain rfl := Option.some.inj h
      exact ⟨_, LE.refl _, And.intro rfl trivial⟩
    · replace h := ite_f h e; clear e
      conv => whnf
      obtain ⟨x2, hx2, h⟩ := bd_some h
      refine callC 1000 (laws_toIntS_c hx2) (by kernel_rfl) (by kernel_rfl) ?_
      clear hx2
      conv => whnf
      obtain ⟨x3, hx3, h⟩ := bd_some h
      refine callC 2000 (laws_toTreeLinkS_c hx3) (by kernel_rfl) (by kernel_rfl) ?_
      clear hx3
      conv => whnf
      obtain ⟨x4, hx4, h⟩ := bd_some h
      refine callC 3000 (spec_TreeOpenWorld_c hx4) (by kernel_rfl) (by kernel_rfl) ?_
      clear hx4
      conv => whnf
      obtain ⟨x5, hx5, h⟩ := bd_some h
      refine callC 4000 (laws_toIntS_c hx5) (by kernel_rfl) (by kernel_rfl) ?_
      clear hx5
      conv => whnf
      obtain ⟨x6, hx6, h⟩ := bd_some h
      refine callC 5000 (laws_toTreeLinkS_c hx6) (by kernel_rfl) (by kernel_rfl) ?_
      clear hx6
      conv => whnf
      obtain ⟨x7, hx7, h⟩ := bd_some h
      refine callC 6000 (impl_TreeOpenWorld_c hx7) (by kernel_rfl) (by kernel_rfl) ?_
      clear hx7
      conv => whnf
      refine seq_in tOk ?_
      conv => whnf
      obtain ⟨x8, hx8, h⟩ := bd_some h
      refine callC 0 (laws_eqTreeWorld_c hx8) (by kernel_rfl) (by kernel_rfl) ?_
      clear hx8
      conv => whnf
      refine And.intro (fun e => ?_) (fun e => ?_)
      · replace h := ite_t h e; clear e
        conv => whnf
        obtain rfl := Option.some.inj h
        exact ⟨_, LE.refl _, And.intro rfl trivial⟩
      · replace h := ite_f h e; clear e
        conv => whnf
        refine seq_in tOk ?_
        conv => whnf
        obtain ⟨x9, hx9, h⟩ := bd_some h
        refine callC 7000 (laws_toIntS_c hx9) (by kernel_rfl) (by kernel_rfl) ?_
        clear hx9
        conv => whnf
        obtain ⟨x10, hx10, h⟩ := bd_some h
        refine callC 0 (laws_eqIntS_c hx10) (by kernel_rfl) (by kernel_rfl) ?_
        clear hx10
        conv => whnf
        refine And.intro (fun e => ?_) (fun e => ?_)
        · replace h := ite_t h e; clear e
          conv => whnf
          obtain rfl := Option.some.inj h
          exact ⟨_, LE.refl _, And.intro rfl trivial⟩
        · replace h := ite_f h e; clear e
          conv => whnf
          refine seq_in tOk ?_
          conv => whnf
          obtain ⟨x11, hx11, h⟩ := bd_some h
          refine callC 8000 (laws_toTreeLinkS_c hx11) (by kernel_rfl) (by kernel_rfl) ?_
          clear hx11
          conv => whnf
          obtain ⟨x12, hx12, h⟩ := bd_some h
          refine callC 0 (laws_eqTreeLinkS_c hx12) (by kernel_rfl) (by kernel_rfl) ?_
          clear hx12
          conv => whnf
          refine And.intro (fun e => ?_) (fun e => ?_)
          · replace h := ite_t h e; clear e
            conv => whnf
            obtain rfl := Option.some.inj h
            exact ⟨_, LE.refl _, And.intro rfl trivial⟩
          · replace h := ite_f h e; clear e
            conv => whnf
            obtain ⟨x13, hx13, h⟩ := bd_some h
            obtain ⟨g30, h⟩ := gd_some h
            refine callE [(9000, 9001)] 0 (laws_markIntS_c hx13) (by (repeat' first | ((conv => whnf); first | exact trivial | refine And.intro ?_ ?_ | exact BLe.refl _ | exact VLe.refl _) | exact trivial | refine And.intro ?_ ?_ | exact VLe.refl _ | exact VLe.any _ | exact VLe.nil_osl rfl | exact VLe.nil_sl rfl | exact VLe.built rfl rfl | (refine VLe.osl rfl ?_; (first | rfl | (simp; done) | assumption | (simp [dsub_eq] <;> omega) | omega)) | exact VLe.rows (by first | rfl | (simp; done) | assumption | (simp [dsub_eq] <;> omega) | omega) (fun _ _ => rfl) | exact VLe.rows (by simp [dsub_eq] <;> omega) rows_take | exact VLe.rows (by simp [dsub_eq] <;> omega) rows_dt | exact VLe.rows (by simp [dsub_eq] <;> omega) rows_vt | exact VLe.rows (by simp) (fun i _ => by simp [viewRow_eq, Nat.add_comm]) | refine VLe.aggL ?_)) (by (repeat' first | ((conv => whnf); first | exact trivial | refine And.intro ?_ ?_ | exact BLe.refl _ | exact VLe.refl _) | exact trivial | exact rfl | refine And.intro ?_ ?_ | exact BLe.refl _ | exact VLe.refl _ | exact VLe.any _ | exact VLe.nil_osl rfl | exact VLe.nil_sl rfl | exact VLe.built rfl rfl | (refine VLe.osl rfl ?_; (first | rfl | (simp; done) | assumption | (simp [dsub_eq] <;> omega) | omega)) | exact VLe.rows (by first | rfl | (simp; done) | assumption | (simp [dsub_eq] <;> omega) | omega) (fun _ _ => rfl) | exact VLe.rows (by simp [dsub_eq] <;> omega) rows_take | exact VLe.rows (by simp [dsub_eq] <;> omega) rows_dt | exact VLe.rows (by simp [dsub_eq] <;> omega) rows_vt | exact VLe.rows (by simp) (fun i _ => by simp [viewRow_eq, Nat.add_comm]) | refine VLe.aggL ?_ | (refine BLe.rows rfl ?_ fun _ _ => rfl; (first | rfl | (simp; done) | assumption | (simp [dsub_eq] <;> omega) | omega)) | refine BLe.box ?_ | (simp; done))) rfl rfl ?_
            conv => whnf
            obtain ⟨x14, hx14, h⟩ := bd_some h
            obtain ⟨g29, h⟩ := gd_some h
            refine callE [(9000, 10001)] 0 (laws_markTreeLinkS_c hx14) (by (repeat' first | ((conv => whnf); first | exact trivial | refine And.intro ?_ ?_ | exact BLe.refl _ | exact VLe.refl _) | exact trivial | refine And.intro ?_ ?_ | exact VLe.refl _ | exact VLe.any _ | exact VLe.nil_osl rfl | exact VLe.nil_sl rfl | exact VLe.built rfl rfl | (refine VLe.osl rfl ?_; (first | rfl | (simp; done) | assumption | (simp [dsub_eq] <;> omega) | omega)) | exact VLe.rows (by first | rfl | (simp; done) | assumption | (simp [dsub_eq] <;> omega) | omega) (fun _ _ => rfl) | exact VLe.rows (by simp [dsub_eq] <;> omega) rows_take | exact VLe.rows (by simp [dsub_eq] <;> omega) rows_dt | exact VLe.rows (by simp [dsub_eq] <;> omega) rows_vt | exact VLe.rows (by simp) (fun i _ => by simp [viewRow_eq, Nat.add_comm]) | refine VLe.aggL ?_)) (by (repeat' first | ((conv => whnf); first | exact trivial | refine And.intro ?_ ?_ | exact BLe.refl _ | exact VLe.refl _) | exact trivial | exact rfl | refine And.intro ?_ ?_ | exact BLe.refl _ | exact VLe.refl _ | exact VLe.any _ | exact VLe.nil_osl rfl | exact VLe.nil_sl rfl | exact VLe.built rfl rfl | (refine VLe.osl rfl ?_; (first | rfl | (simp; done) | assumption | (simp [dsub_eq] <;> omega) | omega)) | exact VLe.rows (by first | rfl | (simp; done) | assumption | (simp [dsub_eq] <;> omega) | omega) (fun _ _ => rfl) | exact VLe.rows (by simp [dsub_eq] <;> omega) rows_take | exact VLe.rows (by simp [dsub_eq] <;> omega) rows_dt | exact VLe.rows (by simp [dsub_eq] <;> omega) rows_vt | exact VLe.rows (by simp) (fun i _ => by simp [viewRow_eq, Nat.add_comm]) | refine VLe.aggL ?_ | (refine BLe.rows rfl ?_ fun _ _ => rfl; (first | rfl | (simp; done) | assumption | (simp [dsub_eq] <;> omega) | omega)) | refine BLe.box ?_ | (simp; done))) rfl rfl ?_
            conv => whnf
            refine seq_in tOk ?_
            conv => whnf
            obtain ⟨x15, hx15, h⟩ := bd_some h
            refine callG_m rfl rfl rfl rfl rfl rfl (by intro c0; exact laws_eqTreeWorld_c (gcall_some hx15 c0)) ?_
            conv => whnf
            refine And.intro (fun e => ?_) (fun e => ?_)
            · replace h := ite_t h e; clear e
              conv => whnf
              obtain rfl := Option.some.inj h
              exact ⟨_, LE.refl _, And.intro rfl trivial⟩
            · replace h := ite_f h e; clear e
              conv => whnf
              obtain ⟨x16, hx16, h⟩ := bd_some h
              obtain ⟨g23, h⟩ := gd_some h
              obtain ⟨g24, h⟩ := gd_some h
              obtain ⟨g25, h⟩ := gd_some h
              obtain ⟨g26, h⟩ := gd_some h
              obtain ⟨g27, h⟩ := gd_some h
              obtain ⟨g28, h⟩ := gd_some h
              refine callE [(9000, 11001), (9001, 11002), (9002, 11003), (9003, 11004), (9004, 11005), (9005, 11006)] 0 (laws_markTreeWorld_c hx16) (by (repeat' first | ((conv => whnf); first | exact trivial | refine And.intro ?_ ?_ | exact BLe.refl _ | exact VLe.refl _) | exact trivial | refine And.intro ?_ ?_ | exact VLe.refl _ | exact VLe.any _ | exact VLe.nil_osl rfl | exact VLe.nil_sl rfl | exact VLe.built rfl rfl | (refine VLe.osl rfl ?_; (first | rfl | (simp; done) | assumption | (simp [dsub_eq] <;> omega) | omega)) | exact VLe.rows (by first | rfl | (simp; done) | assumption | (simp [dsub_eq] <;> omega) | omega) (fun _ _ => rfl) | exact VLe.rows (by simp [dsub_eq] <;> omega) rows_take | exact VLe.rows (by simp [dsub_eq] <;> omega) rows_dt | exact VLe.rows (by simp [dsub_eq] <;> omega) rows_vt | exact VLe.rows (by simp) (fun i _ => by simp [viewRow_eq, Nat.add_comm]) | refine VLe.aggL ?_)) (by (repeat' first | ((conv => whnf); first | exact trivial | refine And.intro ?_ ?_ | exact BLe.refl _ | exact VLe.refl _) | exact trivial | exact rfl | refine And.intro ?_ ?_ | exact BLe.refl _ | exact VLe.refl _ | exact VLe.any _ | exact VLe.nil_osl rfl | exact VLe.nil_sl rfl | exact VLe.built rfl rfl | (refine VLe.osl rfl ?_; (first | rfl | (simp; done) | assumption | (simp [dsub_eq] <;> omega) | omega)) | exact VLe.rows (by first | rfl | (simp; done) | assumption | (simp [dsub_eq] <;> omega) | omega) (fun _ _ => rfl) | exact VLe.rows (by simp [dsub_eq] <;> omega) rows_take | exact VLe.rows (by simp [dsub_eq] <;> omega) rows_dt | exact VLe.rows (by simp [dsub_eq] <;> omega) rows_vt | exact VLe.rows (by simp) (fun i _ => by simp [viewRow_eq, Nat.add_comm]) | refine VLe.aggL ?_ | (refine BLe.rows rfl ?_ fun _ _ => rfl; (first | rfl | (simp; done) | assumption | (simp [dsub_eq] <;> omega) | omega)) | refine BLe.box ?_ | (simp; done))) rfl rfl ?_
              conv => whnf
              obtain ⟨x17, hx17, h⟩ := bd_some h
              refine callW (args1 := [.agg [.d (.sl x7.1.Bridges.length (rows TreeBridge.enc x16.2.Bridges)), .d (.sl x7.1.Links.length (rows TreeLink.enc x16.2.Links)), .d (.sl x7.1.Down.length (rows encInt x16.2.Down)), .d (.sl x7.1.AtA.length (rows TreeSlot.enc x16.2.AtA)), .d (.sl x7.1.AtB.length (rows TreeSlot.enc x16.2.AtB)), .d (.sl x7.1.Radio.length (rows TreeWord.enc x16.2.Radio))], .d (.int .i64 1)]) 0 (laws_heldTreeWorld_c hx17) (by kernel_rfl) (by (repeat' first | ((conv => whnf); first | exact trivial | refine And.intro ?_ ?_ | exact BLe.refl _ | exact VLe.refl _) | exact trivial | refine And.intro ?_ ?_ | exact VLe.refl _ | exact VLe.any _ | exact VLe.nil_osl rfl | exact VLe.nil_sl rfl | exact VLe.built rfl rfl | (refine VLe.osl rfl ?_; (first | rfl | (simp; done) | assumption | (simp [dsub_eq] <;> omega) | omega)) | exact VLe.rows (by first | rfl | (simp; done) | assumption | (simp [dsub_eq] <;> omega) | omega) (fun _ _ => rfl) | exact VLe.rows (by simp [dsub_eq] <;> omega) rows_take | exact VLe.rows (by simp [dsub_eq] <;> omega) rows_dt | exact VLe.rows (by simp [dsub_eq] <;> omega) rows_vt | exact VLe.rows (by simp) (fun i _ => by simp [viewRow_eq, Nat.add_comm]) | refine VLe.aggL ?_)) (by kernel_rfl) ?_
              conv => whnf
              refine seq_in tOk ?_
              conv => whnf
              refine And.intro (fun e => ?_) (fun e => ?_)
              · replace h := ite_t h e; clear e
                conv => whnf
                obtain rfl := Option.some.inj h
                exact ⟨_, LE.refl _, And.intro rfl trivial⟩
              · replace h := ite_f h e; clear e
                conv => whnf
                refine seq_in tOk ?_
                conv => whnf
                refine And.intro (fun e => ?_) (fun e => ?_)
                · replace h := ite_t h e; clear e
                  conv => whnf
                  obtain rfl := Option.some.inj h
                  exact ⟨_, LE.refl _, And.intro rfl trivial⟩
                · replace h := ite_f h e; clear e
                  conv => whnf
                  obtain ⟨x18, hx18, h⟩ := bd_some h
                  refine callC 9000 (laws_toIntS_c hx18) (by kernel_rfl) (by kernel_rfl) ?_
                  clear hx18
                  conv => whnf
                  obtain ⟨x19, hx19, h⟩ := bd_some h
                  refine callC 10000 (laws_toTreeLinkS_c hx19) (by kernel_rfl) (by kernel_rfl) ?_
                  clear hx19
                  conv => whnf
                  obtain ⟨x20, hx20, h⟩ := bd_some h
                  refine callC 11000 (impl_TreeOpenWorld_c hx20) (by kernel_rfl) (by kernel_rfl) ?_
                  clear hx20
                  conv => whnf
                  refine seq_in tOk ?_
                  conv => whnf
                  obtain ⟨x21, hx21, h⟩ := bd_some h
                  refine callC 0 (laws_eqTreeWorld_c hx21) (by kernel_rfl) (by kernel_rfl) ?_
                  clear hx21
                  conv => whnf
                  refine And.intro (fun e => ?_) (fun e => ?_)
                  · replace h := ite_t h e; clear e
                    conv => whnf
                    obtain rfl := Option.some.inj h
                    exact ⟨_, LE.refl _, And.intro rfl trivial⟩
                  · replace h := ite_f h e; clear e
                    conv => whnf
                    obtain ⟨x22, hx22, h⟩ := bd_some h
                    refine callW (args1 := [.agg [.d (.sl x7.1.Bridges.length (rows TreeBridge.enc x16.2.Bridges)), .d (.sl x7.1.Links.length (rows TreeLink.enc x16.2.Links)), .d (.sl x7.1.Down.length (rows encInt x16.2.Down)), .d (.sl x7.1.AtA.length (rows TreeSlot.enc x16.2.AtA)), .d (.sl x7.1.AtB.length (rows TreeSlot.enc x16.2.AtB)), .d (.sl x7.1.Radio.length (rows TreeWord.enc x16.2.Radio))], .d (.int .i64 1)]) 0 (laws_heldTreeWorld_c hx22) (by kernel_rfl) (by (repeat' first | ((conv => whnf); first | exact trivial | refine And.intro ?_ ?_ | exact BLe.refl _ | exact VLe.refl _) | exact trivial | refine And.intro ?_ ?_ | exact VLe.refl _ | exact VLe.any _ | exact VLe.nil_osl rfl | exact VLe.nil_sl rfl | exact VLe.built rfl rfl | (refine VLe.osl rfl ?_; (first | rfl | (simp; done) | assumption | (simp [dsub_eq] <;> omega) | omega)) | exact VLe.rows (by first | rfl | (simp; done) | assumption | (simp [dsub_eq] <;> omega) | omega) (fun _ _ => rfl) | exact VLe.rows (by simp [dsub_eq] <;> omega) rows_take | exact VLe.rows (by simp [dsub_eq] <;> omega) rows_dt | exact VLe.rows (by simp [dsub_eq] <;> omega) rows_vt | exact VLe.rows (by simp) (fun i _ => by simp [viewRow_eq, Nat.add_comm]) | refine VLe.aggL ?_)) (by kernel_rfl) ?_
                    conv => whnf
                    refine seq_in tOk ?_
                    conv => whnf
                    refine And.intro (fun e => ?_) (fun e => ?_)
                    · replace h := ite_t h e; clear e
                      conv => whnf
                      obtain rfl := Option.some.inj h
                      exact ⟨_, LE.refl _, And.intro rfl trivial⟩
                    · replace h := ite_f h e; clear e
                      conv => whnf
                      refine seq_in tOk ?_
                      conv => whnf
                      refine And.intro (fun e => ?_) (fun e => ?_)
                      · replace h := ite_t h e; clear e
                        conv => whnf
                        obtain rfl := Option.some.inj h
                        exact ⟨_, LE.refl _, And.intro rfl trivial⟩
                      · replace h := ite_f h e; clear e
                        conv => whnf
                        obtain rfl := Option.some.inj h
                        exact ⟨_, LE.refl _, And.intro rfl trivial⟩

noncomputable def impl_TreeWorld_isUp_m (a0 : TreeWorld) (a1 : Int) : Option (Bool) :=
 bd (impl_within_m a1 0 (IntKind.i64.wrap (((a0.Bridges.length : Nat) : Int) - 1))) fun x1 =>
 gd (x1 = true → ((0 : Int) ≤ a1 ∧ a1 < ((a0.Bridges.length : Nat) : Int))) <|
 some (x1 && (a0.Bridges.getD a1.toNat default).Up)

theorem impl_TreeWorld_isUp_c {a0 : TreeWorld} {a1 : Int} {r : Bool} (h : impl_TreeWorld_isUp_m a0 a1 = some r) : PureC Try.prog 71 [.rp [slD TreeBridge.enc a0.Bridges, slD TreeLink.enc a0.Links, slD encInt a0.Down, slD TreeSlot.enc a0.AtA, slD TreeSlot.enc a0.AtB, slD TreeWord.enc a0.Radio], .d (.int .i64 a1)] (.d (.bool r)) [] := by
  refine pureC_m tOk (fn := Try.f71) (c := codeOf Try.f71) rfl rfl (by kernel_rfl) rfl rfl (by simp) (by simp) (ids_of rfl) ?_
  unfold impl_TreeWorld_isUp_m at h
  conv => whnf
  obtain ⟨x1, hx1, h⟩ := bd_some h
  refine callC 0 (impl_within_c hx1) (by kernel_rfl) (by kernel_rfl) ?_
  clear hx1
  conv => whnf
  obtain ⟨g2, h⟩ := gd_some h
  refine And.intro g2 ?_
  clear g2
  conv => whnf
  obtain rfl := Option.some.inj h
  exact ⟨_, LE.refl _, And.intro rfl trivial⟩

noncomputable def impl_TreeVector_compare_m (a0 : TreeVector) (a1 : TreeVector) : Option (Int) :=
(if (a0.Root != a1.Root) = true then
 some (IntKind.i64.wrap (a0.Root - a1.Root))
else
 some (IntKind.i64.wrap (a0.Cost - a1.Cost)))

theorem impl_TreeVector_compare_c {a0 : TreeVector} {a1 : TreeVector} {r : Int} (h : impl_TreeVector_compare_m a0 a1 = some r) : PureC Try.prog 108 [.agg [.d (.int .i64 a0.Root), .d (.int .i64 a0.Cost), .d (.int .i64 a0.Age)], .agg [.d (.int .i64 a1.Root), .d (.int .i64 a1.Cost), .d (.int .i64 a1.Age)]] (.d (.int .i64 r)) [] := by
  refine pureC_m tOk (fn := Try.f108) (c := codeOf Try.f108) rfl rfl (by kernel_rfl) rfl rfl (by simp) (by simp) (ids_of rfl) ?_
  unfold impl_TreeVector_compare_m at h
  conv => whnf
  refine seq_in tOk ?_
  conv => whnf
  refine And.intro (fun e => ?_) (fun e => ?_)
  · replace h := ite_t h e; clear e
    conv => whnf
    obtain rfl := Option.some.inj h
    exact ⟨_, LE.refl _, And.intro rfl trivial⟩
  · replace h := ite_f h e; clear e
    conv => whnf
    obtain rfl := Option.some.inj h
    exact ⟨_, LE.refl _, And.intro rfl trivial⟩

noncomputable def impl_TreeWorld_think_m (a0 : TreeWorld) (a1 : Int) : Option (TreeMind) :=
 gd ((0 : Int) ≤ a1 ∧ a1 < ((a0.Bridges.length : Nat) : Int)) <|
 bd (impl_selfMind_m ((a0.Bridges.getD a1.toNat default).Id)) fun x2 =>
 bd (lp (σ := Int × Int × Int × Int × Int × Int) (β := (Int × Int × Int × Int)) (fun s3 =>
(if (decide (s3.2.2.2.2.1 < ((a0.Links.length : Nat) : Int))) = true then
 gd ((0 : Int) ≤ s3.2.2.2.2.1 ∧ s3.2.2.2.2.1 < ((a0.Links.length : Nat) : Int)) <|
 bd (lp (σ := Int × Int × Int × Int × Int × Int) (β := (Int × Int × Int × Int × Int)) (fun s8 =>
(if (decide (s8.2.2.2.2.1 < 2)) = true then
 bd (impl_TreeWorld_slot_m a0 s3.2.2.2.2.1 s8.2.2.2.2.1) fun x12 =>
 bd (impl_TreeWorld_bridgeAt_m a0 s3.2.2.2.2.1 s8.2.2.2.2.1) fun x13 =>
 bd (gcall ((x13 != a1) = false) (impl_TreeVector_nothing_m x12.Vector)) fun x14 =>
(if ((((x13 != a1) || x14) || (decide (x12.Vector.Age ≥ 10))) || (decide ((IntKind.i64.wrap (x12.Vector.Cost + ((a0.Links.getD s3.2.2.2.2.1.toNat default).Cost))) > 1000))) = true then
 some (.inl (s8.1, s8.2.1, s8.2.2.1, s8.2.2.2.1, IntKind.i64.wrap (s8.2.2.2.2.1 + 1), s8.2.2.2.2.2))
else
 bd (impl_TreeWorld_bridgeAt_m a0 s3.2.2.2.2.1 (IntKind.i64.wrap (1 - s8.2.2.2.2.1))) fun x15 =>
 gd ((0 : Int) ≤ x15 ∧ x15 < ((a0.Bridges.length : Nat) : Int)) <|
 bd (impl_TreeVector_compare_m (⟨x12.Vector.Root, IntKind.i64.wrap (x12.Vector.Cost + ((a0.Links.getD s3.2.2.2.2.1.toNat default).Cost)), IntKind.i64.wrap (x12.Vector.Age + 1)⟩ : TreeVector) (⟨s8.1, s8.2.1, s8.2.2.1⟩ : TreeVector)) fun x17 =>
(if ((decide (x17 < 0)) || ((x17 == 0) && (decide (((a0.Bridges.getD x15.toNat default).Id) < s8.2.2.2.2.2)))) = true then
 some (.inl (x12.Vector.Root, IntKind.i64.wrap (x12.Vector.Cost + ((a0.Links.getD s3.2.2.2.2.1.toNat default).Cost)), IntKind.i64.wrap (x12.Vector.Age + 1), s3.2.2.2.2.1, IntKind.i64.wrap (s8.2.2.2.2.1 + 1), (a0.Bridges.getD x15.toNat default).Id))
else
 some (.inl (s8.1, s8.2.1, s8.2.2.1, s8.2.2.2.1, IntKind.i64.wrap (s8.2.2.2.2.1 + 1), s8.2.2.2.2.2))))
else
 some (.inr (s8.2.2.2.2.2, s8.1, s8.2.1, s8.2.2.1, s8.2.2.2.1)))) (s3.1, s3.2.1, s3.2.2.1, s3.2.2.2.1, 0, s3.2.2.2.2.2)) fun x11 =>
 some (.inl (x11.2.1, x11.2.2.1, x11.2.2.2.1, x11.2.2.2.2, IntKind.i64.wrap (s3.2.2.2.2.1 + 1), x11.1))
else
 some (.inr (s3.1, s3.2.1, s3.2.2.1, s3.2.2.2.1)))) (x2.Vector.Root, x2.Vector.Cost, x2.Vector.Age, x2.Link, 0, 0)) fun x6 =>
 some (⟨(⟨x6.1, x6.2.1, x6.2.2.1⟩ : TreeVector), x6.2.2.2⟩ : TreeMind)

theorem impl_TreeWorld_think_c {a0 : TreeWorld} {a1 : Int} {r : TreeMind} (h : impl_TreeWorld_think_m a0 a1 = some r) : PureC Try.prog 72 [.rp [slD TreeBridge.enc a0.Bridges, slD TreeLink.enc a0.Links, slD encInt a0.Down, slD TreeSlot.enc a0.AtA, slD TreeSlot.enc a0.AtB, slD TreeWord.enc a0.Radio], .d (.int .i64 a1)] (.agg [.d (.int .i64 r.Vector.Root), .d (.int .i64 r.Vector.Cost), .d (.int .i64 r.Vector.Age), .d (.int .i64 r.Link)]) [] := by
  refine pureC_m tOk (fn := Try.f72) (c := codeOf Try.f72) rfl rfl (by kernel_rfl) rfl rfl (by simp) (by simp) (ids_of rfl) ?_
  unfold impl_TreeWorld_think_m at h
  conv => whnf
  obtain ⟨g1, h⟩ := gd_some h
  refine And.intro g1 ?_
  clear g1
  conv => whnf
  obtain ⟨x2, hx2, h⟩ := bd_some h
  refine callC 0 (impl_selfMind_c hx2) (by kernel_rfl) (by kernel_rfl) ?_
  clear hx2
  conv => whnf
  refine seq_in tOk ?_
  conv => whnf
  obtain ⟨x6, hx6, h⟩ := bd_some h
  refine loop_m tOk hx6 (fun s3 => ⟨0, 110, [(0, .rp [slD TreeBridge.enc a0.Bridges, slD TreeLink.enc a0.Links, slD encInt a0.Down, slD TreeSlot.enc a0.AtA, slD TreeSlot.enc a0.AtB, slD TreeWord.enc a0.Radio]), (1, .d (.int .i64 a1)), (4, .ref 4 0 0), (5, .ref 5 0 0), (6, .d (.int .i64 s3.2.2.2.2.2)), (25, .d (slD TreeLink.enc a0.Links)), (26, .d (.int .i64 ((a0.Links.length : Nat) : Int))), (27, .d (.int .i64 s3.2.2.2.2.1))], [], [(5, .box 51 [.d (.int .i64 s3.1), .d (.int .i64 s3.2.1), .d (.int .i64 s3.2.2.1), .d (.int .i64 s3.2.2.2.1)]), (4, .box 51 [.d (.int .i64 0), .d (.int .i64 0), .d (.int .i64 0), .d (.int .i64 0)])], []⟩) ?_ ?_
  · refine le_mk ?_ ?_ ?_ <;> (repeat' first | ((conv => whnf); first | exact trivial | refine And.intro ?_ ?_ | exact BLe.refl _ | exact VLe.refl _) | exact trivial | exact rfl | refine And.intro ?_ ?_ | exact BLe.refl _ | exact VLe.refl _ | exact VLe.any _ | exact VLe.nil_osl rfl | exact VLe.nil_sl rfl | exact VLe.built rfl rfl | (refine VLe.osl rfl ?_; (first | rfl | (simp; done) | assumption | (simp [dsub_eq] <;> omega) | omega)) | exact VLe.rows (by first | rfl | (simp; done) | assumption | (simp [dsub_eq] <;> omega) | omega) (fun _ _ => rfl) | exact VLe.rows (by simp [dsub_eq] <;> omega) rows_take | exact VLe.rows (by simp [dsub_eq] <;> omega) rows_dt | exact VLe.rows (by simp [dsub_eq] <;> omega) rows_vt | exact VLe.rows (by simp) (fun i _ => by simp [viewRow_eq, Nat.add_comm]) | refine VLe.aggL ?_ | (refine BLe.rows rfl ?_ fun _ _ => rfl; (first | rfl | (simp; done) | assumption | (simp [dsub_eq] <;> omega) | omega)) | (refine BLe.rows rfl rfl ?_; first | exact rows_take) | refine BLe.box ?_)
  · clear hx6
    intro s3 y4 g5 hy4
    conv => whnf
    refine seq_in tOk ?_
    conv => whnf
    refine And.intro (fun e => ?_) (fun e => ?_)
    · replace g5 := ite_t g5 e; clear e
      conv => whnf
      refine seq_in tOk ?_
      conv => whnf
      obtain ⟨g7, g5⟩ := gd_some g5
      refine And.intro g7 ?_
      clear g7
      conv => whnf
      obtain ⟨x11, hx11, g5⟩ := bd_some g5
      refine loop_m tOk hx11 (fun s8 => ⟨0, 110, [(0, .rp [slD TreeBridge.enc a0.Bridges, slD TreeLink.enc a0.Links, slD encInt a0.Down, slD TreeSlot.enc a0.AtA, slD TreeSlot.enc a0.AtB, slD TreeWord.enc a0.Radio]), (1, .d (.int .i64 a1)), (4, .ref 4 0 0), (5, .ref 5 0 0), (6, .d (.int .i64 s8.2.2.2.2.2)), (7, .d (.int .i64 s3.2.2.2.2.1)), (8, .ref 8 0 0), (25, .d (slD TreeLink.enc a0.Links)), (26, .d (.int .i64 ((a0.Links.length : Nat) : Int))), (27, .d (.int .i64 s3.2.2.2.2.1)), (32, .d (.int .i64 s8.2.2.2.2.1))], [], [(8, .box 70 [.d (.int .i64 ((a0.Links.getD s3.2.2.2.2.1.toNat default).A)), .d (.int .i64 ((a0.Links.getD s3.2.2.2.2.1.toNat default).B)), .d (.int .i64 ((a0.Links.getD s3.2.2.2.2.1.toNat default).Cost))]), (5, .box 51 [.d (.int .i64 s8.1), .d (.int .i64 s8.2.1), .d (.int .i64 s8.2.2.1), .d (.int .i64 s8.2.2.2.1)]), (4, .box 51 [.d (.int .i64 0), .d (.int .i64 0), .d (.int .i64 0), .d (.int .i64 0)])], []⟩) ?_ ?_
      · refine le_mk ?_ ?_ ?_ <;> (repeat' first | ((conv => whnf); first | exact trivial | refine And.intro ?_ ?_ | exact BLe.refl _ | exact VLe.refl _) | exact trivial | exact rfl | refine And.intro ?_ ?_ | exact BLe.refl _ | exact VLe.refl _ | exact VLe.any _ | exact VLe.nil_osl rfl | exact VLe.nil_sl rfl | exact VLe.built rfl rfl | (refine VLe.osl rfl ?_; (first | rfl | (simp; done) | assumption | (simp [dsub_eq] <;> omega) | omega)) | exact VLe.rows (by first | rfl | (simp; done) | assumption | (simp [dsub_eq] <;> omega) | omega) (fun _ _ => rfl) | exact VLe.rows (by simp [dsub_eq] <;> omega) rows_take | exact VLe.rows (by simp [dsub_eq] <;> omega) rows_dt | exact VLe.rows (by simp [dsub_eq] <;> omega) rows_vt | exact VLe.rows (by simp) (fun i _ => by simp [viewRow_eq, Nat.add_comm]) | refine VLe.aggL ?_ | (refine BLe.rows rfl ?_ fun _ _ => rfl; (first | rfl | (simp; done) | assumption | (simp [dsub_eq] <;> omega) | omega)) | (refine BLe.rows rfl rfl ?_; first | exact rows_take) | refine BLe.box ?_)
      · clear hx11
        intro s8 y9 g10 hy9
        conv => whnf
        refine seq_in tOk ?_
        conv => whnf
        refine And.intro (fun e => ?_) (fun e => ?_)
        · replace g10 := ite_t g10 e; clear e
          conv => whnf
          refine seq_in tOk ?_
          conv => whnf
          obtain ⟨x12, hx12, g10⟩ := bd_some g10
          refine callE [] 0 (impl_TreeWorld_slot_c hx12) (by (repeat' first | ((conv => whnf); first | exact trivial | refine And.intro ?_ ?_ | exact BLe.refl _ | exact VLe.refl _) | exact trivial | refine And.intro ?_ ?_ | exact VLe.refl _ | exact VLe.any _ | exact VLe.nil_osl rfl | exact VLe.nil_sl rfl | exact VLe.built rfl rfl | (refine VLe.osl rfl ?_; (first | rfl | (simp; done) | assumption | (simp [dsub_eq] <;> omega) | omega)) | exact VLe.rows (by first | rfl | (simp; done) | assumption | (simp [dsub_eq] <;> omega) | omega) (fun _ _ => rfl) | exact VLe.rows (by simp [dsub_eq] <;> omega) rows_take | exact VLe.rows (by simp [dsub_eq] <;> omega) rows_dt | exact VLe.rows (by simp [dsub_eq] <;> omega) rows_vt | exact VLe.rows (by simp) (fun i _ => by simp [viewRow_eq, Nat.add_comm]) | refine VLe.aggL ?_)) (by (repeat' first | ((conv => whnf); first | exact trivial | refine And.intro ?_ ?_ | exact BLe.refl _ | exact VLe.refl _) | exact trivial | exact rfl | refine And.intro ?_ ?_ | exact BLe.refl _ | exact VLe.refl _ | exact VLe.any _ | exact VLe.nil_osl rfl | exact VLe.nil_sl rfl | exact VLe.built rfl rfl | (refine VLe.osl rfl ?_; (first | rfl | (simp; done) | assumption | (simp [dsub_eq] <;> omega) | omega)) | exact VLe.rows (by first | rfl | (simp; done) | assumption | (simp [dsub_eq] <;> omega) | omega) (fun _ _ => rfl) | exact VLe.rows (by simp [dsub_eq] <;> omega) rows_take | exact VLe.rows (by simp [dsub_eq] <;> omega) rows_dt | exact VLe.rows (by simp [dsub_eq] <;> omega) rows_vt | exact VLe.rows (by simp) (fun i _ => by simp [viewRow_eq, Nat.add_comm]) | refine VLe.aggL ?_ | (refine BLe.rows rfl ?_ fun _ _ => rfl; (first | rfl | (simp; done) | assumption | (simp [dsub_eq] <;> omega) | omega)) | refine BLe.box ?_ | (simp; done))) rfl rfl ?_
          conv => whnf
          refine seq_in tOk ?_
          conv => whnf
          obtain ⟨x13, hx13, g10⟩ := bd_some g10
          refine callC 0 (impl_TreeWorld_bridgeAt_c hx13) (by kernel_rfl) (by kernel_rfl) ?_
          clear hx13
          conv => whnf
          obtain ⟨x14, hx14, g10⟩ := bd_some g10
          refine callG_m rfl rfl rfl rfl rfl rfl (by intro c0; exact impl_TreeVector_nothing_c (gcall_some hx14 c0)) ?_
          conv => whnf
          refine And.intro (fun e => ?_) (fun e => ?_)
          · replace g10 := ite_t g10 e; clear e
            conv => whnf
            obtain rfl := Option.some.inj g10
            refine ⟨_, rfl, le_mk ?_ ?_ ?_⟩ <;> (repeat' first | ((conv => whnf); first | exact trivial | refine And.intro ?_ ?_ | exact BLe.refl _ | exact VLe.refl _) | exact trivial | exact rfl | refine And.intro ?_ ?_ | exact BLe.refl _ | exact VLe.refl _ | exact VLe.any _ | exact VLe.nil_osl rfl | exact VLe.nil_sl rfl | exact VLe.built rfl rfl | (refine VLe.osl rfl ?_; (first | rfl | (simp; done) | assumption | (simp [dsub_eq] <;> omega) | omega)) | exact VLe.rows (by first | rfl | (simp; done) | assumption | (simp [dsub_eq] <;> omega) | omega) (fun _ _ => rfl) | exact VLe.rows (by simp [dsub_eq] <;> omega) rows_take | exact VLe.rows (by simp [dsub_eq] <;> omega) rows_dt | exact VLe.rows (by simp [dsub_eq] <;> omega) rows_vt | exact VLe.rows (by simp) (fun i _ => by simp [viewRow_eq, Nat.add_comm]) | refine VLe.aggL ?_ | (refine BLe.rows rfl ?_ fun _ _ => rfl; (first | rfl | (simp; done) | assumption | (simp [dsub_eq] <;> omega) | omega)) | (refine BLe.rows rfl rfl ?_; first | exact rows_take) | refine BLe.box ?_)
          · replace g10 := ite_f g10 e; clear e
            conv => whnf
            obtain ⟨x15, hx15, g10⟩ := bd_some g10
            obtain ⟨g16, g10⟩ := gd_some g10
            refine draw_k tOk (by kernel_rfl) (fun j => match j with | 8 => some (.pure 0 (.d (.int .i64 x15)) []) | _ => none) 13 [] [[], [true], [true, true], [true, true, true], [], [], [], [false, false, false, false, false, false, true], [false, false, false, false, true, true, true, true], [true, true, true, true, true, true, true, true, true], [true, true, true, true, true, true, true, true, true, true], [true, true, true, true, true, true, true, true, true, true, true], [true, true, true, true, true, true, true, true, true, true, true, true]] [] (by decide) (by kernel_rfl) (by kernel_rfl) ?_
            conv => whnf
            refine And.intro (callD_any (impl_TreeWorld_bridgeAt_c hx15) (by kernel_rfl)) ?_
            conv => whnf
            refine And.intro g16 ?_
            clear g16
            conv => whnf
            refine And.intro (by kernel_rfl) ?_
            conv => whnf
            obtain ⟨x17, hx17, g10⟩ := bd_some g10
            refine callC 0 (impl_TreeVector_compare_c hx17) (by kernel_rfl) (by kernel_rfl) ?_
            clear hx17
            conv => whnf
            refine And.intro (fun e => ?_) (fun e => ?_)
            · replace g10 := ite_t g10 e; clear e
              conv => whnf
              obtain rfl := Option.some.inj g10
              refine ⟨_, rfl, le_mk ?_ ?_ ?_⟩ <;> (repeat' first | ((conv => whnf); first | exact trivial | refine And.intro ?_ ?_ | exact BLe.refl _ | exact VLe.refl _) | exact trivial | exact rfl | refine And.intro ?_ ?_ | exact BLe.refl _ | exact VLe.refl _ | exact VLe.any _ | exact VLe.nil_osl rfl | exact VLe.nil_sl rfl | exact VLe.built rfl rfl | (refine VLe.osl rfl ?_; (first | rfl | (simp; done) | assumption | (simp [dsub_eq] <;> omega) | omega)) | exact VLe.rows (by first | rfl | (simp; done) | assumption | (simp [dsub_eq] <;> omega) | omega) (fun _ _ => rfl) | exact VLe.rows (by simp [dsub_eq] <;> omega) rows_take | exact VLe.rows (by simp [dsub_eq] <;> omega) rows_dt | exact VLe.rows (by simp [dsub_eq] <;> omega) rows_vt | exact VLe.rows (by simp) (fun i _ => by simp [viewRow_eq, Nat.add_comm]) | refine VLe.aggL ?_ | (refine BLe.rows rfl ?_ fun _ _ => rfl; (first | rfl | (simp; done) | assumption | (simp [dsub_eq] <;> omega) | omega)) | (refine BLe.rows rfl rfl ?_; first | exact rows_take) | refine BLe.box ?_)
            · replace g10 := ite_f g10 e; clear e
              conv => whnf
              obtain rfl := Option.some.inj g10
              refine ⟨_, rfl, le_mk ?_ ?_ ?_⟩ <;> (repeat' first | ((conv => whnf); first | exact trivial | refine And.intro ?_ ?_ | exact BLe.refl _ | exact VLe.refl _) | exact trivial | exact rfl | refine And.intro ?_ ?_ | exact BLe.refl _ | exact VLe.refl _ | exact VLe.any _ | exact VLe.nil_osl rfl | exact VLe.nil_sl rfl | exact VLe.built rfl rfl | (refine VLe.osl rfl ?_; (first | rfl | (simp; done) | assumption | (simp [dsub_eq] <;> omega) | omega)) | exact VLe.rows (by first | rfl | (simp; done) | assumption | (simp [dsub_eq] <;> omega) | omega) (fun _ _ => rfl) | exact VLe.rows (by simp [dsub_eq] <;> omega) rows_take | exact VLe.rows (by simp [dsub_eq] <;> omega) rows_dt | exact VLe.rows (by simp [dsub_eq] <;> omega) rows_vt | exact VLe.rows (by simp) (fun i _ => by simp [viewRow_eq, Nat.add_comm]) | refine VLe.aggL ?_ | (refine BLe.rows rfl ?_ fun _ _ => rfl; (first | rfl | (simp; done) | assumption | (simp [dsub_eq] <;> omega) | omega)) | (refine BLe.rows rfl rfl ?_; first | exact rows_take) | refine BLe.box ?_)
        · replace g10 := ite_f g10 e; clear e
          conv => whnf
          obtain rfl := Option.some.inj g10
          obtain rfl := hy9 _ rfl
          obtain rfl := Option.some.inj g5
          refine ⟨_, rfl, le_mk ?_ ?_ ?_⟩ <;> (repeat' first | ((conv => whnf); first | exact trivial | refine And.intro ?_ ?_ | exact BLe.refl _ | exact VLe.refl _) | exact trivial | exact rfl | refine And.intro ?_ ?_ | exact BLe.refl _ | exact VLe.refl _ | exact VLe.any _ | exact VLe.nil_osl rfl | exact VLe.nil_sl rfl | exact VLe.built rfl rfl | (refine VLe.osl rfl ?_; (first | rfl | (simp; done) | assumption | (simp [dsub_eq] <;> omega) | omega)) | exact VLe.rows (by first | rfl | (simp; done) | assumption | (simp [dsub_eq] <;> omega) | omega) (fun _ _ => rfl) | exact VLe.rows (by simp [dsub_eq] <;> omega) rows_take | exact VLe.rows (by simp [dsub_eq] <;> omega) rows_dt | exact VLe.rows (by simp [dsub_eq] <;> omega) rows_vt | exact VLe.rows (by simp) (fun i _ => by simp [viewRow_eq, Nat.add_comm]) | refine VLe.aggL ?_ | (refine BLe.rows rfl ?_ fun _ _ => rfl; (first | rfl | (simp; done) | assumption | (simp [dsub_eq] <;> omega) | omega)) | (refine BLe.rows rfl rfl ?_; first | exact rows_take) | refine BLe.box ?_)
    · replace g5 := ite_f g5 e; clear e
      conv => whnf
      obtain rfl := Option.some.inj g5
      obtain rfl := hy4 _ rfl
      obtain rfl := Option.some.inj h
      exact ⟨_, LE.refl _, And.intro rfl trivial⟩

noncomputable def impl_TreeThink_m (a0 : TreeWorld) (a1 : Int) : Option (TreeMind) :=
 bd (impl_TreeWorldOk_m a0) fun x1 =>
 bd (gcall ((!x1) = false) (impl_TreeWorld_isUp_m a0 a1)) fun x2 =>
(if ((!x1) || (!x2)) = true then
 some (⟨(⟨0, 0, 0⟩ : TreeVector), 0⟩ : TreeMind)
else
 bd (impl_TreeWorld_think_m a0 a1) fun x3 =>
 some x3)

theorem impl_TreeThink_c {a0 : TreeWorld} {a1 : Int} {r : TreeMind} (h : impl_TreeThink_m a0 a1 = some r) : PureC Try.prog 21 [.agg [.d (slD TreeBridge.enc a0.Bridges), .d (slD TreeLink.enc a0.Links), .d (slD encInt a0.Down), .d (slD TreeSlot.enc a0.AtA), .d (slD TreeSlot.enc a0.AtB), .d (slD TreeWord.enc a0.Radio)], .d (.int .i64 a1)] (.agg [.d (.int .i64 r.Vector.Root), .d (.int .i64 r.Vector.Cost), .d (.int .i64 r.Vector.Age), .d (.int .i64 r.Link)]) [] := by
  refine pureC_m tOk (fn := Try.f21) (c := codeOf Try.f21) rfl rfl (by kernel_rfl) rfl rfl (by simp) (by simp) (ids_of rfl) ?_
  unfold impl_TreeThink_m at h
  conv => whnf
  refine seq_in tOk ?_
  conv => whnf
  obtain ⟨x1, hx1, h⟩ := bd_some h
  refine callC 0 (impl_TreeWorldOk_c hx1) (by kernel_rfl) (by kernel_rfl) ?_
  clear hx1
  conv => whnf
  obtain ⟨x2, hx2, h⟩ := bd_some h
  refine callG_m rfl rfl rfl rfl rfl rfl (by intro c0; exact impl_TreeWorld_isUp_c (gcall_some hx2 c0)) ?_
  conv => whnf
  refine And.intro (fun e => ?_) (fun e => ?_)
  · replace h := ite_t h e; clear e
    conv => whnf
    obtain rfl := Option.some.inj h
    exact ⟨_, LE.refl _, And.intro rfl trivial⟩
  · replace h := ite_f h e; clear e
    conv => whnf
    obtain ⟨x3, hx3, h⟩ := bd_some h
    refine callC 0 (impl_TreeWorld_think_c hx3) (by kernel_rfl) (by kernel_rfl) ?_
    clear hx3
    conv => whnf
    obtain rfl := Option.some.inj h
    exact ⟨_, LE.refl _, And.intro rfl trivial⟩

noncomputable def laws_szIntS_m (a0 : (List Int)) (a1 : Int) : Option (Int) :=
(if (decide ((IntKind.i64.wrap (a1 - ((a0.length : Nat) : Int))) < 0)) = true then
 some (-1)
else
 some (IntKind.i64.wrap (a1 - ((a0.length : Nat) : Int))))

theorem laws_szIntS_c {a0 : (List Int)} {a1 : Int} {r : Int} (h : laws_szIntS_m a0 a1 = some r) : PureC Try.prog 50 [.d (slD encInt a0), .d (.int .i64 a1)] (.d (.int .i64 r)) [] := by
  refine pureC_m tOk (fn := Try.f50) (c := codeOf Try.f50) rfl rfl (by kernel_rfl) rfl rfl (by simp) (by simp) (ids_of rfl) ?_
  unfold laws_szIntS_m at h
  conv => whnf
  refine seq_in tOk ?_
  conv => whnf
  refine And.intro (fun e => ?_) (fun e => ?_)
  · replace h := ite_t h e; clear e
    conv => whnf
    obtain rfl := Option.some.inj h
    exact ⟨_, LE.refl _, And.intro rfl trivial⟩
  · replace h := ite_f h e; clear e
    conv => whnf
    obtain rfl := Option.some.inj h
    exact ⟨_, LE.refl _, And.intro rfl trivial⟩

noncomputable def laws_szTreeBridgeS_m (a0 : (List TreeBridge)) (a1 : Int) : Option (Int) :=
(if (decide ((IntKind.i64.wrap (a1 - ((a0.length : Nat) : Int))) < 0)) = true then
 some (-1)
else
 some (IntKind.i64.wrap (a1 - ((a0.length : Nat) : Int))))

theorem laws_szTreeBridgeS_c {a0 : (List TreeBridge)} {a1 : Int} {r : Int} (h : laws_szTreeBridgeS_m a0 a1 = some r) : PureC Try.prog 49 [.d (slD TreeBridge.enc a0), .d (.int .i64 a1)] (.d (.int .i64 r)) [] := by
  refine pureC_m tOk (fn := Try.f49) (c := codeOf Try.f49) rfl rfl (by kernel_rfl) rfl rfl (by simp) (by simp) (ids_of rfl) ?_
  unfold laws_szTreeBridgeS_m at h
  conv => whnf
  refine seq_in tOk ?_
  conv => whnf
  refine And.intro (fun e => ?_) (fun e => ?_)
  · replace h := ite_t h e; clear e
    conv => whnf
    obtain rfl := Option.some.inj h
    exact ⟨_, LE.refl _, And.intro rfl trivial⟩
  · replace h := ite_f h e; clear e
    conv => whnf
    obtain rfl := Option.some.inj h
    exact ⟨_, LE.refl _, And.intro rfl trivial⟩

noncomputable def laws_szTreeSlotS_m (a0 : (List TreeSlot)) (a1 : Int) : Option (Int) :=
(if (decide ((IntKind.i64.wrap (a1 - ((a0.length : Nat) : Int))) < 0)) = true then
 some (-1)
else
 some (IntKind.i64.wrap (a1 - ((a0.length : Nat) : Int))))

theorem laws_szTreeSlotS_c {a0 : (List TreeSlot)} {a1 : Int} {r : Int} (h : laws_szTreeSlotS_m a0 a1 = some r) : PureC Try.prog 51 [.d (slD TreeSlot.enc a0), .d (.int .i64 a1)] (.d (.int .i64 r)) [] := by
  refine pureC_m tOk (fn := Try.f51) (c := codeOf Try.f51) rfl rfl (by kernel_rfl) rfl rfl (by simp) (by simp) (ids_of rfl) ?_
  unfold laws_szTreeSlotS_m at h
  conv => whnf
  refine seq_in tOk ?_
  conv => whnf
  refine And.intro (fun e => ?_) (fun e => ?_)
  · replace h := ite_t h e; clear e
    conv => whnf
    obtain rfl := Option.some.inj h
    exact ⟨_, LE.refl _, And.intro rfl trivial⟩
  · replace h := ite_f h e; clear e
    conv => whnf
    obtain rfl := Option.some.inj h
    exact ⟨_, LE.refl _, And.intro rfl trivial⟩

noncomputable def laws_szTreeWordS_m (a0 : (List TreeWord)) (a1 : Int) : Option (Int) :=
(if (decide ((IntKind.i64.wrap (a1 - ((a0.length : Nat) : Int))) < 0)) = true then
 some (-1)
else
 some (IntKind.i64.wrap (a1 - ((a0.length : Nat) : Int))))

theorem laws_szTreeWordS_c {a0 : (List TreeWord)} {a1 : Int} {r : Int} (h : laws_szTreeWordS_m a0 a1 = some r) : PureC Try.prog 52 [.d (slD TreeWord.enc a0), .d (.int .i64 a1)] (.d (.int .i64 r)) [] := by
  refine pureC_m tOk (fn := Try.f52) (c := codeOf Try.f52) rfl rfl (by kernel_rfl) rfl rfl (by simp) (by simp) (ids_of rfl) ?_
  unfold laws_szTreeWordS_m at h
  conv => whnf
  refine seq_in tOk ?_
  conv => whnf
  refine And.intro (fun e => ?_) (fun e => ?_)
  · replace h := ite_t h e; clear e
    conv => whnf
    obtain rfl := Option.some.inj h
    exact ⟨_, LE.refl _, And.intro rfl trivial⟩
  · replace h := ite_f h e; clear e
    conv => whnf
    obtain rfl := Option.some.inj h
    exact ⟨_, LE.refl _, And.intro rfl trivial⟩

noncomputable def laws_szTreeWorld_m (a0 : TreeWorld) (a1 : Int) : Option (Int) :=
 bd (laws_szTreeBridgeS_m a0.Bridges a1) fun x1 =>
(if (decide (x1 < 0)) = true then
 some (-1)
else
 bd (laws_szTreeLinkS_m a0.Links x1) fun x2 =>
(if (decide (x2 < 0)) = true then
 some (-1)
else
 bd (laws_szIntS_m a0.Down x2) fun x3 =>
(if (decide (x3 < 0)) = true then
 some (-1)
else
 bd (laws_szTreeSlotS_m a0.AtA x3) fun x4 =>
(if (decide (x4 < 0)) = true then
 some (-1)
else
 bd (laws_szTreeSlotS_m a0.AtB x4) fun x5 =>
(if (decide (x5 < 0)) = true then
 some (-1)
else
 bd (laws_szTreeWordS_m a0.Radio x5) fun x6 =>
(if (decide (x6 < 0)) = true then
 some (-1)
else
 some x6))))))

theorem laws_szTreeWorld_c {a0 : TreeWorld} {a1 : Int} {r : Int} (h : laws_szTreeWorld_m a0 a1 = some r) : PureC Try.prog 15 [.agg [.d (slD TreeBridge.enc a0.Bridges), .d (slD TreeLink.enc a0.Links), .d (slD encInt a0.Down), .d (slD TreeSlot.enc a0.AtA), .d (slD TreeSlot.enc a0.AtB), .d (slD TreeWord.enc a0.Radio)], .d (.int .i64 a1)] (.d (.int .i64 r)) [] := by
  refine pureC_m tOk (fn := Try.f15) (c := codeOf Try.f15) rfl rfl (by kernel_rfl) rfl rfl (by simp) (by simp) (ids_of rfl) ?_
  unfold laws_szTreeWorld_m at h
  conv => whnf
  obtain ⟨x1, hx1, h⟩ := bd_some h
  refine callC 0 (laws_szTreeBridgeS_c hx1) (by kernel_rfl) (by kernel_rfl) ?_
  clear hx1
  conv => whnf
  refine seq_in tOk ?_
  conv => whnf
  refine And.intro (fun e => ?_) (fun e => ?_)
  · replace h := ite_t h e; clear e
    conv => whnf
    obtain rfl := Option.some.inj h
    exact ⟨_, LE.refl _, And.intro rfl trivial⟩
  · replace h := ite_f h e; clear e
    conv => whnf
    obtain ⟨x2, hx2, h⟩ := bd_some h
    refine callC 0 (laws_szTreeLinkS_c hx2) (by kernel_rfl) (by kernel_rfl) ?_
    clear hx2
    conv => whnf
    refine seq_in tOk ?_
    conv => whnf
    refine And.intro (fun e => ?_) (fun e => ?_)
    · replace h := ite_t h e; clear e
      conv => whnf
      obtain rfl := Option.some.inj h
      exact ⟨_, LE.refl _, And.intro rfl trivial⟩
    · replace h := ite_f h e; clear e
      conv => whnf
      obtain ⟨x3, hx3, h⟩ := bd_some h
      refine callC 0 (laws_szIntS_c hx3) (by kernel_rfl) (by kernel_rfl) ?_
      clear hx3
      conv => whnf
      refine seq_in tOk ?_
      conv => whnf
      refine And.intro (fun e => ?_) (fun e => ?_)
      · replace h := ite_t h e; clear e
        conv => whnf
        obtain rfl := Option.some.inj h
        exact ⟨_, LE.refl _, And.intro rfl trivial⟩
      · replace h := ite_f h e; clear e
        conv => whnf
        obtain ⟨x4, hx4, h⟩ := bd_some h
        refine callC 0 (laws_szTreeSlotS_c hx4) (by kernel_rfl) (by kernel_rfl) ?_
        clear hx4
        conv => whnf
        refine seq_in tOk ?_
        conv => whnf
        refine And.intro (fun e => ?_) (fun e => ?_)
        · replace h := ite_t h e; clear e
          conv => whnf
          obtain rfl := Option.some.inj h
          exact ⟨_, LE.refl _, And.intro rfl trivial⟩
        · replace h := ite_f h e; clear e
          conv => whnf
          obtain ⟨x5, hx5, h⟩ := bd_some h
          refine callC 0 (laws_szTreeSlotS_c hx5) (by kernel_rfl) (by kernel_rfl) ?_
          clear hx5
          conv => whnf
          refine seq_in tOk ?_
          conv => whnf
          refine And.intro (fun e => ?_) (fun e => ?_)
          · replace h := ite_t h e; clear e
            conv => whnf
            obtain rfl := Option.some.inj h
            exact ⟨_, LE.refl _, And.intro rfl trivial⟩
          · replace h := ite_f h e; clear e
            conv => whnf
            obtain ⟨x6, hx6, h⟩ := bd_some h
            refine callC 0 (laws_szTreeWordS_c hx6) (by kernel_rfl) (by kernel_rfl) ?_
            clear hx6
            conv => whnf
            refine seq_in tOk ?_
            conv => whnf
            refine And.intro (fun e => ?_) (fun e => ?_)
            · replace h := ite_t h e; clear e
              conv => whnf
              obtain rfl := Option.some.inj h
              exact ⟨_, LE.refl _, And.intro rfl trivial⟩
            · replace h := ite_f h e; clear e
              conv => whnf
              obtain rfl := Option.some.inj h
              exact ⟨_, LE.refl _, And.intro rfl trivial⟩

noncomputable def laws_toTreeVector_m (a0 : TreeVector) : Option (TreeVector) :=
 some a0

theorem laws_toTreeVector_c {a0 : TreeVector} {r : TreeVector} (h : laws_toTreeVector_m a0 = some r) : PureC Try.prog 114 [.agg [.d (.int .i64 a0.Root), .d (.int .i64 a0.Cost), .d (.int .i64 a0.Age)]] (.agg [.d (.int .i64 r.Root), .d (.int .i64 r.Cost), .d (.int .i64 r.Age)]) [] := by
  refine pureC_m tOk (fn := Try.f114) (c := codeOf Try.f114) rfl rfl (by kernel_rfl) rfl rfl (by simp) (by simp) (ids_of rfl) ?_
  unfold laws_toTreeVector_m at h
  conv => whnf
  obtain rfl := Option.some.inj h
  exact ⟨_, LE.refl _, And.intro rfl trivial⟩

noncomputable def laws_toTreeMind_m (a0 : TreeMind) : Option (TreeMind) :=
 bd (laws_toTreeVector_m a0.Vector) fun x1 =>
 some (⟨x1, a0.Link⟩ : TreeMind)

theorem laws_toTreeMind_c {a0 : TreeMind} {r : TreeMind} (h : laws_toTreeMind_m a0 = some r) : PureC Try.prog 113 [.agg [.d (.int .i64 a0.Vector.Root), .d (.int .i64 a0.Vector.Cost), .d (.int .i64 a0.Vector.Age), .d (.int .i64 a0.Link)]] (.agg [.d (.int .i64 r.Vector.Root), .d (.int .i64 r.Vector.Cost), .d (.int .i64 r.Vector.Age), .d (.int .i64 r.Link)]) [] := by
  refine pureC_m tOk (fn := Try.f113) (c := codeOf Try.f113) rfl rfl (by kernel_rfl) rfl rfl (by simp) (by simp) (ids_of rfl) ?_
  unfold laws_toTreeMind_m at h
  conv => whnf
  obtain ⟨x1, hx1, h⟩ := bd_some h
  refine callC 0 (laws_toTreeVector_c hx1) (by kernel_rfl) (by kernel_rfl) ?_
  clear hx1
  conv => whnf
  obtain rfl := Option.some.inj h
  exact ⟨_, LE.refl _, And.intro rfl trivial⟩

noncomputable def laws_toTreeBridge_m (a0 : TreeBridge) : Option (TreeBridge) :=
 bd (laws_toTreeMind_m a0.Mind) fun x1 =>
 some ({ a0 with Mind := x1 })

theorem laws_toTreeBridge_c {a0 : TreeBridge} {r : TreeBridge} (h : laws_toTreeBridge_m a0 = some r) : PureC Try.prog 93 [.agg [.d (.int .i64 a0.Id), .d (.bool a0.Up), .d (.int .i64 a0.Mind.Vector.Root), .d (.int .i64 a0.Mind.Vector.Cost), .d (.int .i64 a0.Mind.Vector.Age), .d (.int .i64 a0.Mind.Link)]] (.agg [.d (.int .i64 r.Id), .d (.bool r.Up), .d (.int .i64 r.Mind.Vector.Root), .d (.int .i64 r.Mind.Vector.Cost), .d (.int .i64 r.Mind.Vector.Age), .d (.int .i64 r.Mind.Link)]) [] := by
  refine pureC_m tOk (fn := Try.f93) (c := codeOf Try.f93) rfl rfl (by kernel_rfl) rfl rfl (by simp) (by simp) (ids_of rfl) ?_
  unfold laws_toTreeBridge_m at h
  conv => whnf
  obtain ⟨x1, hx1, h⟩ := bd_some h
  refine callC 0 (laws_toTreeMind_c hx1) (by kernel_rfl) (by kernel_rfl) ?_
  clear hx1
  conv => whnf
  obtain rfl := Option.some.inj h
  exact ⟨_, LE.refl _, And.intro rfl trivial⟩

noncomputable def laws_toTreeBridgeS_m (a0 : (List TreeBridge)) : Option ((List TreeBridge)) :=
 gd ((0 : Int) ≤ ((a0.length : Nat) : Int) ∧ ((a0.length : Nat) : Int) ≤ ((a0.length : Nat) : Int) ∧ ((a0.length : Nat) : Int) * 48 ≤ 140737488355328 ∧ ((a0.length : Nat) : Int) ≤ 140737488355328) <|
 bd (lp (σ := List TreeBridge × Int) (β := (Nat × (List TreeBridge))) (fun s1 =>
(if (decide (s1.2 < ((a0.length : Nat) : Int))) = true then
 gd ((0 : Int) ≤ s1.2 ∧ s1.2 < ((a0.length : Nat) : Int)) <|
 bd (laws_toTreeBridge_m ({ (a0.getD s1.2.toNat default) with Mind := (⟨(((a0.getD s1.2.toNat default).Mind).Vector), ((a0.getD s1.2.toNat default).Mind).Link⟩ : TreeMind) })) fun x6 =>
 gd ((0 : Int) ≤ s1.2 ∧ s1.2 < ((s1.1.length : Nat) : Int)) <|
 some (.inl (s1.1.set s1.2.toNat x6, IntKind.i64.wrap (s1.2 + 1)))
else
 some (.inr (s1.1.length, s1.1)))) ((List.replicate (((a0.length : Nat) : Int) : Int).toNat (default : TreeBridge)), 0)) fun x4 =>
 some x4.2

theorem laws_toTreeBridgeS_c {a0 : (List TreeBridge)} {r : (List TreeBridge)} (h : laws_toTreeBridgeS_m a0 = some r) : PureC Try.prog 56 [.d (slD TreeBridge.enc a0)] (.osl 5001 0 r.length) [⟨5001, 74, 6, r.length, rows TreeBridge.enc r⟩] := by
  refine pureC_m tOk (fn := Try.f56) (c := codeOf Try.f56) rfl rfl (by kernel_rfl) rfl rfl (by simp [atomD]) (by simp) (ids_of rfl) ?_
  unfold laws_toTreeBridgeS_m at h
  conv => whnf
  obtain ⟨g9, h⟩ := gd_some h
  refine And.intro g9 ?_
  clear g9
  refine ⟨(List.replicate (((a0.length : Nat) : Int) : Int).toNat (default : TreeBridge)).length, rows TreeBridge.enc (List.replicate (((a0.length : Nat) : Int) : Int).toNat (default : TreeBridge)), by simp, make_rows rfl, ?_⟩
  conv => whnf
  refine seq_in tOk ?_
  conv => whnf
  obtain ⟨x4, hx4, h⟩ := bd_some h
  refine loop_m tOk hx4 (fun s1 => ⟨0, 23, [(0, .d (slD TreeBridge.enc a0)), (3, .osl 7 0 s1.1.length), (4, .d (.int .i64 s1.2))], [], [(7, .arr 74 6 s1.1.length (rows TreeBridge.enc s1.1))], []⟩) ?_ ?_
  · refine le_mk ?_ ?_ ?_ <;> (repeat' first | ((conv => whnf); first | exact trivial | refine And.intro ?_ ?_ | exact BLe.refl _ | exact VLe.refl _) | exact trivial | exact rfl | refine And.intro ?_ ?_ | exact BLe.refl _ | exact VLe.refl _ | exact VLe.any _ | exact VLe.nil_osl rfl | exact VLe.nil_sl rfl | exact VLe.built rfl rfl | (refine VLe.osl rfl ?_; (first | rfl | (simp; done) | assumption | (simp [dsub_eq] <;> omega) | omega)) | exact VLe.rows (by first | rfl | (simp; done) | assumption | (simp [dsub_eq] <;> omega) | omega) (fun _ _ => rfl) | exact VLe.rows (by simp [dsub_eq] <;> omega) rows_take | exact VLe.rows (by simp [dsub_eq] <;> omega) rows_dt | exact VLe.rows (by simp [dsub_eq] <;> omega) rows_vt | exact VLe.rows (by simp) (fun i _ => by simp [viewRow_eq, Nat.add_comm]) | refine VLe.aggL ?_ | (refine BLe.rows rfl ?_ fun _ _ => rfl; (first | rfl | (simp; done) | assumption | (simp [dsub_eq] <;> omega) | omega)) | (refine BLe.rows rfl rfl ?_; first | exact rows_take) | refine BLe.box ?_)
  · clear hx4
    intro s1 y2 g3 hy2
    conv => whnf
    refine seq_in tOk ?_
    conv => whnf
    refine And.intro (fun e => ?_) (fun e => ?_)
    · replace g3 := ite_t g3 e; clear e
      conv => whnf
      refine seq_in tOk ?_
      conv => whnf
      obtain ⟨g5, g3⟩ := gd_some g3
      refine And.intro g5 ?_
      clear g5
      conv => whnf
      obtain ⟨x6, hx6, g3⟩ := bd_some g3
      refine callC 0 (laws_toTreeBridge_c hx6) (by kernel_rfl) (by kernel_rfl) ?_
      clear hx6
      conv => whnf
      obtain ⟨g7, g3⟩ := gd_some g3
      refine And.intro g7 ?_
      clear g7
      conv => whnf
      refine ⟨rows TreeBridge.enc (s1.1.set s1.2.toNat x6), store_rows' ((by first | rfl | (simp; done) | assumption | (simp [dsub_eq] <;> omega) | omega)) rfl, ?_⟩
      conv => whnf
      obtain rfl := Option.some.inj g3
      refine ⟨_, rfl, le_mk ?_ ?_ ?_⟩ <;> (repeat' first | ((conv => whnf); first | exact trivial | refine And.intro ?_ ?_ | exact BLe.refl _ | exact VLe.refl _) | exact trivial | exact rfl | refine And.intro ?_ ?_ | exact BLe.refl _ | exact VLe.refl _ | exact VLe.any _ | exact VLe.nil_osl rfl | exact VLe.nil_sl rfl | exact VLe.built rfl rfl | (refine VLe.osl rfl ?_; (first | rfl | (simp; done) | assumption | (simp [dsub_eq] <;> omega) | omega)) | exact VLe.rows (by first | rfl | (simp; done) | assumption | (simp [dsub_eq] <;> omega) | omega) (fun _ _ => rfl) | exact VLe.rows (by simp [dsub_eq] <;> omega) rows_take | exact VLe.rows (by simp [dsub_eq] <;> omega) rows_dt | exact VLe.rows (by simp [dsub_eq] <;> omega) rows_vt | exact VLe.rows (by simp) (fun i _ => by simp [viewRow_eq, Nat.add_comm]) | refine VLe.aggL ?_ | (refine BLe.rows rfl ?_ fun _ _ => rfl; (first | rfl | (simp; done) | assumption | (simp [dsub_eq] <;> omega) | omega)) | (refine BLe.rows rfl rfl ?_; first | exact rows_take) | refine BLe.box ?_)
    · replace g3 := ite_f g3 e; clear e
      conv => whnf
      obtain rfl := Option.some.inj g3
      obtain rfl := hy2 _ rfl
      obtain rfl := Option.some.inj h
      refine ⟨⟨0, 23, [(2, .osl 5001 0 (s1.1.length, s1.1).2.length)], [], [(5001, .arr 74 6 (s1.1.length, s1.1).2.length (rows TreeBridge.enc (s1.1.length, s1.1).2))], []⟩, ?_, And.intro rfl ?_⟩
      · refine LE.trans (S' := ⟨0, 23, [(2, .osl 7 0 (s1.1.length, s1.1).1)], [], [(7, .arr 74 6 (s1.1.length, s1.1).1 (rows TreeBridge.enc (s1.1.length, s1.1).2))], []⟩) (le_mk ?_ ?_ ?_) (LE.trans (S' := ⟨0, 23, [(2, .osl 5001 0 (s1.1.length, s1.1).1)], [], [(5001, .arr 74 6 (s1.1.length, s1.1).1 (rows TreeBridge.enc (s1.1.length, s1.1).2))], []⟩) (le_swaps [(7, 5001)] rfl) (le_mk ?_ ?_ ?_)) <;> (repeat' first | ((conv => whnf); first | exact trivial | refine And.intro ?_ ?_ | exact BLe.refl _ | exact VLe.refl _) | exact trivial | exact rfl | refine And.intro ?_ ?_ | exact BLe.refl _ | exact VLe.refl _ | exact VLe.any _ | exact VLe.nil_osl rfl | exact VLe.nil_sl rfl | exact VLe.built rfl rfl | (refine VLe.osl rfl ?_; (first | rfl | (simp; done) | assumption | (simp [dsub_eq] <;> omega) | omega)) | exact VLe.rows (by first | rfl | (simp; done) | assumption | (simp [dsub_eq] <;> omega) | omega) (fun _ _ => rfl) | exact VLe.rows (by simp [dsub_eq] <;> omega) rows_take | exact VLe.rows (by simp [dsub_eq] <;> omega) rows_dt | exact VLe.rows (by simp [dsub_eq] <;> omega) rows_vt | exact VLe.rows (by simp) (fun i _ => by simp [viewRow_eq, Nat.add_comm]) | refine VLe.aggL ?_ | (refine BLe.rows rfl ?_ fun _ _ => rfl; (first | rfl | (simp; done) | assumption | (simp [dsub_eq] <;> omega) | omega)) | (refine BLe.rows rfl rfl ?_; first | exact rows_take) | refine BLe.box ?_)
      · exact And.intro (And.intro rfl (And.intro rfl (fun _ _ => rfl))) (trivial)

noncomputable def laws_toTreeSlot_m (a0 : TreeSlot) : Option (TreeSlot) :=
 bd (laws_toTreeVector_m a0.Vector) fun x1 =>
 some (⟨x1, a0.Left⟩ : TreeSlot)

theorem laws_toTreeSlot_c {a0 : TreeSlot} {r : TreeSlot} (h : laws_toTreeSlot_m a0 = some r) : PureC Try.prog 94 [.agg [.d (.int .i64 a0.Vector.Root), .d (.int .i64 a0.Vector.Cost), .d (.int .i64 a0.Vector.Age), .d (.int .i64 a0.Left)]] (.agg [.d (.int .i64 r.Vector.Root), .d (.int .i64 r.Vector.Cost), .d (.int .i64 r.Vector.Age), .d (.int .i64 r.Left)]) [] := by
  refine pureC_m tOk (fn := Try.f94) (c := codeOf Try.f94) rfl rfl (by kernel_rfl) rfl rfl (by simp) (by simp) (ids_of rfl) ?_
  unfold laws_toTreeSlot_m at h
  conv => whnf
  obtain ⟨x1, hx1, h⟩ := bd_some h
  refine callC 0 (laws_toTreeVector_c hx1) (by kernel_rfl) (by kernel_rfl) ?_
  clear hx1
  conv => whnf
  obtain rfl := Option.some.inj h
  exact ⟨_, LE.refl _, And.intro rfl trivial⟩

noncomputable def laws_toTreeSlotS_m (a0 : (List TreeSlot)) : Option ((List TreeSlot)) :=
 gd ((0 : Int) ≤ ((a0.length : Nat) : Int) ∧ ((a0.length : Nat) : Int) ≤ ((a0.length : Nat) : Int) ∧ ((a0.length : Nat) : Int) * 32 ≤ 140737488355328 ∧ ((a0.length : Nat) : Int) ≤ 140737488355328) <|
 bd (lp (σ := List TreeSlot × Int) (β := (Nat × (List TreeSlot))) (fun s1 =>
(if (decide (s1.2 < ((a0.length : Nat) : Int))) = true then
 gd ((0 : Int) ≤ s1.2 ∧ s1.2 < ((a0.length : Nat) : Int)) <|
 bd (laws_toTreeSlot_m (⟨((a0.getD s1.2.toNat default).Vector), (a0.getD s1.2.toNat default).Left⟩ : TreeSlot)) fun x6 =>
 gd ((0 : Int) ≤ s1.2 ∧ s1.2 < ((s1.1.length : Nat) : Int)) <|
 some (.inl (s1.1.set s1.2.toNat x6, IntKind.i64.wrap (s1.2 + 1)))
else
 some (.inr (s1.1.length, s1.1)))) ((List.replicate (((a0.length : Nat) : Int) : Int).toNat (default : TreeSlot)), 0)) fun x4 =>
 some x4.2

theorem laws_toTreeSlotS_c {a0 : (List TreeSlot)} {r : (List TreeSlot)} (h : laws_toTreeSlotS_m a0 = some r) : PureC Try.prog 57 [.d (slD TreeSlot.enc a0)] (.osl 5001 0 r.length) [⟨5001, 112, 4, r.length, rows TreeSlot.enc r⟩] := by
  refine pureC_m tOk (fn := Try.f57) (c := codeOf Try.f57) rfl rfl (by kernel_rfl) rfl rfl (by simp [atomD]) (by simp) (ids_of rfl) ?_
  unfold laws_toTreeSlotS_m at h
  conv => whnf
  obtain ⟨g9, h⟩ := gd_some h
  refine And.intro g9 ?_
  clear g9
  refine ⟨(List.replicate (((a0.length : Nat) : Int) : Int).toNat (default : TreeSlot)).length, rows TreeSlot.enc (List.replicate (((a0.length : Nat) : Int) : Int).toNat (default : TreeSlot)), by simp, make_rows rfl, ?_⟩
  conv => whnf
  refine seq_in tOk ?_
  conv => whnf
  obtain ⟨x4, hx4, h⟩ := bd_some h
  refine loop_m tOk hx4 (fun s1 => ⟨0, 23, [(0, .d (slD TreeSlot.enc a0)), (3, .osl 7 0 s1.1.length), (4, .d (.int .i64 s1.2))], [], [(7, .arr 112 4 s1.1.length (rows TreeSlot.enc s1.1))], []⟩) ?_ ?_
  · refine le_mk ?_ ?_ ?_ <;> (repeat' first | ((conv => whnf); first | exact trivial | refine And.intro ?_ ?_ | exact BLe.refl _ | exact VLe.refl _) | exact trivial | exact rfl | refine And.intro ?_ ?_ | exact BLe.refl _ | exact VLe.refl _ | exact VLe.any _ | exact VLe.nil_osl rfl | exact VLe.nil_sl rfl | exact VLe.built rfl rfl | (refine VLe.osl rfl ?_; (first | rfl | (simp; done) | assumption | (simp [dsub_eq] <;> omega) | omega)) | exact VLe.rows (by first | rfl | (simp; done) | assumption | (simp [dsub_eq] <;> omega) | omega) (fun _ _ => rfl) | exact VLe.rows (by simp [dsub_eq] <;> omega) rows_take | exact VLe.rows (by simp [dsub_eq] <;> omega) rows_dt | exact VLe.rows (by simp [dsub_eq] <;> omega) rows_vt | exact VLe.rows (by simp) (fun i _ => by simp [viewRow_eq, Nat.add_comm]) | refine VLe.aggL ?_ | (refine BLe.rows rfl ?_ fun _ _ => rfl; (first | rfl | (simp; done) | assumption | (simp [dsub_eq] <;> omega) | omega)) | (refine BLe.rows rfl rfl ?_; first | exact rows_take) | refine BLe.box ?_)
  · clear hx4
    intro s1 y2 g3 hy2
    conv => whnf
    refine seq_in tOk ?_
    conv => whnf
    refine And.intro (fun e => ?_) (fun e => ?_)
    · replace g3 := ite_t g3 e; clear e
      conv => whnf
      refine seq_in tOk ?_
      conv => whnf
      obtain ⟨g5, g3⟩ := gd_some g3
      refine And.intro g5 ?_
      clear g5
      conv => whnf
      obtain ⟨x6, hx6, g3⟩ := bd_some g3
      refine callC 0 (laws_toTreeSlot_c hx6) (by kernel_rfl) (by kernel_rfl) ?_
      clear hx6
      conv => whnf
      obtain ⟨g7, g3⟩ := gd_some g3
      refine And.intro g7 ?_
      clear g7
      conv => whnf
      refine ⟨rows TreeSlot.enc (s1.1.set s1.2.toNat x6), store_rows' ((by first | rfl | (simp; done) | assumption | (simp [dsub_eq] <;> omega) | omega)) rfl, ?_⟩
      conv => whnf
      obtain rfl := Option.some.inj g3
      refine ⟨_, rfl, le_mk ?_ ?_ ?_⟩ <;> (repeat' first | ((conv => whnf); first | exact trivial | refine And.intro ?_ ?_ | exact BLe.refl _ | exact VLe.refl _) | exact trivial | exact rfl | refine And.intro ?_ ?_ | exact BLe.refl _ | exact VLe.refl _ | exact VLe.any _ | exact VLe.nil_osl rfl | exact VLe.nil_sl rfl | exact VLe.built rfl rfl | (refine VLe.osl rfl ?_; (first | rfl | (simp; done) | assumption | (simp [dsub_eq] <;> omega) | omega)) | exact VLe.rows (by first | rfl | (simp; done) | assumption | (simp [dsub_eq] <;> omega) | omega) (fun _ _ => rfl) | exact VLe.rows (by simp [dsub_eq] <;> omega) rows_take | exact VLe.rows (by simp [dsub_eq] <;> omega) rows_dt | exact VLe.rows (by simp [dsub_eq] <;> omega) rows_vt | exact VLe.rows (by simp) (fun i _ => by simp [viewRow_eq, Nat.add_comm]) | refine VLe.aggL ?_ | (refine BLe.rows rfl ?_ fun _ _ => rfl; (first | rfl | (simp; done) | assumption | (simp [dsub_eq] <;> omega) | omega)) | (refine BLe.rows rfl rfl ?_; first | exact rows_take) | refine BLe.box ?_)
    · replace g3 := ite_f g3 e; clear e
      conv => whnf
      obtain rfl := Option.some.inj g3
      obtain rfl := hy2 _ rfl
      obtain rfl := Option.some.inj h
      refine ⟨⟨0, 23, [(2, .osl 5001 0 (s1.1.length, s1.1).2.length)], [], [(5001, .arr 112 4 (s1.1.length, s1.1).2.length (rows TreeSlot.enc (s1.1.length, s1.1).2))], []⟩, ?_, And.intro rfl ?_⟩
      · refine LE.trans (S' := ⟨0, 23, [(2, .osl 7 0 (s1.1.length, s1.1).1)], [], [(7, .arr 112 4 (s1.1.length, s1.1).1 (rows TreeSlot.enc (s1.1.length, s1.1).2))], []⟩) (le_mk ?_ ?_ ?_) (LE.trans (S' := ⟨0, 23, [(2, .osl 5001 0 (s1.1.length, s1.1).1)], [], [(5001, .arr 112 4 (s1.1.length, s1.1).1 (rows TreeSlot.enc (s1.1.length, s1.1).2))], []⟩) (le_swaps [(7, 5001)] rfl) (le_mk ?_ ?_ ?_)) <;> (repeat' first | ((conv => whnf); first | exact trivial | refine And.intro ?_ ?_ | exact BLe.refl _ | exact VLe.refl _) | exact trivial | exact rfl | refine And.intro ?_ ?_ | exact BLe.refl _ | exact VLe.refl _ | exact VLe.any _ | exact VLe.nil_osl rfl | exact VLe.nil_sl rfl | exact VLe.built rfl rfl | (refine VLe.osl rfl ?_; (first | rfl | (simp; done) | assumption | (simp [dsub_eq] <;> omega) | omega)) | exact VLe.rows (by first | rfl | (simp; done) | assumption | (simp [dsub_eq] <;> omega) | omega) (fun _ _ => rfl) | exact VLe.rows (by simp [dsub_eq] <;> omega) rows_take | exact VLe.rows (by simp [dsub_eq] <;> omega) rows_dt | exact VLe.rows (by simp [dsub_eq] <;> omega) rows_vt | exact VLe.rows (by simp) (fun i _ => by simp [viewRow_eq, Nat.add_comm]) | refine VLe.aggL ?_ | (refine BLe.rows rfl ?_ fun _ _ => rfl; (first | rfl | (simp; done) | assumption | (simp [dsub_eq] <;> omega) | omega)) | (refine BLe.rows rfl rfl ?_; first | exact rows_take) | refine BLe.box ?_)
      · exact And.intro (And.intro rfl (And.intro rfl (fun _ _ => rfl))) (trivial)

noncomputable def laws_toTreeWord_m (a0 : TreeWord) : Option (TreeWord) :=
 bd (laws_toTreeVector_m a0.Vector) fun x1 =>
 some ({ a0 with Vector := x1 })

theorem laws_toTreeWord_c {a0 : TreeWord} {r : TreeWord} (h : laws_toTreeWord_m a0 = some r) : PureC Try.prog 95 [.agg [.d (.int .i64 a0.Link), .d (.int .i64 a0.End), .d (.int .i64 a0.Vector.Root), .d (.int .i64 a0.Vector.Cost), .d (.int .i64 a0.Vector.Age)]] (.agg [.d (.int .i64 r.Link), .d (.int .i64 r.End), .d (.int .i64 r.Vector.Root), .d (.int .i64 r.Vector.Cost), .d (.int .i64 r.Vector.Age)]) [] := by
  refine pureC_m tOk (fn := Try.f95) (c := codeOf Try.f95) rfl rfl (by kernel_rfl) rfl rfl (by simp) (by simp) (ids_of rfl) ?_
  unfold laws_toTreeWord_m at h
  conv => whnf
  obtain ⟨x1, hx1, h⟩ := bd_some h
  refine callC 0 (laws_toTreeVector_c hx1) (by kernel_rfl) (by kernel_rfl) ?_
  clear hx1
  conv => whnf
  obtain rfl := Option.some.inj h
  exact ⟨_, LE.refl _, And.intro rfl trivial⟩

end Go.Proofs.Ytbolhcpkpncmfaa
