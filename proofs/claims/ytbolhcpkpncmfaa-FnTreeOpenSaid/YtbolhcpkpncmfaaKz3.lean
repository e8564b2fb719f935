/-
  What some of the program's functions compute: their models, and that the functions compute these; no condition.
-/
import Derived.Test.YtbolhcpkpncmfaaTyz
import Derived.Test.YtbolhcpkpncmfaaTbz
import Derived.Test.YtbolhcpkpncmfaaKz2
set_option linter.all false
namespace Go.Proofs.Ytbolhcpkpncmfaa
open Go Go.Ab
set_option maxRecDepth 100000
set_option maxHeartbeats 4000000
noncomputable def impl_TreeWorldOk_m (a0 : TreeWorld) : Option (Bool) :=
 bd (impl_TreeLinksOk_m ((a0.Bridges.length : Nat) : Int) a0.Links) fun x1 =>
 bd (gcall ((!x1) = false) (impl_TreeWorld_bridgesOk_m a0)) fun x2 =>
(if (((((!x1) || (!x2)) || (((a0.AtA.length : Nat) : Int) != ((a0.Links.length : Nat) : Int))) || (((a0.AtB.length : Nat) : Int) != ((a0.Links.length : Nat) : Int))) || (decide (((a0.Radio.length : Nat) : Int) > 12))) = true then
 some false
else
 bd (lp (σ := Int) (β := (Unit ⊕ Unit)) (fun s3 =>
(if (decide (s3 < ((a0.Down.length : Nat) : Int))) = true then
 gd ((0 : Int) ≤ s3 ∧ s3 < ((a0.Down.length : Nat) : Int)) <|
 bd (impl_TreeWorld_isLink_m a0 (a0.Down.getD s3.toNat default)) fun x8 =>
 gd ((decide (s3 > 0)) = true → ((!x8) = false → ((0 : Int) ≤ IntKind.i64.wrap (s3 - 1) ∧ IntKind.i64.wrap (s3 - 1) < ((a0.Down.length : Nat) : Int)))) <|
(if ((!x8) || ((decide (s3 > 0)) && (decide ((a0.Down.getD ((IntKind.i64.wrap (s3 - 1)).toNat) default) ≥ (a0.Down.getD s3.toNat default))))) = true then
 some (.inr (.inl ()))
else
 some (.inl (IntKind.i64.wrap (s3 + 1))))
else
 some (.inr (.inr ())))) 0) fun x6 =>
(match x6 with
| .inl d10 =>
 some false
| .inr d11 =>
 bd (lp (σ := Int) (β := (Unit ⊕ Unit)) (fun s12 =>
(if (decide (s12 < ((a0.Links.length : Nat) : Int))) = true then
 bd (impl_TreeWorld_slotOk_m a0 s12 0) fun x16 =>
 bd (gcall ((!x16) = false) (impl_TreeWorld_slotOk_m a0 s12 1)) fun x17 =>
(if ((!x16) || (!x17)) = true then
 some (.inr (.inl ()))
else
 some (.inl (IntKind.i64.wrap (s12 + 1))))
else
 some (.inr (.inr ())))) 0) fun x15 =>
(match x15 with
| .inl d18 =>
 some false
| .inr d19 =>
 bd (slices_ContainsFunc_TreeWord_TreeWord_impl_TreeWorldOk_1_m a0.Radio a0) fun x20 =>
 some (!x20))))

theorem impl_TreeWorldOk_c {a0 : TreeWorld} {r : Bool} (h : impl_TreeWorldOk_m a0 = some r) : PureC Try.prog 18 [.agg [.d (slD TreeBridge.enc a0.Bridges), .d (slD TreeLink.enc a0.Links), .d (slD encInt a0.Down), .d (slD TreeSlot.enc a0.AtA), .d (slD TreeSlot.enc a0.AtB), .d (slD TreeWord.enc a0.Radio)]] (.d (.bool r)) [] := by
  refine pureC_m tOk (fn := Try.f18) (c := codeOf Try.f18) rfl rfl (by kernel_rfl) rfl rfl (by simp) (by simp) (ids_of rfl) ?_
  unfold impl_TreeWorldOk_m at h
  conv => whnf
  refine seq_in tOk ?_
  conv => whnf
  obtain ⟨x1, hx1, h⟩ := bd_some h
  refine callC 0 (impl_TreeLinksOk_c hx1) (by kernel_rfl) (by kernel_rfl) ?_
  clear hx1
  conv => whnf
  obtain ⟨x2, hx2, h⟩ := bd_some h
  refine callG_m rfl rfl rfl rfl rfl rfl (by intro c0; exact impl_TreeWorld_bridgesOk_c (gcall_some hx2 c0)) ?_
  conv => whnf
  refine And.intro (fun e => ?_) (fun e => ?_)
  · replace h := ite_t h e; clear e
    conv => whnf
    obtain rfl := Option.some.inj h
    exact ⟨_, LE.refl _, And.intro rfl trivial⟩
  · replace h := ite_f h e; clear e
    conv => whnf
    refine seq_in tOk ?_
    conv => whnf
    obtain ⟨x6, hx6, h⟩ := bd_some h
    refine loop_m tOk hx6 (fun s3 => ⟨0, 87, [(1, .ref 1 0 0), (42, .d (slD encInt a0.Down)), (43, .d (.int .i64 ((a0.Down.length : Nat) : Int))), (44, .d (.int .i64 s3))], [], [(1, .box 31 [.d (slD TreeBridge.enc a0.Bridges), .d (slD TreeLink.enc a0.Links), .d (slD encInt a0.Down), .d (slD TreeSlot.enc a0.AtA), .d (slD TreeSlot.enc a0.AtB), .d (slD TreeWord.enc a0.Radio)])], []⟩) ?_ ?_
    · refine le_mk ?_ ?_ ?_ <;> (repeat' first | ((conv => whnf); first | exact trivial | refine And.intro ?_ ?_ | exact BLe.refl _ | exact VLe.refl _) | exact trivial | exact rfl | refine And.intro ?_ ?_ | exact BLe.refl _ | exact VLe.refl _ | exact VLe.any _ | exact VLe.nil_osl rfl | exact VLe.nil_sl rfl | exact VLe.built rfl rfl | (refine VLe.osl rfl ?_; (first | rfl | (simp; done) | assumption | (simp [dsub_eq] <;> omega) | omega)) | exact VLe.rows (by first | rfl | (simp; done) | assumption | (simp [dsub_eq] <;> omega) | omega) (fun _ _ => rfl) | exact VLe.rows (by simp [dsub_eq] <;> omega) rows_take | exact VLe.rows (by simp [dsub_eq] <;> omega) rows_dt | exact VLe.rows (by simp [dsub_eq] <;> omega) rows_vt | exact VLe.rows (by simp) (fun i _ => by simp [viewRow_eq, Nat.add_comm]) | refine VLe.aggL ?_ | (refine BLe.rows rfl ?_ fun _ _ => rfl; (first | rfl | (simp; done) | assumption | (simp [dsub_eq] <;> omega) | omega)) | (refine BLe.rows rfl rfl ?_; first | exact rows_take) | refine BLe.box ?_)
    · clear hx6
      intro s3 y4 g5 hy4
      conv => whnf
      refine seq_in tOk ?_
      conv => whnf
      refine And.intro (fun e => ?_) (fun e => ?_)
      · replace g5 := ite_t g5 e; clear e
        conv => whnf
        refine seq_in tOk ?_
        conv => whnf
        obtain ⟨g7, g5⟩ := gd_some g5
        refine And.intro g7 ?_
        clear g7
        conv => whnf
        obtain ⟨x8, hx8, g5⟩ := bd_some g5
        refine callC 0 (impl_TreeWorld_isLink_c hx8) (by kernel_rfl) (by kernel_rfl) ?_
        clear hx8
        conv => whnf
        obtain ⟨g9, g5⟩ := gd_some g5
        refine And.intro g9 ?_
        clear g9
        conv => whnf
        refine And.intro (fun e => ?_) (fun e => ?_)
        · replace g5 := ite_t g5 e; clear e
          conv => whnf
          obtain rfl := Option.some.inj g5
          obtain rfl := hy4 _ rfl
          obtain rfl := Option.some.inj h
          exact ⟨_, LE.refl _, And.intro rfl trivial⟩
        · replace g5 := ite_f g5 e; clear e
          conv => whnf
          obtain rfl := Option.some.inj g5
          refine ⟨_, rfl, le_mk ?_ ?_ ?_⟩ <;> (repeat' first | ((conv => whnf); first | exact trivial | refine And.intro ?_ ?_ | exact BLe.refl _ | exact VLe.refl _) | exact trivial | exact rfl | refine And.intro ?_ ?_ | exact BLe.refl _ | exact VLe.refl _ | exact VLe.any _ | exact VLe.nil_osl rfl | exact VLe.nil_sl rfl | exact VLe.built rfl rfl | (refine VLe.osl rfl ?_; (first | rfl | (simp; done) | assumption | (simp [dsub_eq] <;> omega) | omega)) | exact VLe.rows (by first | rfl | (simp; done) | assumption | (simp [dsub_eq] <;> omega) | omega) (fun _ _ => rfl) | exact VLe.rows (by simp [dsub_eq] <;> omega) rows_take | exact VLe.rows (by simp [dsub_eq] <;> omega) rows_dt | exact VLe.rows (by simp [dsub_eq] <;> omega) rows_vt | exact VLe.rows (by simp) (fun i _ => by simp [viewRow_eq, Nat.add_comm]) | refine VLe.aggL ?_ | (refine BLe.rows rfl ?_ fun _ _ => rfl; (first | rfl | (simp; done) | assumption | (simp [dsub_eq] <;> omega) | omega)) | (refine BLe.rows rfl rfl ?_; first | exact rows_take) | refine BLe.box ?_)
      · replace g5 := ite_f g5 e; clear e
        conv => whnf
        obtain rfl := Option.some.inj g5
        obtain rfl := hy4 _ rfl
        refine seq_in tOk ?_
        conv => whnf
        obtain ⟨x15, hx15, h⟩ := bd_some h
        refine loop_m tOk hx15 (fun s12 => ⟨0, 87, [(1, .ref 1 0 0), (69, .d (.int .i64 ((a0.Links.length : Nat) : Int))), (70, .d (.int .i64 s12))], [], [(1, .box 31 [.d (slD TreeBridge.enc a0.Bridges), .d (slD TreeLink.enc a0.Links), .d (slD encInt a0.Down), .d (slD TreeSlot.enc a0.AtA), .d (slD TreeSlot.enc a0.AtB), .d (slD TreeWord.enc a0.Radio)])], []⟩) ?_ ?_
        · refine le_mk ?_ ?_ ?_ <;> (repeat' first | ((conv => whnf); first | exact trivial | refine And.intro ?_ ?_ | exact BLe.refl _ | exact VLe.refl _) | exact trivial | exact rfl | refine And.intro ?_ ?_ | exact BLe.refl _ | exact VLe.refl _ | exact VLe.any _ | exact VLe.nil_osl rfl | exact VLe.nil_sl rfl | exact VLe.built rfl rfl | (refine VLe.osl rfl ?_; (first | rfl | (simp; done) | assumption | (simp [dsub_eq] <;> omega) | omega)) | exact VLe.rows (by first | rfl | (simp; done) | assumption | (simp [dsub_eq] <;> omega) | omega) (fun _ _ => rfl) | exact VLe.rows (by simp [dsub_eq] <;> omega) rows_take | exact VLe.rows (by simp [dsub_eq] <;> omega) rows_dt | exact VLe.rows (by simp [dsub_eq] <;> omega) rows_vt | exact VLe.rows (by simp) (fun i _ => by simp [viewRow_eq, Nat.add_comm]) | refine VLe.aggL ?_ | (refine BLe.rows rfl ?_ fun _ _ => rfl; (first | rfl | (simp; done) | assumption | (simp [dsub_eq] <;> omega) | omega)) | (refine BLe.rows rfl rfl ?_; first | exact rows_take) | refine BLe.box ?_)
        · clear hx15
          intro s12 y13 g14 hy13
          conv => whnf
          refine seq_in tOk ?_
          conv => whnf
          refine And.intro (fun e => ?_) (fun e => ?_)
          · replace g14 := ite_t g14 e; clear e
            conv => whnf
            refine seq_in tOk ?_
            conv => whnf
            obtain ⟨x16, hx16, g14⟩ := bd_some g14
            refine callC 0 (impl_TreeWorld_slotOk_c hx16) (by kernel_rfl) (by kernel_rfl) ?_
            clear hx16
            conv => whnf
            obtain ⟨x17, hx17, g14⟩ := bd_some g14
            refine callG_m rfl rfl rfl rfl rfl rfl (by intro c0; exact impl_TreeWorld_slotOk_c (gcall_some hx17 c0)) ?_
            conv => whnf
            refine And.intro (fun e => ?_) (fun e => ?_)
            · replace g14 := ite_t g14 e; clear e
              conv => whnf
              obtain rfl := Option.some.inj g14
              obtain rfl := hy13 _ rfl
              obtain rfl := Option.some.inj h
              exact ⟨_, LE.refl _, And.intro rfl trivial⟩
            · replace g14 := ite_f g14 e; clear e
              conv => whnf
              obtain rfl := Option.some.inj g14
              refine ⟨_, rfl, le_mk ?_ ?_ ?_⟩ <;> (repeat' first | ((conv => whnf); first | exact trivial | refine And.intro ?_ ?_ | exact BLe.refl _ | exact VLe.refl _) | exact trivial | exact rfl | refine And.intro ?_ ?_ | exact BLe.refl _ | exact VLe.refl _ | exact VLe.any _ | exact VLe.nil_osl rfl | exact VLe.nil_sl rfl | exact VLe.built rfl rfl | (refine VLe.osl rfl ?_; (first | rfl | (simp; done) | assumption | (simp [dsub_eq] <;> omega) | omega)) | exact VLe.rows (by first | rfl | (simp; done) | assumption | (simp [dsub_eq] <;> omega) | omega) (fun _ _ => rfl) | exact VLe.rows (by simp [dsub_eq] <;> omega) rows_take | exact VLe.rows (by simp [dsub_eq] <;> omega) rows_dt | exact VLe.rows (by simp [dsub_eq] <;> omega) rows_vt | exact VLe.rows (by simp) (fun i _ => by simp [viewRow_eq, Nat.add_comm]) | refine VLe.aggL ?_ | (refine BLe.rows rfl ?_ fun _ _ => rfl; (first | rfl | (simp; done) | assumption | (simp [dsub_eq] <;> omega) | omega)) | (refine BLe.rows rfl rfl ?_; first | exact rows_take) | refine BLe.box ?_)
          · replace g14 := ite_f g14 e; clear e
            conv => whnf
            obtain rfl := Option.some.inj g14
            obtain rfl := hy13 _ rfl
            obtain ⟨x20, hx20, h⟩ := bd_some h
            refine callC 0 (slices_ContainsFunc_TreeWord_TreeWord_impl_TreeWorldOk_1_c hx20) (by kernel_rfl) (by kernel_rfl) ?_
            clear hx20
            conv => whnf
            obtain rfl := Option.some.inj h
            exact ⟨_, LE.refl _, And.intro rfl trivial⟩

noncomputable def spec_l81In_m (a0 : Int) (a1 : Int) (a2 : Int) : Option (Bool) :=
 some ((decide (a0 ≥ a1)) && (decide (a0 ≤ a2)))

theorem spec_l81In_c {a0 : Int} {a1 : Int} {a2 : Int} {r : Bool} (h : spec_l81In_m a0 a1 a2 = some r) : PureC Try.prog 69 [.d (.int .i64 a0), .d (.int .i64 a1), .d (.int .i64 a2)] (.d (.bool r)) [] := by
  refine pureC_m tOk (fn := Try.f69) (c := codeOf Try.f69) rfl rfl (by kernel_rfl) rfl rfl (by simp) (by simp) (ids_of rfl) ?_
  unfold spec_l81In_m at h
  conv => whnf
  obtain rfl := Option.some.inj h
  exact ⟨_, LE.refl _, And.intro rfl trivial⟩

noncomputable def spec_TreeLinksOk_m (a0 : Int) (a1 : (List TreeLink)) : Option (Bool) :=
 bd (spec_l81In_m a0 1 8) fun x1 =>
(if ((!x1) || (decide (((a1.length : Nat) : Int) > 12))) = true then
 some false
else
 bd (lp (σ := Int) (β := (Unit ⊕ Unit)) (fun s2 =>
(if (decide (s2 < ((a1.length : Nat) : Int))) = true then
 gd ((0 : Int) ≤ s2 ∧ s2 < ((a1.length : Nat) : Int)) <|
 bd (gcall ((((decide (((a1.getD s2.toNat default).A) < 0)) || (decide (((a1.getD s2.toNat default).A) ≥ ((a1.getD s2.toNat default).B)))) || (decide (((a1.getD s2.toNat default).B) ≥ a0))) = false) (spec_l81In_m ((a1.getD s2.toNat default).Cost) 1 50)) fun x7 =>
(if ((((decide (((a1.getD s2.toNat default).A) < 0)) || (decide (((a1.getD s2.toNat default).A) ≥ ((a1.getD s2.toNat default).B)))) || (decide (((a1.getD s2.toNat default).B) ≥ a0))) || (!x7)) = true then
 some (.inr (.inl ()))
else
 some (.inl (IntKind.i64.wrap (s2 + 1))))
else
 some (.inr (.inr ())))) 0) fun x5 =>
(match x5 with
| .inl d8 =>
 some false
| .inr d9 =>
 some true))

theorem spec_TreeLinksOk_c {a0 : Int} {a1 : (List TreeLink)} {r : Bool} (h : spec_TreeLinksOk_m a0 a1 = some r) : PureC Try.prog 42 [.d (.int .i64 a0), .d (slD TreeLink.enc a1)] (.d (.bool r)) [] := by
  refine pureC_m tOk (fn := Try.f42) (c := codeOf Try.f42) rfl rfl (by kernel_rfl) rfl rfl (by simp) (by simp) (ids_of rfl) ?_
  unfold spec_TreeLinksOk_m at h
  conv => whnf
  refine seq_in tOk ?_
  conv => whnf
  obtain ⟨x1, hx1, h⟩ := bd_some h
  refine callC 0 (spec_l81In_c hx1) (by kernel_rfl) (by kernel_rfl) ?_
  clear hx1
  conv => whnf
  refine And.intro (fun e => ?_) (fun e => ?_)
  · replace h := ite_t h e; clear e
    conv => whnf
    obtain rfl := Option.some.inj h
    exact ⟨_, LE.refl _, And.intro rfl trivial⟩
  · replace h := ite_f h e; clear e
    conv => whnf
    refine seq_in tOk ?_
    conv => whnf
    obtain ⟨x5, hx5, h⟩ := bd_some h
    refine loop_m tOk hx5 (fun s2 => ⟨0, 47, [(0, .d (.int .i64 a0)), (1, .d (slD TreeLink.enc a1)), (5, .d (.int .i64 s2))], [], [], []⟩) ?_ ?_
    · refine le_mk ?_ ?_ ?_ <;> (repeat' first | ((conv => whnf); first | exact trivial | refine And.intro ?_ ?_ | exact BLe.refl _ | exact VLe.refl _) | exact trivial | exact rfl | refine And.intro ?_ ?_ | exact BLe.refl _ | exact VLe.refl _ | exact VLe.any _ | exact VLe.nil_osl rfl | exact VLe.nil_sl rfl | exact VLe.built rfl rfl | (refine VLe.osl rfl ?_; (first | rfl | (simp; done) | assumption | (simp [dsub_eq] <;> omega) | omega)) | exact VLe.rows (by first | rfl | (simp; done) | assumption | (simp [dsub_eq] <;> omega) | omega) (fun _ _ => rfl) | exact VLe.rows (by simp [dsub_eq] <;> omega) rows_take | exact VLe.rows (by simp [dsub_eq] <;> omega) rows_dt | exact VLe.rows (by simp [dsub_eq] <;> omega) rows_vt | exact VLe.rows (by simp) (fun i _ => by simp [viewRow_eq, Nat.add_comm]) | refine VLe.aggL ?_ | (refine BLe.rows rfl ?_ fun _ _ => rfl; (first | rfl | (simp; done) | assumption | (simp [dsub_eq] <;> omega) | omega)) | (refine BLe.rows rfl rfl ?_; first | exact rows_take) | refine BLe.box ?_)
    · clear hx5
      intro s2 y3 g4 hy3
      conv => whnf
      refine seq_in tOk ?_
      conv => whnf
      refine And.intro (fun e => ?_) (fun e => ?_)
      · replace g4 := ite_t g4 e; clear e
        conv => whnf
        refine seq_in tOk ?_
        conv => whnf
        obtain ⟨g6, g4⟩ := gd_some g4
        refine And.intro g6 ?_
        clear g6
        conv => whnf
        obtain ⟨x7, hx7, g4⟩ := bd_some g4
        refine callG_m rfl rfl rfl rfl rfl rfl (by intro c0; exact spec_l81In_c (gcall_some hx7 c0)) ?_
        conv => whnf
        refine And.intro (fun e => ?_) (fun e => ?_)
        · replace g4 := ite_t g4 e; clear e
          conv => whnf
          obtain rfl := Option.some.inj g4
          obtain rfl := hy3 _ rfl
          obtain rfl := Option.some.inj h
          exact ⟨_, LE.refl _, And.intro rfl trivial⟩
        · replace g4 := ite_f g4 e; clear e
          conv => whnf
          obtain rfl := Option.some.inj g4
          refine ⟨_, rfl, le_mk ?_ ?_ ?_⟩ <;> (repeat' first | ((conv => whnf); first | exact trivial | refine And.intro ?_ ?_ | exact BLe.refl _ | exact VLe.refl _) | exact trivial | exact rfl | refine And.intro ?_ ?_ | exact BLe.refl _ | exact VLe.refl _ | exact VLe.any _ | exact VLe.nil_osl rfl | exact VLe.nil_sl rfl | exact VLe.built rfl rfl | (refine VLe.osl rfl ?_; (first | rfl | (simp; done) | assumption | (simp [dsub_eq] <;> omega) | omega)) | exact VLe.rows (by first | rfl | (simp; done) | assumption | (simp [dsub_eq] <;> omega) | omega) (fun _ _ => rfl) | exact VLe.rows (by simp [dsub_eq] <;> omega) rows_take | exact VLe.rows (by simp [dsub_eq] <;> omega) rows_dt | exact VLe.rows (by simp [dsub_eq] <;> omega) rows_vt | exact VLe.rows (by simp) (fun i _ => by simp [viewRow_eq, Nat.add_comm]) | refine VLe.aggL ?_ | (refine BLe.rows rfl ?_ fun _ _ => rfl; (first | rfl | (simp; done) | assumption | (simp [dsub_eq] <;> omega) | omega)) | (refine BLe.rows rfl rfl ?_; first | exact rows_take) | refine BLe.box ?_)
      · replace g4 := ite_f g4 e; clear e
        conv => whnf
        obtain rfl := Option.some.inj g4
        obtain rfl := hy3 _ rfl
        obtain rfl := Option.some.inj h
        exact ⟨_, LE.refl _, And.intro rfl trivial⟩

noncomputable def spec_l82Self_m (a0 : Int) : Option (TreeMind) :=
 some (⟨(⟨a0, 0, 0⟩ : TreeVector), -1⟩ : TreeMind)

theorem spec_l82Self_c {a0 : Int} {r : TreeMind} (h : spec_l82Self_m a0 = some r) : PureC Try.prog 43 [.d (.int .i64 a0)] (.agg [.d (.int .i64 r.Vector.Root), .d (.int .i64 r.Vector.Cost), .d (.int .i64 r.Vector.Age), .d (.int .i64 r.Link)]) [] := by
  refine pureC_m tOk (fn := Try.f43) (c := codeOf Try.f43) rfl rfl (by kernel_rfl) rfl rfl (by simp) (by simp) (ids_of rfl) ?_
  unfold spec_l82Self_m at h
  conv => whnf
  obtain rfl := Option.some.inj h
  exact ⟨_, LE.refl _, And.intro rfl trivial⟩

noncomputable def spec_TreeVectorOk_m (a0 : TreeVector) : Option (Bool) :=
(if (a0.Root == 0) = true then
 some ((a0.Cost == 0) && (a0.Age == 0))
else
 bd (spec_l81In_m a0.Root 1 1000) fun x1 =>
 bd (gcall (x1 = true) (spec_l81In_m a0.Cost 0 1000)) fun x2 =>
 bd (gcall ((x1 && x2) = true) (spec_l81In_m a0.Age 0 10)) fun x3 =>
 some ((x1 && x2) && x3))

theorem spec_TreeVectorOk_c {a0 : TreeVector} {r : Bool} (h : spec_TreeVectorOk_m a0 = some r) : PureC Try.prog 91 [.agg [.d (.int .i64 a0.Root), .d (.int .i64 a0.Cost), .d (.int .i64 a0.Age)]] (.d (.bool r)) [] := by
  refine pureC_m tOk (fn := Try.f91) (c := codeOf Try.f91) rfl rfl (by kernel_rfl) rfl rfl (by simp) (by simp) (ids_of rfl) ?_
  unfold spec_TreeVectorOk_m at h
  conv => whnf
  refine seq_in tOk ?_
  conv => whnf
  refine And.intro (fun e => ?_) (fun e => ?_)
  · replace h := ite_t h e; clear e
    conv => whnf
    obtain rfl := Option.some.inj h
    exact ⟨_, LE.refl _, And.intro rfl trivial⟩
  · replace h := ite_f h e; clear e
    conv => whnf
    obtain ⟨x1, hx1, h⟩ := bd_some h
    refine callC 0 (spec_l81In_c hx1) (by kernel_rfl) (by kernel_rfl) ?_
    clear hx1
    conv => whnf
    obtain ⟨x2, hx2, h⟩ := bd_some h
    refine callG_m rfl rfl rfl rfl rfl rfl (by intro c0; exact spec_l81In_c (gcall_some hx2 c0)) ?_
    conv => whnf
    obtain ⟨x3, hx3, h⟩ := bd_some h
    refine callG_m rfl rfl rfl rfl rfl rfl (by intro c0; exact spec_l81In_c (gcall_some hx3 c0)) ?_
    conv => whnf
    obtain rfl := Option.some.inj h
    exact ⟨_, LE.refl _, And.intro rfl trivial⟩

noncomputable def spec_l82Lists_m (a0 : TreeWorld) : Option (Bool) :=
(if (((((a0.AtA.length : Nat) : Int) != ((a0.Links.length : Nat) : Int)) || (((a0.AtB.length : Nat) : Int) != ((a0.Links.length : Nat) : Int))) || (decide (((a0.Radio.length : Nat) : Int) > 12))) = true then
 some false
else
 bd (lp (σ := Int) (β := (Unit ⊕ Unit)) (fun s1 =>
(if (decide (s1 < ((a0.Down.length : Nat) : Int))) = true then
 gd ((0 : Int) ≤ s1 ∧ s1 < ((a0.Down.length : Nat) : Int)) <|
 bd (spec_l81In_m (a0.Down.getD s1.toNat default) 0 (IntKind.i64.wrap (((a0.Links.length : Nat) : Int) - 1))) fun x6 =>
 gd ((decide (s1 > 0)) = true → ((!x6) = false → ((0 : Int) ≤ IntKind.i64.wrap (s1 - 1) ∧ IntKind.i64.wrap (s1 - 1) < ((a0.Down.length : Nat) : Int)))) <|
 gd ((decide (s1 > 0)) = true → ((!x6) = false → ((0 : Int) ≤ s1 ∧ s1 < ((a0.Down.length : Nat) : Int)))) <|
(if ((!x6) || ((decide (s1 > 0)) && (decide ((a0.Down.getD ((IntKind.i64.wrap (s1 - 1)).toNat) default) ≥ (a0.Down.getD s1.toNat default))))) = true then
 some (.inr (.inl ()))
else
 some (.inl (IntKind.i64.wrap (s1 + 1))))
else
 some (.inr (.inr ())))) 0) fun x4 =>
(match x4 with
| .inl d9 =>
 some false
| .inr d10 =>
 bd (lp (σ := Int) (β := (Unit ⊕ Unit)) (fun s11 =>
(if (decide (s11 < ((a0.Radio.length : Nat) : Int))) = true then
 gd ((0 : Int) ≤ s11 ∧ s11 < ((a0.Radio.length : Nat) : Int)) <|
 bd (spec_l81In_m ((a0.Radio.getD s11.toNat default).Link) 0 (IntKind.i64.wrap (((a0.Links.length : Nat) : Int) - 1))) fun x16 =>
 bd (gcall ((!x16) = false) (spec_l81In_m ((a0.Radio.getD s11.toNat default).End) 0 1)) fun x17 =>
 bd (gcall (((!x16) || (!x17)) = false) (spec_TreeVectorOk_m ((a0.Radio.getD s11.toNat default).Vector))) fun x18 =>
(if ((((!x16) || (!x17)) || (!x18)) || ((((a0.Radio.getD s11.toNat default).Vector).Root) == 0)) = true then
 some (.inr (.inl ()))
else
 some (.inl (IntKind.i64.wrap (s11 + 1))))
else
 some (.inr (.inr ())))) 0) fun x14 =>
(match x14 with
| .inl d19 =>
 some false
| .inr d20 =>
 some true)))

theorem spec_l82Lists_c {a0 : TreeWorld} {r : Bool} (h : spec_l82Lists_m a0 = some r) : PureC Try.prog 53 [.agg [.d (slD TreeBridge.enc a0.Bridges), .d (slD TreeLink.enc a0.Links), .d (slD encInt a0.Down), .d (slD TreeSlot.enc a0.AtA), .d (slD TreeSlot.enc a0.AtB), .d (slD TreeWord.enc a0.Radio)]] (.d (.bool r)) [] := by
  refine pureC_m tOk (fn := Try.f53) (c := codeOf Try.f53) rfl rfl (by kernel_rfl) rfl rfl (by simp) (by simp) (ids_of rfl) ?_
  unfold spec_l82Lists_m at h
  conv => whnf
  refine seq_in tOk ?_
  conv => whnf
  refine And.intro (fun e => ?_) (fun e => ?_)
  · replace h := ite_t h e; clear e
    conv => whnf
    obtain rfl := Option.some.inj h
    exact ⟨_, LE.refl _, And.intro rfl trivial⟩
  · replace h := ite_f h e; clear e
    conv => whnf
    refine seq_in tOk ?_
    conv => whnf
    obtain ⟨x4, hx4, h⟩ := bd_some h
    refine loop_m tOk hx4 (fun s1 => ⟨0, 102, [(1, .ref 1 0 0), (3, .d (.int .i64 s1))], [], [(1, .box 31 [.d (slD TreeBridge.enc a0.Bridges), .d (slD TreeLink.enc a0.Links), .d (slD encInt a0.Down), .d (slD TreeSlot.enc a0.AtA), .d (slD TreeSlot.enc a0.AtB), .d (slD TreeWord.enc a0.Radio)])], []⟩) ?_ ?_
    · refine le_mk ?_ ?_ ?_ <;> (repeat' first | ((conv => whnf); first | exact trivial | refine And.intro ?_ ?_ | exact BLe.refl _ | exact VLe.refl _) | exact trivial | exact rfl | refine And.intro ?_ ?_ | exact BLe.refl _ | exact VLe.refl _ | exact VLe.any _ | exact VLe.nil_osl rfl | exact VLe.nil_sl rfl | exact VLe.built rfl rfl | (refine VLe.osl rfl ?_; (first | rfl | (simp; done) | assumption | (simp [dsub_eq] <;> omega) | omega)) | exact VLe.rows (by first | rfl | (simp; done) | assumption | (simp [dsub_eq] <;> omega) | omega) (fun _ _ => rfl) | exact VLe.rows (by simp [dsub_eq] <;> omega) rows_take | exact VLe.rows (by simp [dsub_eq] <;> omega) rows_dt | exact VLe.rows (by simp [dsub_eq] <;> omega) rows_vt | exact VLe.rows (by simp) (fun i _ => by simp [viewRow_eq, Nat.add_comm]) | refine VLe.aggL ?_ | (refine BLe.rows rfl ?_ fun _ _ => rfl; (first | rfl | (simp; done) | assumption | (simp [dsub_eq] <;> omega) | omega)) | (refine BLe.rows rfl rfl ?_; first | exact rows_take) | refine BLe.box ?_)
    · clear hx4
      intro s1 y2 g3 hy2
      conv => whnf
      refine seq_in tOk ?_
      conv => whnf
      refine And.intro (fun e => ?_) (fun e => ?_)
      · replace g3 := ite_t g3 e; clear e
        conv => whnf
        refine seq_in tOk ?_
        conv => whnf
        obtain ⟨g5, g3⟩ := gd_some g3
        obtain ⟨x6, hx6, g3⟩ := bd_some g3
        obtain ⟨g7, g3⟩ := gd_some g3
        obtain ⟨g8, g3⟩ := gd_some g3
        refine draw_k tOk (by kernel_rfl) (fun j => match j with | 9 => some (.pure 0 (.d (.bool x6)) []) | _ => none) 29 [] [[], [true], [], [true, true, true], [true, true, true, true], [], [false, false, false, false, false, true], [false, false, false, false, false, true, true], [false, false, false, false, false, true, true, true], [true, true, true, true, true, true, true, true, true], [true, true, true, true, true, true, true, true, true, true], [true, true, true, true, true, true, true, true, true, true, true], [true, true, true, true, true, true, true, true, true, true, true, true], [true, true, true, true, true, true, true, true, true, true, true, true, true], [true, true, true, true, true, true, true, true, true, true, true, true, true, true], [true, true, true, true, true, true, true, true, true, true, true, true, true, true, true], [true, true, true, true, true, true, true, true, true, true, true, true, true, true, true, true], [true, true, true, true, true, true, true, true, true, true, true, true, true, true, true], [true, true, true, true, true, true, true, true, true, true, true, true, true, true, true, false, false, true], [true, true, true, true, true, true, true, true, true, true, true, true, true, true, true, true, true, true, true], [true, true, true, true, true, true, true, true, true, true, true, true, true, true, true, true, true, true, true, true], [true, true, true, true, true, true, true, true, true, true, true, true, true, true, true], [true, true, true, true, true, true, true, true, true, true, true, true, true, true, true, false, false, false, false, false, false, true], [true, true, true, true, true, true, true, true, true, true, true, true, true, true, true], [true, true, true, true, true, true, true, true, true, true, true, true, true, true, true, false, false, false, false, false, false, true, true, true], [true, true, true, true, true, true, true, true, true, true, true, true, true, true, true, false, false, false, false, false, false, true, true, true, true], [true, true, true, true, true, true, true, true, true, true, true, true, true, true, true, true, true, true, true, true, true, true, true, true, true, true], [true, true, true, true, true, true, true, true, true, true, true, true, true, true, true, true, true, true, true, true, true, true, true, true, true, true, true], [true, true, true, true, true, true, true, true, true, true, true, true, true, true, true, true, true, true, true, true, true, true, true, true, true, true, true, true]] [] (by decide) (by kernel_rfl) (by kernel_rfl) ?_
        conv => whnf
        refine And.intro g5 ?_
        clear g5
        conv => whnf
        refine And.intro (callD_any (spec_l81In_c hx6) (by kernel_rfl)) ?_
        conv => whnf
        refine And.intro g7 ?_
        clear g7
        conv => whnf
        refine And.intro g8 ?_
        clear g8
        conv => whnf
        refine And.intro (by kernel_rfl) ?_
        conv => whnf
        refine And.intro (fun e => ?_) (fun e => ?_)
        · replace g3 := ite_t g3 e; clear e
          conv => whnf
          obtain rfl := Option.some.inj g3
          obtain rfl := hy2 _ rfl
          obtain rfl := Option.some.inj h
          exact ⟨_, LE.refl _, And.intro rfl trivial⟩
        · replace g3 := ite_f g3 e; clear e
          conv => whnf
          obtain rfl := Option.some.inj g3
          refine ⟨_, rfl, le_mk ?_ ?_ ?_⟩ <;> (repeat' first | ((conv => whnf); first | exact trivial | refine And.intro ?_ ?_ | exact BLe.refl _ | exact VLe.refl _) | exact trivial | exact rfl | refine And.intro ?_ ?_ | exact BLe.refl _ | exact VLe.refl _ | exact VLe.any _ | exact VLe.nil_osl rfl | exact VLe.nil_sl rfl | exact VLe.built rfl rfl | (refine VLe.osl rfl ?_; (first | rfl | (simp; done) | assumption | (simp [dsub_eq] <;> omega) | omega)) | exact VLe.rows (by first | rfl | (simp; done) | assumption | (simp [dsub_eq] <;> omega) | omega) (fun _ _ => rfl) | exact VLe.rows (by simp [dsub_eq] <;> omega) rows_take | exact VLe.rows (by simp [dsub_eq] <;> omega) rows_dt | exact VLe.rows (by simp [dsub_eq] <;> omega) rows_vt | exact VLe.rows (by simp) (fun i _ => by simp [viewRow_eq, Nat.add_comm]) | refine VLe.aggL ?_ | (refine BLe.rows rfl ?_ fun _ _ => rfl; (first | rfl | (simp; done) | assumption | (simp [dsub_eq] <;> omega) | omega)) | (refine BLe.rows rfl rfl ?_; first | exact rows_take) | refine BLe.box ?_)
      · replace g3 := ite_f g3 e; clear e
        conv => whnf
        obtain rfl := Option.some.inj g3
        obtain rfl := hy2 _ rfl
        refine seq_in tOk ?_
        conv => whnf
        obtain ⟨x14, hx14, h⟩ := bd_some h
        refine loop_m tOk hx14 (fun s11 => ⟨0, 102, [(1, .ref 1 0 0), (4, .d (.int .i64 s11))], [], [(1, .box 31 [.d (slD TreeBridge.enc a0.Bridges), .d (slD TreeLink.enc a0.Links), .d (slD encInt a0.Down), .d (slD TreeSlot.enc a0.AtA), .d (slD TreeSlot.enc a0.AtB), .d (slD TreeWord.enc a0.Radio)])], []⟩) ?_ ?_
        · refine le_mk ?_ ?_ ?_ <;> (repeat' first | ((conv => whnf); first | exact trivial | refine And.intro ?_ ?_ | exact BLe.refl _ | exact VLe.refl _) | exact trivial | exact rfl | refine And.intro ?_ ?_ | exact BLe.refl _ | exact VLe.refl _ | exact VLe.any _ | exact VLe.nil_osl rfl | exact VLe.nil_sl rfl | exact VLe.built rfl rfl | (refine VLe.osl rfl ?_; (first | rfl | (simp; done) | assumption | (simp [dsub_eq] <;> omega) | omega)) | exact VLe.rows (by first | rfl | (simp; done) | assumption | (simp [dsub_eq] <;> omega) | omega) (fun _ _ => rfl) | exact VLe.rows (by simp [dsub_eq] <;> omega) rows_take | exact VLe.rows (by simp [dsub_eq] <;> omega) rows_dt | exact VLe.rows (by simp [dsub_eq] <;> omega) rows_vt | exact VLe.rows (by simp) (fun i _ => by simp [viewRow_eq, Nat.add_comm]) | refine VLe.aggL ?_ | (refine BLe.rows rfl ?_ fun _ _ => rfl; (first | rfl | (simp; done) | assumption | (simp [dsub_eq] <;> omega) | omega)) | (refine BLe.rows rfl rfl ?_; first | exact rows_take) | refine BLe.box ?_)
        · clear hx14
          intro s11 y12 g13 hy12
          conv => whnf
          refine seq_in tOk ?_
          conv => whnf
          refine And.intro (fun e => ?_) (fun e => ?_)
          · replace g13 := ite_t g13 e; clear e
            conv => whnf
            refine seq_in tOk ?_
            conv => whnf
            obtain ⟨g15, g13⟩ := gd_some g13
            refine And.intro g15 ?_
            clear g15
            conv => whnf
            obtain ⟨x16, hx16, g13⟩ := bd_some g13
            refine callC 0 (spec_l81In_c hx16) (by kernel_rfl) (by kernel_rfl) ?_
            clear hx16
            conv => whnf
            obtain ⟨x17, hx17, g13⟩ := bd_some g13
            refine callG_m rfl rfl rfl rfl rfl rfl (by intro c0; exact spec_l81In_c (gcall_some hx17 c0)) ?_
            conv => whnf
            obtain ⟨x18, hx18, g13⟩ := bd_some g13
            refine callG_m rfl rfl rfl rfl rfl rfl (by intro c0; exact spec_TreeVectorOk_c (gcall_some hx18 c0)) ?_
            conv => whnf
            refine And.intro (fun e => ?_) (fun e => ?_)
            · replace g13 := ite_t g13 e; clear e
              conv => whnf
              obtain rfl := Option.some.inj g13
              obtain rfl := hy12 _ rfl
              obtain rfl := Option.some.inj h
              exact ⟨_, LE.refl _, And.intro rfl trivial⟩
            · replace g13 := ite_f g13 e; clear e
              conv => whnf
              obtain rfl := Option.some.inj g13
              refine ⟨_, rfl, le_mk ?_ ?_ ?_⟩ <;> (repeat' first | ((conv => whnf); first | exact trivial | refine And.intro ?_ ?_ | exact BLe.refl _ | exact VLe.refl _) | exact trivial | exact rfl | refine And.intro ?_ ?_ | exact BLe.refl _ | exact VLe.refl _ | exact VLe.any _ | exact VLe.nil_osl rfl | exact VLe.nil_sl rfl | exact VLe.built rfl rfl | (refine VLe.osl rfl ?_; (first | rfl | (simp; done) | assumption | (simp [dsub_eq] <;> omega) | omega)) | exact VLe.rows (by first | rfl | (simp; done) | assumption | (simp [dsub_eq] <;> omega) | omega) (fun _ _ => rfl) | exact VLe.rows (by simp [dsub_eq] <;> omega) rows_take | exact VLe.rows (by simp [dsub_eq] <;> omega) rows_dt | exact VLe.rows (by simp [dsub_eq] <;> omega) rows_vt | exact VLe.rows (by simp) (fun i _ => by simp [viewRow_eq, Nat.add_comm]) | refine VLe.aggL ?_ | (refine BLe.rows rfl ?_ fun _ _ => rfl; (first | rfl | (simp; done) | assumption | (simp [dsub_eq] <;> omega) | omega)) | (refine BLe.rows rfl rfl ?_; first | exact rows_take) | refine BLe.box ?_)
          · replace g13 := ite_f g13 e; clear e
            conv => whnf
            obtain rfl := Option.some.inj g13
            obtain rfl := hy12 _ rfl
            obtain rfl := Option.some.inj h
            exact ⟨_, LE.refl _, And.intro rfl trivial⟩

noncomputable def spec_l82BridgeOk_m (a0 : TreeWorld) (a1 : Int) : Option (Bool) :=
 gd ((0 : Int) ≤ a1 ∧ a1 < ((a0.Bridges.length : Nat) : Int)) <|
 bd (spec_l81In_m ((a0.Bridges.getD a1.toNat default).Id) 1 1000) fun x2 =>
(if (!x2) = true then
 some false
else
 bd (lp (σ := Int) (β := (Unit ⊕ Unit)) (fun s3 =>
(if (decide (s3 < a1)) = true then
 gd ((0 : Int) ≤ s3 ∧ s3 < ((a0.Bridges.length : Nat) : Int)) <|
(if (((a0.Bridges.getD s3.toNat default).Id) == ((a0.Bridges.getD a1.toNat default).Id)) = true then
 some (.inr (.inl ()))
else
 some (.inl (IntKind.i64.wrap (s3 + 1))))
else
 some (.inr (.inr ())))) 0) fun x6 =>
(match x6 with
| .inl d8 =>
 some false
| .inr d9 =>
(if (!((a0.Bridges.getD a1.toNat default).Up)) = true then
 some (((((((a0.Bridges.getD a1.toNat default).Mind).Vector).Root) == 0) && ((((((a0.Bridges.getD a1.toNat default).Mind).Vector).Cost) == 0) && ((((((a0.Bridges.getD a1.toNat default).Mind).Vector).Age) == 0) && true))) && (((((a0.Bridges.getD a1.toNat default).Mind).Link) == 0) && true))
else
 bd (spec_TreeVectorOk_m (((a0.Bridges.getD a1.toNat default).Mind).Vector)) fun x10 =>
 bd (gcall ((x10 && (decide (((((a0.Bridges.getD a1.toNat default).Mind).Vector).Root) > 0))) = true) (spec_l81In_m (((a0.Bridges.getD a1.toNat default).Mind).Link) (-1) (IntKind.i64.wrap (((a0.Links.length : Nat) : Int) - 1)))) fun x11 =>
 some ((x10 && (decide (((((a0.Bridges.getD a1.toNat default).Mind).Vector).Root) > 0))) && x11))))

theorem spec_l82BridgeOk_c {a0 : TreeWorld} {a1 : Int} {r : Bool} (h : spec_l82BridgeOk_m a0 a1 = some r) : PureC Try.prog 54 [.agg [.d (slD TreeBridge.enc a0.Bridges), .d (slD TreeLink.enc a0.Links), .d (slD encInt a0.Down), .d (slD TreeSlot.enc a0.AtA), .d (slD TreeSlot.enc a0.AtB), .d (slD TreeWord.enc a0.Radio)], .d (.int .i64 a1)] (.d (.bool r)) [] := by
  refine pureC_m tOk (fn := Try.f54) (c := codeOf Try.f54) rfl rfl (by kernel_rfl) rfl rfl (by simp) (by simp) (ids_of rfl) ?_
  unfold spec_l82BridgeOk_m at h
  conv => whnf
  obtain ⟨g1, h⟩ := gd_some h
  refine And.intro g1 ?_
  clear g1
  conv => whnf
  refine seq_in tOk ?_
  conv => whnf
  obtain ⟨x2, hx2, h⟩ := bd_some h
  refine callC 0 (spec_l81In_c hx2) (by kernel_rfl) (by kernel_rfl) ?_
  clear hx2
  conv => whnf
  refine And.intro (fun e => ?_) (fun e => ?_)
  · replace h := ite_t h e; clear e
    conv => whnf
    obtain rfl := Option.some.inj h
    exact ⟨_, LE.refl _, And.intro rfl trivial⟩
  · replace h := ite_f h e; clear e
    conv => whnf
    refine seq_in tOk ?_
    conv => whnf
    obtain ⟨x6, hx6, h⟩ := bd_some h
    refine loop_m tOk hx6 (fun s3 => ⟨0, 57, [(1, .d (.int .i64 a1)), (2, .ref 2 0 0), (5, .ref 5 0 0), (6, .d (.int .i64 s3))], [], [(5, .box 74 [.d (.int .i64 ((a0.Bridges.getD a1.toNat default).Id)), .d (.bool ((a0.Bridges.getD a1.toNat default).Up)), .d (.int .i64 ((((a0.Bridges.getD a1.toNat default).Mind).Vector).Root)), .d (.int .i64 ((((a0.Bridges.getD a1.toNat default).Mind).Vector).Cost)), .d (.int .i64 ((((a0.Bridges.getD a1.toNat default).Mind).Vector).Age)), .d (.int .i64 (((a0.Bridges.getD a1.toNat default).Mind).Link))]), (2, .box 31 [.d (slD TreeBridge.enc a0.Bridges), .d (slD TreeLink.enc a0.Links), .d (slD encInt a0.Down), .d (slD TreeSlot.enc a0.AtA), .d (slD TreeSlot.enc a0.AtB), .d (slD TreeWord.enc a0.Radio)])], []⟩) ?_ ?_
    · refine le_mk ?_ ?_ ?_ <;> (repeat' first | ((conv => whnf); first | exact trivial | refine And.intro ?_ ?_ | exact BLe.refl _ | exact VLe.refl _) | exact trivial | exact rfl | refine And.intro ?_ ?_ | exact BLe.refl _ | exact VLe.refl _ | exact VLe.any _ | exact VLe.nil_osl rfl | exact VLe.nil_sl rfl | exact VLe.built rfl rfl | (refine VLe.osl rfl ?_; (first | rfl | (simp; done) | assumption | (simp [dsub_eq] <;> omega) | omega)) | exact VLe.rows (by first | rfl | (simp; done) | assumption | (simp [dsub_eq] <;> omega) | omega) (fun _ _ => rfl) | exact VLe.rows (by simp [dsub_eq] <;> omega) rows_take | exact VLe.rows (by simp [dsub_eq] <;> omega) rows_dt | exact VLe.rows (by simp [dsub_eq] <;> omega) rows_vt | exact VLe.rows (by simp) (fun i _ => by simp [viewRow_eq, Nat.add_comm]) | refine VLe.aggL ?_ | (refine BLe.rows rfl ?_ fun _ _ => rfl; (first | rfl | (simp; done) | assumption | (simp [dsub_eq] <;> omega) | omega)) | (refine BLe.rows rfl rfl ?_; first | exact rows_take) | refine BLe.box ?_)
    · clear hx6
      intro s3 y4 g5 hy4
      conv => whnf
      refine seq_in tOk ?_
      conv => whnf
      refine And.intro (fun e => ?_) (fun e => ?_)
      · replace g5 := ite_t g5 e; clear e
        conv => whnf
        refine seq_in tOk ?_
        conv => whnf
        obtain ⟨g7, g5⟩ := gd_some g5
        refine draw_k tOk (by kernel_rfl) (fun _ => none) 9 [] [[], [true], [], [true, true, true], [true, true, true, true], [true, true, true, true, true], [], [false, false, false, false, false, false, true], [true, true, true, true, true, true, true, true]] [] (by decide) (by kernel_rfl) (by kernel_rfl) ?_
        conv => whnf
        refine And.intro g7 ?_
        clear g7
        conv => whnf
        refine And.intro (by kernel_rfl) ?_
        conv => whnf
        refine And.intro (fun e => ?_) (fun e => ?_)
        · replace g5 := ite_t g5 e; clear e
          conv => whnf
          obtain rfl := Option.some.inj g5
          obtain rfl := hy4 _ rfl
          obtain rfl := Option.some.inj h
          exact ⟨_, LE.refl _, And.intro rfl trivial⟩
        · replace g5 := ite_f g5 e; clear e
          conv => whnf
          obtain rfl := Option.some.inj g5
          refine ⟨_, rfl, le_mk ?_ ?_ ?_⟩ <;> (repeat' first | ((conv => whnf); first | exact trivial | refine And.intro ?_ ?_ | exact BLe.refl _ | exact VLe.refl _) | exact trivial | exact rfl | refine And.intro ?_ ?_ | exact BLe.refl _ | exact VLe.refl _ | exact VLe.any _ | exact VLe.nil_osl rfl | exact VLe.nil_sl rfl | exact VLe.built rfl rfl | (refine VLe.osl rfl ?_; (first | rfl | (simp; done) | assumption | (simp [dsub_eq] <;> omega) | omega)) | exact VLe.rows (by first | rfl | (simp; done) | assumption | (simp [dsub_eq] <;> omega) | omega) (fun _ _ => rfl) | exact VLe.rows (by simp [dsub_eq] <;> omega) rows_take | exact VLe.rows (by simp [dsub_eq] <;> omega) rows_dt | exact VLe.rows (by simp [dsub_eq] <;> omega) rows_vt | exact VLe.rows (by simp) (fun i _ => by simp [viewRow_eq, Nat.add_comm]) | refine VLe.aggL ?_ | (refine BLe.rows rfl ?_ fun _ _ => rfl; (first | rfl | (simp; done) | assumption | (simp [dsub_eq] <;> omega) | omega)) | (refine BLe.rows rfl rfl ?_; first | exact rows_take) | refine BLe.box ?_)
      · replace g5 := ite_f g5 e; clear e
        conv => whnf
        obtain rfl := Option.some.inj g5
        obtain rfl := hy4 _ rfl
        refine seq_in tOk ?_
        conv => whnf
        refine And.intro (fun e => ?_) (fun e => ?_)
        · replace h := ite_t h e; clear e
          conv => whnf
          obtain rfl := Option.some.inj h
          exact ⟨_, LE.refl _, And.intro rfl trivial⟩
        · replace h := ite_f h e; clear e
          conv => whnf
          obtain ⟨x10, hx10, h⟩ := bd_some h
          refine callC 0 (spec_TreeVectorOk_c hx10) (by kernel_rfl) (by kernel_rfl) ?_
          clear hx10
          conv => whnf
          obtain ⟨x11, hx11, h⟩ := bd_some h
          refine callG_m rfl rfl rfl rfl rfl rfl (by intro c0; exact spec_l81In_c (gcall_some hx11 c0)) ?_
          conv => whnf
          obtain rfl := Option.some.inj h
          exact ⟨_, LE.refl _, And.intro rfl trivial⟩

noncomputable def spec_l82SlotOk_m (a0 : TreeSlot) : Option (Bool) :=
 bd (spec_TreeVectorOk_m a0.Vector) fun x1 =>
 bd (gcall (x1 = true) (spec_l81In_m a0.Left 0 3)) fun x2 =>
 some ((x1 && x2) && ((a0.Left == 0) == (a0.Vector.Root == 0)))

theorem spec_l82SlotOk_c {a0 : TreeSlot} {r : Bool} (h : spec_l82SlotOk_m a0 = some r) : PureC Try.prog 92 [.agg [.d (.int .i64 a0.Vector.Root), .d (.int .i64 a0.Vector.Cost), .d (.int .i64 a0.Vector.Age), .d (.int .i64 a0.Left)]] (.d (.bool r)) [] := by
  refine pureC_m tOk (fn := Try.f92) (c := codeOf Try.f92) rfl rfl (by kernel_rfl) rfl rfl (by simp) (by simp) (ids_of rfl) ?_
  unfold spec_l82SlotOk_m at h
  conv => whnf
  obtain ⟨x1, hx1, h⟩ := bd_some h
  refine callC 0 (spec_TreeVectorOk_c hx1) (by kernel_rfl) (by kernel_rfl) ?_
  clear hx1
  conv => whnf
  obtain ⟨x2, hx2, h⟩ := bd_some h
  refine callG_m rfl rfl rfl rfl rfl rfl (by intro c0; exact spec_l81In_c (gcall_some hx2 c0)) ?_
  conv => whnf
  obtain rfl := Option.some.inj h
  exact ⟨_, LE.refl _, And.intro rfl trivial⟩

noncomputable def spec_l82Ends_m (a0 : TreeWorld) : Option (Bool) :=
 bd (lp (σ := Int) (β := (Unit ⊕ Unit)) (fun s1 =>
(if (decide (s1 < ((a0.Links.length : Nat) : Int))) = true then
 gd ((0 : Int) ≤ s1 ∧ s1 < ((a0.Links.length : Nat) : Int)) <|
 gd ((0 : Int) ≤ s1 ∧ s1 < ((a0.AtA.length : Nat) : Int)) <|
 bd (spec_l82SlotOk_m (⟨((a0.AtA.getD s1.toNat default).Vector), (a0.AtA.getD s1.toNat default).Left⟩ : TreeSlot)) fun x7 =>
 gd ((!x7) = false → ((0 : Int) ≤ s1 ∧ s1 < ((a0.AtB.length : Nat) : Int))) <|
 bd (gcall ((!x7) = false) (spec_l82SlotOk_m (⟨((a0.AtB.getD s1.toNat default).Vector), (a0.AtB.getD s1.toNat default).Left⟩ : TreeSlot))) fun x9 =>
(if ((!x7) || (!x9)) = true then
 some (.inr (.inl ()))
else
 bd (spec_l82Has_m a0.Down s1) fun x10 =>
 gd (x10 = false → ((0 : Int) ≤ (a0.Links.getD s1.toNat default).A ∧ (a0.Links.getD s1.toNat default).A < ((a0.Bridges.length : Nat) : Int))) <|
 gd ((x10 || (!((a0.Bridges.getD (((a0.Links.getD s1.toNat default).A).toNat) default).Up))) = true → ((0 : Int) ≤ s1 ∧ s1 < ((a0.AtA.length : Nat) : Int))) <|
 bd (gcall (((x10 || (!((a0.Bridges.getD (((a0.Links.getD s1.toNat default).A).toNat) default).Up))) && (decide (((a0.AtA.getD s1.toNat default).Left) > 0))) = false) (spec_l82Has_m a0.Down s1)) fun x13 =>
 gd (x13 = false → (((x10 || (!((a0.Bridges.getD (((a0.Links.getD s1.toNat default).A).toNat) default).Up))) && (decide (((a0.AtA.getD s1.toNat default).Left) > 0))) = false → ((0 : Int) ≤ (a0.Links.getD s1.toNat default).B ∧ (a0.Links.getD s1.toNat default).B < ((a0.Bridges.length : Nat) : Int)))) <|
 gd ((x13 || (!((a0.Bridges.getD (((a0.Links.getD s1.toNat default).B).toNat) default).Up))) = true → (((x10 || (!((a0.Bridges.getD (((a0.Links.getD s1.toNat default).A).toNat) default).Up))) && (decide (((a0.AtA.getD s1.toNat default).Left) > 0))) = false → ((0 : Int) ≤ s1 ∧ s1 < ((a0.AtB.length : Nat) : Int)))) <|
(if (((x10 || (!((a0.Bridges.getD (((a0.Links.getD s1.toNat default).A).toNat) default).Up))) && (decide (((a0.AtA.getD s1.toNat default).Left) > 0))) || ((x13 || (!((a0.Bridges.getD (((a0.Links.getD s1.toNat default).B).toNat) default).Up))) && (decide (((a0.AtB.getD s1.toNat default).Left) > 0)))) = true then
 some (.inr (.inl ()))
else
 some (.inl (IntKind.i64.wrap (s1 + 1)))))
else
 some (.inr (.inr ())))) 0) fun x4 =>
(match x4 with
| .inl d16 =>
 some false
| .inr d17 =>
 some true)

theorem spec_l82Ends_c {a0 : TreeWorld} {r : Bool} (h : spec_l82Ends_m a0 = some r) : PureC Try.prog 55 [.agg [.d (slD TreeBridge.enc a0.Bridges), .d (slD TreeLink.enc a0.Links), .d (slD encInt a0.Down), .d (slD TreeSlot.enc a0.AtA), .d (slD TreeSlot.enc a0.AtB), .d (slD TreeWord.enc a0.Radio)]] (.d (.bool r)) [] := by
  refine pureC_m tOk (fn := Try.f55) (c := codeOf Try.f55) rfl rfl (by kernel_rfl) rfl rfl (by simp) (by simp) (ids_of rfl) ?_
  unfold spec_l82Ends_m at h
  conv => whnf
  refine seq_in tOk ?_
  conv => whnf
  obtain ⟨x4, hx4, h⟩ := bd_some h
  refine loop_m tOk hx4 (fun s1 => ⟨0, 81, [(1, .ref 1 0 0), (3, .d (.int .i64 s1))], [], [(1, .box 31 [.d (slD TreeBridge.enc a0.Bridges), .d (slD TreeLink.enc a0.Links), .d (slD encInt a0.Down), .d (slD TreeSlot.enc a0.AtA), .d (slD TreeSlot.enc a0.AtB), .d (slD TreeWord.enc a0.Radio)])], []⟩) ?_ ?_
  · refine le_mk ?_ ?_ ?_ <;> (repeat' first | ((conv => whnf); first | exact trivial | refine And.intro ?_ ?_ | exact BLe.refl _ | exact VLe.refl _) | exact trivial | exact rfl | refine And.intro ?_ ?_ | exact BLe.refl _ | exact VLe.refl _ | exact VLe.any _ | exact VLe.nil_osl rfl | exact VLe.nil_sl rfl | exact VLe.built rfl rfl | (refine VLe.osl rfl ?_; (first | rfl | (simp; done) | assumption | (simp [dsub_eq] <;> omega) | omega)) | exact VLe.rows (by first | rfl | (simp; done) | assumption | (simp [dsub_eq] <;> omega) | omega) (fun _ _ => rfl) | exact VLe.rows (by simp [dsub_eq] <;> omega) rows_take | exact VLe.rows (by simp [dsub_eq] <;> omega) rows_dt | exact VLe.rows (by simp [dsub_eq] <;> omega) rows_vt | exact VLe.rows (by simp) (fun i _ => by simp [viewRow_eq, Nat.add_comm]) | refine VLe.aggL ?_ | (refine BLe.rows rfl ?_ fun _ _ => rfl; (first | rfl | (simp; done) | assumption | (simp [dsub_eq] <;> omega) | omega)) | (refine BLe.rows rfl rfl ?_; first | exact rows_take) | refine BLe.box ?_)
  · clear hx4
    intro s1 y2 g3 hy2
    conv => whnf
    refine seq_in tOk ?_
    conv => whnf
    refine And.intro (fun e => ?_) (fun e => ?_)
    · replace g3 := ite_t g3 e; clear e
      conv => whnf
      refine seq_in tOk ?_
      conv => whnf
      obtain ⟨g5, g3⟩ := gd_some g3
      refine And.intro g5 ?_
      clear g5
      conv => whnf
      refine seq_in tOk ?_
      conv => whnf
      obtain ⟨g6, g3⟩ := gd_some g3
      refine And.intro g6 ?_
      clear g6
      conv => whnf
      obtain ⟨x7, hx7, g3⟩ := bd_some g3
      refine callC 0 (spec_l82SlotOk_c hx7) (by kernel_rfl) (by kernel_rfl) ?_
      clear hx7
      conv => whnf
      obtain ⟨g8, g3⟩ := gd_some g3
      refine And.intro g8 ?_
      clear g8
      conv => whnf
      obtain ⟨x9, hx9, g3⟩ := bd_some g3
      refine callG_m rfl rfl rfl rfl rfl rfl (by intro c0; exact spec_l82SlotOk_c (gcall_some hx9 c0)) ?_
      conv => whnf
      refine And.intro (fun e => ?_) (fun e => ?_)
      · replace g3 := ite_t g3 e; clear e
        conv => whnf
        obtain rfl := Option.some.inj g3
        obtain rfl := hy2 _ rfl
        obtain rfl := Option.some.inj h
        exact ⟨_, LE.refl _, And.intro rfl trivial⟩
      · replace g3 := ite_f g3 e; clear e
        conv => whnf
        obtain ⟨x10, hx10, g3⟩ := bd_some g3
        refine callC 0 (spec_l82Has_c hx10) (by kernel_rfl) (by kernel_rfl) ?_
        clear hx10
        conv => whnf
        obtain ⟨g11, g3⟩ := gd_some g3
        refine And.intro g11 ?_
        clear g11
        conv => whnf
        obtain ⟨g12, g3⟩ := gd_some g3
        refine And.intro g12 ?_
        clear g12
        conv => whnf
        obtain ⟨x13, hx13, g3⟩ := bd_some g3
        refine callG_m rfl rfl rfl rfl rfl rfl (by intro c0; exact spec_l82Has_c (gcall_some hx13 c0)) ?_
        conv => whnf
        obtain ⟨g14, g3⟩ := gd_some g3
        refine And.intro g14 ?_
        clear g14
        conv => whnf
        obtain ⟨g15, g3⟩ := gd_some g3
        refine And.intro g15 ?_
        clear g15
        conv => whnf
        refine And.intro (fun e => ?_) (fun e => ?_)
        · replace g3 := ite_t g3 e; clear e
          conv => whnf
          obtain rfl := Option.some.inj g3
          obtain rfl := hy2 _ rfl
          obtain rfl := Option.some.inj h
          exact ⟨_, LE.refl _, And.intro rfl trivial⟩
        · replace g3 := ite_f g3 e; clear e
          conv => whnf
          obtain rfl := Option.some.inj g3
          refine ⟨_, rfl, le_mk ?_ ?_ ?_⟩ <;> (repeat' first | ((conv => whnf); first | exact trivial | refine And.intro ?_ ?_ | exact BLe.refl _ | exact VLe.refl _) | exact trivial | exact rfl | refine And.intro ?_ ?_ | exact BLe.refl _ | exact VLe.refl _ | exact VLe.any _ | exact VLe.nil_osl rfl | exact VLe.nil_sl rfl | exact VLe.built rfl rfl | (refine VLe.osl rfl ?_; (first | rfl | (simp; done) | assumption | (simp [dsub_eq] <;> omega) | omega)) | exact VLe.rows (by first | rfl | (simp; done) | assumption | (simp [dsub_eq] <;> omega) | omega) (fun _ _ => rfl) | exact VLe.rows (by simp [dsub_eq] <;> omega) rows_take | exact VLe.rows (by simp [dsub_eq] <;> omega) rows_dt | exact VLe.rows (by simp [dsub_eq] <;> omega) rows_vt | exact VLe.rows (by simp) (fun i _ => by simp [viewRow_eq, Nat.add_comm]) | refine VLe.aggL ?_ | (refine BLe.rows rfl ?_ fun _ _ => rfl; (first | rfl | (simp; done) | assumption | (simp [dsub_eq] <;> omega) | omega)) | (refine BLe.rows rfl rfl ?_; first | exact rows_take) | refine BLe.box ?_)
    · replace g3 := ite_f g3 e; clear e
      conv => whnf
      obtain rfl := Option.some.inj g3
      obtain rfl := hy2 _ rfl
      obtain rfl := Option.some.inj h
      exact ⟨_, LE.refl _, And.intro rfl trivial⟩

noncomputable def spec_TreeWorldOk_m (a0 : TreeWorld) : Option (Bool) :=
 bd (spec_TreeLinksOk_m ((a0.Bridges.length : Nat) : Int) a0.Links) fun x1 =>
 bd (gcall ((!x1) = false) (spec_l82Lists_m a0)) fun x2 =>
(if ((!x1) || (!x2)) = true then
 some false
else
 bd (lp (σ := Int) (β := (Unit ⊕ Unit)) (fun s3 =>
(if (decide (s3 < ((a0.Bridges.length : Nat) : Int))) = true then
 bd (spec_l82BridgeOk_m a0 s3) fun x7 =>
(if (!x7) = true then
 some (.inr (.inl ()))
else
 some (.inl (IntKind.i64.wrap (s3 + 1))))
else
 some (.inr (.inr ())))) 0) fun x6 =>
(match x6 with
| .inl d8 =>
 some false
| .inr d9 =>
 bd (spec_l82Ends_m a0) fun x10 =>
 some x10))

theorem spec_TreeWorldOk_c {a0 : TreeWorld} {r : Bool} (h : spec_TreeWorldOk_m a0 = some r) : PureC Try.prog 16 [.agg [.d (slD TreeBridge.enc a0.Bridges), .d (slD TreeLink.enc a0.Links), .d (slD encInt a0.Down), .d (slD TreeSlot.enc a0.AtA), .d (slD TreeSlot.enc a0.AtB), .d (slD TreeWord.enc a0.Radio)]] (.d (.bool r)) [] := by
  refine pureC_m tOk (fn := Try.f16) (c := codeOf Try.f16) rfl rfl (by kernel_rfl) rfl rfl (by simp) (by simp) (ids_of rfl) ?_
  unfold spec_TreeWorldOk_m at h
  conv => whnf
  refine seq_in tOk ?_
  conv => whnf
  obtain ⟨x1, hx1, h⟩ := bd_some h
  refine callC 0 (spec_TreeLinksOk_c hx1) (by kernel_rfl) (by kernel_rfl) ?_
  clear hx1
  conv => whnf
  obtain ⟨x2, hx2, h⟩ := bd_some h
  refine callG_m rfl rfl rfl rfl rfl rfl (by intro c0; exact spec_l82Lists_c (gcall_some hx2 c0)) ?_
  conv => whnf
  refine And.intro (fun e => ?_) (fun e => ?_)
  · replace h := ite_t h e; clear e
    conv => whnf
    obtain rfl := Option.some.inj h
    exact ⟨_, LE.refl _, And.intro rfl trivial⟩
  · replace h := ite_f h e; clear e
    conv => whnf
    refine seq_in tOk ?_
    conv => whnf
    obtain ⟨x6, hx6, h⟩ := bd_some h
    refine loop_m tOk hx6 (fun s3 => ⟨0, 29, [(1, .ref 1 0 0), (3, .d (.int .i64 s3))], [], [(1, .box 31 [.d (slD TreeBridge.enc a0.Bridges), .d (slD TreeLink.enc a0.Links), .d (slD encInt a0.Down), .d (slD TreeSlot.enc a0.AtA), .d (slD TreeSlot.enc a0.AtB), .d (slD TreeWord.enc a0.Radio)])], []⟩) ?_ ?_
    · refine le_mk ?_ ?_ ?_ <;> (repeat' first | ((conv => whnf); first | exact trivial | refine And.intro ?_ ?_ | exact BLe.refl _ | exact VLe.refl _) | exact trivial | exact rfl | refine And.intro ?_ ?_ | exact BLe.refl _ | exact VLe.refl _ | exact VLe.any _ | exact VLe.nil_osl rfl | exact VLe.nil_sl rfl | exact VLe.built rfl rfl | (refine VLe.osl rfl ?_; (first | rfl | (simp; done) | assumption | (simp [dsub_eq] <;> omega) | omega)) | exact VLe.rows (by first | rfl | (simp; done) | assumption | (simp [dsub_eq] <;> omega) | omega) (fun _ _ => rfl) | exact VLe.rows (by simp [dsub_eq] <;> omega) rows_take | exact VLe.rows (by simp [dsub_eq] <;> omega) rows_dt | exact VLe.rows (by simp [dsub_eq] <;> omega) rows_vt | exact VLe.rows (by simp) (fun i _ => by simp [viewRow_eq, Nat.add_comm]) | refine VLe.aggL ?_ | (refine BLe.rows rfl ?_ fun _ _ => rfl; (first | rfl | (simp; done) | assumption | (simp [dsub_eq] <;> omega) | omega)) | (refine BLe.rows rfl rfl ?_; first | exact rows_take) | refine BLe.box ?_)
    · clear hx6
      intro s3 y4 g5 hy4
      conv => whnf
      refine seq_in tOk ?_
      conv => whnf
      refine And.intro (fun e => ?_) (fun e => ?_)
      · replace g5 := ite_t g5 e; clear e
        conv => whnf
        refine seq_in tOk ?_
        conv => whnf
        obtain ⟨x7, hx7, g5⟩ := bd_some g5
        refine callC 0 (spec_l82BridgeOk_c hx7) (by kernel_rfl) (by kernel_rfl) ?_
        clear hx7
        conv => whnf
        refine And.intro (fun e => ?_) (fun e => ?_)
        · replace g5 := ite_t g5 e; clear e
          conv => whnf
          obtain rfl := Option.some.inj g5
          obtain rfl := hy4 _ rfl
          obtain rfl := Option.some.inj h
          exact ⟨_, LE.refl _, And.intro rfl trivial⟩
        · replace g5 := ite_f g5 e; clear e
          conv => whnf
          obtain rfl := Option.some.inj g5
          refine ⟨_, rfl, le_mk ?_ ?_ ?_⟩ <;> (repeat' first | ((conv => whnf); first | exact trivial | refine And.intro ?_ ?_ | exact BLe.refl _ | exact VLe.refl _) | exact trivial | exact rfl | refine And.intro ?_ ?_ | exact BLe.refl _ | exact VLe.refl _ | exact VLe.any _ | exact VLe.nil_osl rfl | exact VLe.nil_sl rfl | exact VLe.built rfl rfl | (refine VLe.osl rfl ?_; (first | rfl | (simp; done) | assumption | (simp [dsub_eq] <;> omega) | omega)) | exact VLe.rows (by first | rfl | (simp; done) | assumption | (simp [dsub_eq] <;> omega) | omega) (fun _ _ => rfl) | exact VLe.rows (by simp [dsub_eq] <;> omega) rows_take | exact VLe.rows (by simp [dsub_eq] <;> omega) rows_dt | exact VLe.rows (by simp [dsub_eq] <;> omega) rows_vt | exact VLe.rows (by simp) (fun i _ => by simp [viewRow_eq, Nat.add_comm]) | refine VLe.aggL ?_ | (refine BLe.rows rfl ?_ fun _ _ => rfl; (first | rfl | (simp; done) | assumption | (simp [dsub_eq] <;> omega) | omega)) | (refine BLe.rows rfl rfl ?_; first | exact rows_take) | refine BLe.box ?_)
      · replace g5 := ite_f g5 e; clear e
        conv => whnf
        obtain rfl := Option.some.inj g5
        obtain rfl := hy4 _ rfl
        obtain ⟨x10, hx10, h⟩ := bd_some h
        refine callC 0 (spec_l82Ends_c hx10) (by kernel_rfl) (by kernel_rfl) ?_
        clear hx10
        conv => whnf
        obtain rfl := Option.some.inj h
        exact ⟨_, LE.refl _, And.intro rfl trivial⟩

noncomputable def spec_l82Copy_m (a0 : TreeWorld) : Option (TreeWorld) :=
 gd (((0) + (a0.Bridges.length)) * (48 + 1) ≤ 70368744177664) <|
 gd (((0) + (a0.Links.length)) * (24 + 1) ≤ 70368744177664) <|
 gd (((0) + (a0.Down.length)) * (8 + 1) ≤ 70368744177664) <|
 gd (((0) + (a0.AtA.length)) * (32 + 1) ≤ 70368744177664) <|
 gd (((0) + (a0.AtB.length)) * (32 + 1) ≤ 70368744177664) <|
 gd (((0) + (a0.Radio.length)) * (40 + 1) ≤ 70368744177664) <|
 some a0

theorem spec_l82Copy_c {a0 : TreeWorld} {r : TreeWorld} (h : spec_l82Copy_m a0 = some r) : PureC Try.prog 44 [.agg [.d (slD TreeBridge.enc a0.Bridges), .d (slD TreeLink.enc a0.Links), .d (slD encInt a0.Down), .d (slD TreeSlot.enc a0.AtA), .d (slD TreeSlot.enc a0.AtB), .d (slD TreeWord.enc a0.Radio)]] (.agg [.osl 5001 0 r.Bridges.length, .osl 5002 0 r.Links.length, .osl 5003 0 r.Down.length, .osl 5004 0 r.AtA.length, .osl 5005 0 r.AtB.length, .osl 5006 0 r.Radio.length]) [⟨5001, 74, 6, r.Bridges.length, rows TreeBridge.enc r.Bridges⟩, ⟨5002, 70, 3, r.Links.length, rows TreeLink.enc r.Links⟩, ⟨5003, 3, 1, r.Down.length, rows encInt r.Down⟩, ⟨5004, 112, 4, r.AtA.length, rows TreeSlot.enc r.AtA⟩, ⟨5005, 112, 4, r.AtB.length, rows TreeSlot.enc r.AtB⟩, ⟨5006, 78, 5, r.Radio.length, rows TreeWord.enc r.Radio⟩] := by
  refine pureC_m tOk (fn := Try.f44) (c := codeOf Try.f44) rfl rfl (by kernel_rfl) rfl rfl (by simp [atomD]) (by simp) (ids_of rfl) ?_
  unfold spec_l82Copy_m at h
  conv => whnf
  obtain ⟨g1, h⟩ := gd_some h
  obtain ⟨g2, h⟩ := gd_some h
  obtain ⟨g3, h⟩ := gd_some h
  obtain ⟨g4, h⟩ := gd_some h
  obtain ⟨g5, h⟩ := gd_some h
  obtain ⟨g6, h⟩ := gd_some h
  refine draw_k tOk (by kernel_rfl) (fun _ => none) 25 [] [[], [], [false, true], [true, true, true], [], [], [false, false, false, false, false, true], [true, true, true, true, true, true, true], [], [], [false, false, false, false, false, false, false, false, false, true], [true, true, true, true, true, true, true, true, true, true, true], [], [], [false, false, false, false, false, false, false, false, false, false, false, false, false, true], [true, true, true, true, true, true, true, true, true, true, true, true, true, true, true], [], [], [false, false, false, false, false, false, false, false, false, false, false, false, false, false, false, false, false, true], [true, true, true, true, true, true, true, true, true, true, true, true, true, true, true, true, true, true, true], [], [], [false, false, false, false, false, false, false, false, false, false, false, false, false, false, false, false, false, false, false, false, false, true], [true, true, true, true, true, true, true, true, true, true, true, true, true, true, true, true, true, true, true, true, true, true, true], [true, true, true, true, true, true, true, true, true, true, true, true, true, true, true, true, true, true, true, true, true, true, true, true]] [[true, true, true, true, true, true, true, true, true, true, true, true, true, true, true, true, true, true, true, true, true, true, true, true, true]] (by decide) (by kernel_rfl) (by kernel_rfl) ?_
  conv => whnf
  refine And.intro g1 ?_
  clear g1
  refine ⟨a0.Bridges.length, rows TreeBridge.enc a0.Bridges, (by first | rfl | (simp; done) | assumption | (simp [dsub_eq] <;> omega) | omega), (by first | exact app_rows (m := a0.Bridges.length) (by first | rfl | (simp; done) | assumption | (simp [dsub_eq] <;> omega) | omega) (by first | rfl | (simp; done) | assumption | (simp [dsub_eq] <;> omega) | omega) (fun _ _ => rfl) (fun _ _ => rfl) | exact app_rows0 (m := a0.Bridges.length) (by first | rfl | (simp; done) | assumption | (simp [dsub_eq] <;> omega) | omega) (fun _ _ => rfl) | exact app_rows (m := a0.Bridges.length) (by first | rfl | (simp; done) | assumption | (simp [dsub_eq] <;> omega) | omega) (by first | rfl | (simp; done) | assumption | (simp [dsub_eq] <;> omega) | omega) (by first | exact fun _ _ => rfl | exact rows_take | (intro i hi; simp only [viewRow_eq, addOff_eq, Int.toNat_zero, Nat.zero_add, Nat.add_zero]; exact rows_take i hi) | exact rows_vt | exact rows_dt | (intro i hi; simp only [viewRow_eq, Nat.zero_add]) | (intro i hi; simp [viewRow_eq])) (by first | exact fun _ _ => rfl | exact rows_take | (intro i hi; simp only [viewRow_eq, addOff_eq, Int.toNat_zero, Nat.zero_add, Nat.add_zero]; exact rows_take i hi) | exact rows_vt | exact rows_dt | (intro i hi; simp only [viewRow_eq, Nat.zero_add]) | (intro i hi; simp [viewRow_eq])) | exact app_rows0 (m := a0.Bridges.length) (by first | rfl | (simp; done) | assumption | (simp [dsub_eq] <;> omega) | omega) (by first | exact fun _ _ => rfl | exact rows_take | (intro i hi; simp only [viewRow_eq, addOff_eq, Int.toNat_zero, Nat.zero_add, Nat.add_zero]; exact rows_take i hi) | exact rows_vt | exact rows_dt | (intro i hi; simp only [viewRow_eq, Nat.zero_add]) | (intro i hi; simp [viewRow_eq]))), ?_⟩
  conv => whnf
  refine And.intro g2 ?_
  clear g2
  refine ⟨a0.Links.length, rows TreeLink.enc a0.Links, (by first | rfl | (simp; done) | assumption | (simp [dsub_eq] <;> omega) | omega), (by first | exact app_rows (m := a0.Links.length) (by first | rfl | (simp; done) | assumption | (simp [dsub_eq] <;> omega) | omega) (by first | rfl | (simp; done) | assumption | (simp [dsub_eq] <;> omega) | omega) (fun _ _ => rfl) (fun _ _ => rfl) | exact app_rows0 (m := a0.Links.length) (by first | rfl | (simp; done) | assumption | (simp [dsub_eq] <;> omega) | omega) (fun _ _ => rfl) | exact app_rows (m := a0.Links.length) (by first | rfl | (simp; done) | assumption | (simp [dsub_eq] <;> omega) | omega) (by first | rfl | (simp; done) | assumption | (simp [dsub_eq] <;> omega) | omega) (by first | exact fun _ _ => rfl | exact rows_take | (intro i hi; simp only [viewRow_eq, addOff_eq, Int.toNat_zero, Nat.zero_add, Nat.add_zero]; exact rows_take i hi) | exact rows_vt | exact rows_dt | (intro i hi; simp only [viewRow_eq, Nat.zero_add]) | (intro i hi; simp [viewRow_eq])) (by first | exact fun _ _ => rfl | exact rows_take | (intro i hi; simp only [viewRow_eq, addOff_eq, Int.toNat_zero, Nat.zero_add, Nat.add_zero]; exact rows_take i hi) | exact rows_vt | exact rows_dt | (intro i hi; simp only [viewRow_eq, Nat.zero_add]) | (intro i hi; simp [viewRow_eq])) | exact app_rows0 (m := a0.Links.length) (by first | rfl | (simp; done) | assumption | (simp [dsub_eq] <;> omega) | omega) (by first | exact fun _ _ => rfl | exact rows_take | (intro i hi; simp only [viewRow_eq, addOff_eq, Int.toNat_zero, Nat.zero_add, Nat.add_zero]; exact rows_take i hi) | exact rows_vt | exact rows_dt | (intro i hi; simp only [viewRow_eq, Nat.zero_add]) | (intro i hi; simp [viewRow_eq]))), ?_⟩
  conv => whnf
  refine And.intro g3 ?_
  clear g3
  refine ⟨a0.Down.length, rows encInt a0.Down, (by first | rfl | (simp; done) | assumption | (simp [dsub_eq] <;> omega) | omega), (by first | exact app_rows (m := a0.Down.length) (by first | rfl | (simp; done) | assumption | (simp [dsub_eq] <;> omega) | omega) (by first | rfl | (simp; done) | assumption | (simp [dsub_eq] <;> omega) | omega) (fun _ _ => rfl) (fun _ _ => rfl) | exact app_rows0 (m := a0.Down.length) (by first | rfl | (simp; done) | assumption | (simp [dsub_eq] <;> omega) | omega) (fun _ _ => rfl) | exact app_rows (m := a0.Down.length) (by first | rfl | (simp; done) | assumption | (simp [dsub_eq] <;> omega) | omega) (by first | rfl | (simp; done) | assumption | (simp [dsub_eq] <;> omega) | omega) (by first | exact fun _ _ => rfl | exact rows_take | (intro i hi; simp only [viewRow_eq, addOff_eq, Int.toNat_zero, Nat.zero_add, Nat.add_zero]; exact rows_take i hi) | exact rows_vt | exact rows_dt | (intro i hi; simp only [viewRow_eq, Nat.zero_add]) | (intro i hi; simp [viewRow_eq])) (by first | exact fun _ _ => rfl | exact rows_take | (intro i hi; simp only [viewRow_eq, addOff_eq, Int.toNat_zero, Nat.zero_add, Nat.add_zero]; exact rows_take i hi) | exact rows_vt | exact rows_dt | (intro i hi; simp only [viewRow_eq, Nat.zero_add]) | (intro i hi; simp [viewRow_eq])) | exact app_rows0 (m := a0.Down.length) (by first | rfl | (simp; done) | assumption | (simp [dsub_eq] <;> omega) | omega) (by first | exact fun _ _ => rfl | exact rows_take | (intro i hi; simp only [viewRow_eq, addOff_eq, Int.toNat_zero, Nat.zero_add, Nat.add_zero]; exact rows_take i hi) | exact rows_vt | exact rows_dt | (intro i hi; simp only [viewRow_eq, Nat.zero_add]) | (intro i hi; simp [viewRow_eq]))), ?_⟩
  conv => whnf
  refine And.intro g4 ?_
  clear g4
  refine ⟨a0.AtA.length, rows TreeSlot.enc a0.AtA, (by first | rfl | (simp; done) | assumption | (simp [dsub_eq] <;> omega) | omega), (by first | exact app_rows (m := a0.AtA.length) (by first | rfl | (simp; done) | assumption | (simp [dsub_eq] <;> omega) | omega) (by first | rfl | (simp; done) | assumption | (simp [dsub_eq] <;> omega) | omega) (fun _ _ => rfl) (fun _ _ => rfl) | exact app_rows0 (m := a0.AtA.length) (by first | rfl | (simp; done) | assumption | (simp [dsub_eq] <;> omega) | omega) (fun _ _ => rfl) | exact app_rows (m := a0.AtA.length) (by first | rfl | (simp; done) | assumption | (simp [dsub_eq] <;> omega) | omega) (by first | rfl | (simp; done) | assumption | (simp [dsub_eq] <;> omega) | omega) (by first | exact fun _ _ => rfl | exact rows_take | (intro i hi; simp only [viewRow_eq, addOff_eq, Int.toNat_zero, Nat.zero_add, Nat.add_zero]; exact rows_take i hi) | exact rows_vt | exact rows_dt | (intro i hi; simp only [viewRow_eq, Nat.zero_add]) | (intro i hi; simp [viewRow_eq])) (by first | exact fun _ _ => rfl | exact rows_take | (intro i hi; simp only [viewRow_eq, addOff_eq, Int.toNat_zero, Nat.zero_add, Nat.add_zero]; exact rows_take i hi) | exact rows_vt | exact rows_dt | (intro i hi; simp only [viewRow_eq, Nat.zero_add]) | (intro i hi; simp [viewRow_eq])) | exact app_rows0 (m := a0.AtA.length) (by first | rfl | (simp; done) | assumption | (simp [dsub_eq] <;> omega) | omega) (by first | exact fun _ _ => rfl | exact rows_take | (intro i hi; simp only [viewRow_eq, addOff_eq, Int.toNat_zero, Nat.zero_add, Nat.add_zero]; exact rows_take i hi) | exact rows_vt | exact rows_dt | (intro i hi; simp only [viewRow_eq, Nat.zero_add]) | (intro i hi; simp [viewRow_eq]))), ?_⟩
  conv => whnf
  refine And.intro g5 ?_
  clear g5
  refine ⟨a0.AtB.length, rows TreeSlot.enc a0.AtB, (by first | rfl | (simp; done) | assumption | (simp [dsub_eq] <;> omega) | omega), (by first | exact app_rows (m := a0.AtB.length) (by first | rfl | (simp; done) | assumption | (simp [dsub_eq] <;> omega) | omega) (by first | rfl | (simp; done) | assumption | (simp [dsub_eq] <;> omega) | omega) (fun _ _ => rfl) (fun _ _ => rfl) | exact app_rows0 (m := a0.AtB.length) (by first | rfl | (simp; done) | assumption | (simp [dsub_eq] <;> omega) | omega) (fun _ _ => rfl) | exact app_rows (m := a0.AtB.length) (by first | rfl | (simp; done) | assumption | (simp [dsub_eq] <;> omega) | omega) (by first | rfl | (simp; done) | assumption | (simp [dsub_eq] <;> omega) | omega) (by first | exact fun _ _ => rfl | exact rows_take | (intro i hi; simp only [viewRow_eq, addOff_eq, Int.toNat_zero, Nat.zero_add, Nat.add_zero]; exact rows_take i hi) | exact rows_vt | exact rows_dt | (intro i hi; simp only [viewRow_eq, Nat.zero_add]) | (intro i hi; simp [viewRow_eq])) (by first | exact fun _ _ => rfl | exact rows_take | (intro i hi; simp only [viewRow_eq, addOff_eq, Int.toNat_zero, Nat.zero_add, Nat.add_zero]; exact rows_take i hi) | exact rows_vt | exact rows_dt | (intro i hi; simp only [viewRow_eq, Nat.zero_add]) | (intro i hi; simp [viewRow_eq])) | exact app_rows0 (m := a0.AtB.length) (by first | rfl | (simp; done) | assumption | (simp [dsub_eq] <;> omega) | omega) (by first | exact fun _ _ => rfl | exact rows_take | (intro i hi; simp only [viewRow_eq, addOff_eq, Int.toNat_zero, Nat.zero_add, Nat.add_zero]; exact rows_take i hi) | exact rows_vt | exact rows_dt | (intro i hi; simp only [viewRow_eq, Nat.zero_add]) | (intro i hi; simp [viewRow_eq]))), ?_⟩
  conv => whnf
  refine And.intro g6 ?_
  clear g6
  refine ⟨a0.Radio.length, rows TreeWord.enc a0.Radio, (by first | rfl | (simp; done) | assumption | (simp [dsub_eq] <;> omega) | omega), (by first | exact app_rows (m := a0.Radio.length) (by first | rfl | (simp; done) | assumption | (simp [dsub_eq] <;> omega) | omega) (by first | rfl | (simp; done) | assumption | (simp [dsub_eq] <;> omega) | omega) (fun _ _ => rfl) (fun _ _ => rfl) | exact app_rows0 (m := a0.Radio.length) (by first | rfl | (simp; done) | assumption | (simp [dsub_eq] <;> omega) | omega) (fun _ _ => rfl) | exact app_rows (m := a0.Radio.length) (by first | rfl | (simp; done) | assumption | (simp [dsub_eq] <;> omega) | omega) (by first | rfl | (simp; done) | assumption | (simp [dsub_eq] <;> omega) | omega) (by first | exact fun _ _ => rfl | exact rows_take | (intro i hi; simp only [viewRow_eq, addOff_eq, Int.toNat_zero, Nat.zero_add, Nat.add_zero]; exact rows_take i hi) | exact rows_vt | exact rows_dt | (intro i hi; simp only [viewRow_eq, Nat.zero_add]) | (intro i hi; simp [viewRow_eq])) (by first | exact fun _ _ => rfl | exact rows_take | (intro i hi; simp only [viewRow_eq, addOff_eq, Int.toNat_zero, Nat.zero_add, Nat.add_zero]; exact rows_take i hi) | exact rows_vt | exact rows_dt | (intro i hi; simp only [viewRow_eq, Nat.zero_add]) | (intro i hi; simp [viewRow_eq])) | exact app_rows0 (m := a0.Radio.length) (by first | rfl | (simp; done) | assumption | (simp [dsub_eq] <;> omega) | omega) (by first | exact fun _ _ => rfl | exact rows_take | (intro i hi; simp only [viewRow_eq, addOff_eq, Int.toNat_zero, Nat.zero_add, Nat.add_zero]; exact rows_take i hi) | exact rows_vt | exact rows_dt | (intro i hi; simp only [viewRow_eq, Nat.zero_add]) | (intro i hi; simp [viewRow_eq]))), ?_⟩
  conv => whnf
  refine And.intro (by kernel_rfl) ?_
  conv => whnf
  obtain rfl := Option.some.inj h
  refine ⟨⟨0, 28, [(2, .ref 2 0 0)], [], [(5006, .arr 78 5 a0.Radio.length (rows TreeWord.enc a0.Radio)), (5005, .arr 112 4 a0.AtB.length (rows TreeSlot.enc a0.AtB)), (5004, .arr 112 4 a0.AtA.length (rows TreeSlot.enc a0.AtA)), (5003, .arr 3 1 a0.Down.length (rows encInt a0.Down)), (5002, .arr 70 3 a0.Links.length (rows TreeLink.enc a0.Links)), (5001, .arr 74 6 a0.Bridges.length (rows TreeBridge.enc a0.Bridges)), (2, .box 31 [.osl 5001 0 a0.Bridges.length, .osl 5002 0 a0.Links.length, .osl 5003 0 a0.Down.length, .osl 5004 0 a0.AtA.length, .osl 5005 0 a0.AtB.length, .osl 5006 0 a0.Radio.length])], []⟩, ?_, And.intro rfl ?_⟩
  · refine LE.trans (S' := ⟨0, 28, [(2, .ref 2 0 0)], [], [(26, .arr 78 5 a0.Radio.length (rows TreeWord.enc a0.Radio)), (22, .arr 112 4 a0.AtB.length (rows TreeSlot.enc a0.AtB)), (18, .arr 112 4 a0.AtA.length (rows TreeSlot.enc a0.AtA)), (14, .arr 3 1 a0.Down.length (rows encInt a0.Down)), (10, .arr 70 3 a0.Links.length (rows TreeLink.enc a0.Links)), (6, .arr 74 6 a0.Bridges.length (rows TreeBridge.enc a0.Bridges)), (2, .box 31 [.osl 6 0 a0.Bridges.length, .osl 10 0 a0.Links.length, .osl 14 0 a0.Down.length, .osl 18 0 a0.AtA.length, .osl 22 0 a0.AtB.length, .osl 26 0 a0.Radio.length])], []⟩) (le_mk ?_ ?_ ?_) (le_swaps [(6, 5001), (10, 5002), (14, 5003), (18, 5004), (22, 5005), (26, 5006)] rfl) <;> (repeat' first | ((conv => whnf); first | exact trivial | refine And.intro ?_ ?_ | exact BLe.refl _ | exact VLe.refl _) | exact trivial | exact rfl | refine And.intro ?_ ?_ | exact BLe.refl _ | exact VLe.refl _ | exact VLe.any _ | exact VLe.nil_osl rfl | exact VLe.nil_sl rfl | exact VLe.built rfl rfl | (refine VLe.osl rfl ?_; (first | rfl | (simp; done) | assumption | (simp [dsub_eq] <;> omega) | omega)) | exact VLe.rows (by first | rfl | (simp; done) | assumption | (simp [dsub_eq] <;> omega) | omega) (fun _ _ => rfl) | exact VLe.rows (by simp [dsub_eq] <;> omega) rows_take | exact VLe.rows (by simp [dsub_eq] <;> omega) rows_dt | exact VLe.rows (by simp [dsub_eq] <;> omega) rows_vt | exact VLe.rows (by simp) (fun i _ => by simp [viewRow_eq, Nat.add_comm]) | refine VLe.aggL ?_ | (refine BLe.rows rfl ?_ fun _ _ => rfl; (first | rfl | (simp; done) | assumption | (simp [dsub_eq] <;> omega) | omega)) | (refine BLe.rows rfl rfl ?_; first | exact rows_take) | refine BLe.box ?_)
  · exact And.intro (And.intro rfl (And.intro rfl (fun _ _ => rfl))) (And.intro (And.intro rfl (And.intro rfl (fun _ _ => rfl))) (And.intro (And.intro rfl (And.intro rfl (fun _ _ => rfl))) (And.intro (And.intro rfl (And.intro rfl (fun _ _ => rfl))) (And.intro (And.intro rfl (And.intro rfl (fun _ _ => rfl))) (And.intro (And.intro rfl (And.intro rfl (fun _ _ => rfl))) (trivial))))))

noncomputable def spec_TreeOpenWorld_m (a0 : (List Int)) (a1 : (List TreeLink)) : Option (TreeWorld × Bool) :=
 bd (spec_TreeLinksOk_m ((a0.length : Nat) : Int) a1) fun x1 =>
(if (!x1) = true then
 some ((⟨[], [], [], [], [], []⟩ : TreeWorld), false)
else
 gd ((0 : Int) ≤ ((a1.length : Nat) : Int) ∧ ((a1.length : Nat) : Int) ≤ ((a1.length : Nat) : Int) ∧ ((a1.length : Nat) : Int) * 32 ≤ 140737488355328 ∧ ((a1.length : Nat) : Int) ≤ 140737488355328) <|
 gd ((0 : Int) ≤ ((a1.length : Nat) : Int) ∧ ((a1.length : Nat) : Int) ≤ ((a1.length : Nat) : Int) ∧ ((a1.length : Nat) : Int) * 32 ≤ 140737488355328 ∧ ((a1.length : Nat) : Int) ≤ 140737488355328) <|
 bd (lp (σ := List TreeBridge × Int) (β := ((List TreeBridge) × Nat)) (fun s4 =>
(if (decide (s4.2 < ((a0.length : Nat) : Int))) = true then
 gd ((0 : Int) ≤ s4.2 ∧ s4.2 < ((a0.length : Nat) : Int)) <|
 gd ((0 : Int) ≤ s4.2 ∧ s4.2 < ((a0.length : Nat) : Int)) <|
 bd (spec_l82Self_m (a0.getD s4.2.toNat default)) fun x10 =>
 gd (((s4.1.length) + (([(⟨(a0.getD s4.2.toNat default), true, x10⟩ : TreeBridge)] : List TreeBridge).length)) * (48 + 1) ≤ 70368744177664) <|
 some (.inl ((s4.1 ++ ([(⟨(a0.getD s4.2.toNat default), true, x10⟩ : TreeBridge)] : List TreeBridge)), IntKind.i64.wrap (s4.2 + 1)))
else
 some (.inr (s4.1, s4.1.length)))) (([] : List TreeBridge), 0)) fun x7 =>
 bd (spec_TreeWorldOk_m (⟨x7.1, a1, [], (List.replicate (((a1.length : Nat) : Int) : Int).toNat (default : TreeSlot)), (List.replicate (((a1.length : Nat) : Int) : Int).toNat (default : TreeSlot)), []⟩ : TreeWorld)) fun x13 =>
(if (!x13) = true then
 some ((⟨[], [], [], [], [], []⟩ : TreeWorld), false)
else
 bd (spec_l82Copy_m (⟨x7.1, a1, [], (List.replicate (((a1.length : Nat) : Int) : Int).toNat (default : TreeSlot)), (List.replicate (((a1.length : Nat) : Int) : Int).toNat (default : TreeSlot)), []⟩ : TreeWorld)) fun x14 =>
 some (x14, true)))

theorem spec_TreeOpenWorld_c {a0 : (List Int)} {a1 : (List TreeLink)} {r : TreeWorld × Bool} (h : spec_TreeOpenWorld_m a0 a1 = some r) : PureC Try.prog 11 [.d (slD encInt a0), .d (slD TreeLink.enc a1)] (.tup [.agg [.osl 5001 0 r.1.Bridges.length, .osl 5002 0 r.1.Links.length, .osl 5003 0 r.1.Down.length, .osl 5004 0 r.1.AtA.length, .osl 5005 0 r.1.AtB.length, .osl 5006 0 r.1.Radio.length], .d (.bool r.2)]) [⟨5001, 74, 6, r.1.Bridges.length, rows TreeBridge.enc r.1.Bridges⟩, ⟨5002, 70, 3, r.1.Links.length, rows TreeLink.enc r.1.Links⟩, ⟨5003, 3, 1, r.1.Down.length, rows encInt r.1.Down⟩, ⟨5004, 112, 4, r.1.AtA.length, rows TreeSlot.enc r.1.AtA⟩, ⟨5005, 112, 4, r.1.AtB.length, rows TreeSlot.enc r.1.AtB⟩, ⟨5006, 78, 5, r.1.Radio.length, rows TreeWord.enc r.1.Radio⟩] := by
  refine pureC_m tOk (fn := Try.f11) (c := codeOf Try.f11) rfl rfl (by kernel_rfl) rfl rfl (by simp [atomD]) (by simp) (ids_of rfl) ?_
  unfold spec_TreeOpenWorld_m at h
  conv => whnf
  refine seq_in tOk ?_
  conv => whnf
  obtain ⟨x1, hx1, h⟩ := bd_some h
  refine callC 0 (spec_TreeLinksOk_c hx1) (by kernel_rfl) (by kernel_rfl) ?_
  clear hx1
  conv => whnf
  refine And.intro (fun e => ?_) (fun e => ?_)
  · replace h := ite_t h e; clear e
    conv => whnf
    obtain rfl := Option.some.inj h
    refine ⟨⟨0, 50, [(4, .ref 4 0 0), (5, .d (.bool false))], [], [(5006, .arr 78 5 (([] : List TreeWord).length) (rows TreeWord.enc ([] : List TreeWord))), (5005, .arr 112 4 (([] : List TreeSlot).length) (rows TreeSlot.enc ([] : List TreeSlot))), (5004, .arr 112 4 (([] : List TreeSlot).length) (rows TreeSlot.enc ([] : List TreeSlot))), (5003, .arr 3 1 (([] : List Int).length) (rows encInt ([] : List Int))), (5002, .arr 70 3 (([] : List TreeLink).length) (rows TreeLink.enc ([] : List TreeLink))), (5001, .arr 74 6 (([] : List TreeBridge).length) (rows TreeBridge.enc ([] : List TreeBridge))), (4, .box 31 [.osl 5001 0 (([] : List TreeBridge).length), .osl 5002 0 (([] : List TreeLink).length), .osl 5003 0 (([] : List Int).length), .osl 5004 0 (([] : List TreeSlot).length), .osl 5005 0 (([] : List TreeSlot).length), .osl 5006 0 (([] : List TreeWord).length)])], []⟩, ?_, And.intro rfl ?_⟩
    · refine LE.trans (S' := ⟨0, 50, [(4, .ref 4 0 0), (5, .d (.bool false))], [], [(4, .box 31 [.d (.nil), .d (.nil), .d (.nil), .d (.nil), .d (.nil), .d (.nil)])], []⟩) (le_mk ?_ ?_ ?_) (LE.trans (S' := ⟨0, 50, [(4, .ref 4 0 0), (5, .d (.bool false))], [], [(5001, .arr 74 6 (([] : List TreeBridge).length) (rows TreeBridge.enc ([] : List TreeBridge))), (4, .box 31 [.d (.nil), .d (.nil), .d (.nil), .d (.nil), .d (.nil), .d (.nil)])], []⟩) (le_ph 5001 74 6 (rows TreeBridge.enc ([] : List TreeBridge)) rfl rfl) (LE.trans (S' := ⟨0, 50, [(4, .ref 4 0 0), (5, .d (.bool false))], [], [(5001, .arr 74 6 (([] : List TreeBridge).length) (rows TreeBridge.enc ([] : List TreeBridge))), (4, .box 31 [.osl 5001 0 (([] : List TreeBridge).length), .d (.nil), .d (.nil), .d (.nil), .d (.nil), .d (.nil)])], []⟩) (le_mk ?_ ?_ ?_) (LE.trans (S' := ⟨0, 50, [(4, .ref 4 0 0), (5, .d (.bool false))], [], [(5002, .arr 70 3 (([] : List TreeLink).length) (rows TreeLink.enc ([] : List TreeLink))), (5001, .arr 74 6 (([] : List TreeBridge).length) (rows TreeBridge.enc ([] : List TreeBridge))), (4, .box 31 [.osl 5001 0 (([] : List TreeBridge).length), .d (.nil), .d (.nil), .d (.nil), .d (.nil), .d (.nil)])], []⟩) (le_ph 5002 70 3 (rows TreeLink.enc ([] : List TreeLink)) rfl rfl) (LE.trans (S' := ⟨0, 50, [(4, .ref 4 0 0), (5, .d (.bool false))], [], [(5002, .arr 70 3 (([] : List TreeLink).length) (rows TreeLink.enc ([] : List TreeLink))), (5001, .arr 74 6 (([] : List TreeBridge).length) (rows TreeBridge.enc ([] : List TreeBridge))), (4, .box 31 [.osl 5001 0 (([] : List TreeBridge).length), .osl 5002 0 (([] : List TreeLink).length), .d (.nil), .d (.nil), .d (.nil), .d (.nil)])], []⟩) (le_mk ?_ ?_ ?_) (LE.trans (S' := ⟨0, 50, [(4, .ref 4 0 0), (5, .d (.bool false))], [], [(5003, .arr 3 1 (([] : List Int).length) (rows encInt ([] : List Int))), (5002, .arr 70 3 (([] : List TreeLink).length) (rows TreeLink.enc ([] : List TreeLink))), (5001, .arr 74 6 (([] : List TreeBridge).length) (rows TreeBridge.enc ([] : List TreeBridge))), (4, .box 31 [.osl 5001 0 (([] : List TreeBridge).length), .osl 5002 0 (([] : List TreeLink).length), .d (.nil), .d (.nil), .d (.nil), .d (.nil)])], []⟩) (le_ph 5003 3 1 (rows encInt ([] : List Int)) rfl rfl) (LE.trans (S' := ⟨0, 50, [(4, .ref 4 0 0), (5, .d (.bool false))], [], [(5003, .arr 3 1 (([] : List Int).length) (rows encInt ([] : List Int))), (5002, .arr 70 3 (([] : List TreeLink).length) (rows TreeLink.enc ([] : List TreeLink))), (5001, .arr 74 6 (([] : List TreeBridge).length) (rows TreeBridge.enc ([] : List TreeBridge))), (4, .box 31 [.osl 5001 0 (([] : List TreeBridge).length), .osl 5002 0 (([] : List TreeLink).length), .osl 5003 0 (([] : List Int).length), .d (.nil), .d (.nil), .d (.nil)])], []⟩) (le_mk ?_ ?_ ?_) (LE.trans (S' := ⟨0, 50, [(4, .ref 4 0 0), (5, .d (.bool false))], [], [(5004, .arr 112 4 (([] : List TreeSlot).length) (rows TreeSlot.enc ([] : List TreeSlot))), (5003, .arr 3 1 (([] : List Int).length) (rows encInt ([] : List Int))), (5002, .arr 70 3 (([] : List TreeLink).length) (rows TreeLink.enc ([] : List TreeLink))), (5001, .arr 74 6 (([] : List TreeBridge).length) (rows TreeBridge.enc ([] : List TreeBridge))), (4, .box 31 [.osl 5001 0 (([] : List TreeBridge).length), .osl 5002 0 (([] : List TreeLink).length), .osl 5003 0 (([] : List Int).length), .d (.nil), .d (.nil), .d (.nil)])], []⟩) (le_ph 5004 112 4 (rows TreeSlot.enc ([] : List TreeSlot)) rfl rfl) (LE.trans (S' := ⟨0, 50, [(4, .ref 4 0 0), (5, .d (.bool false))], [], [(5004, .arr 112 4 (([] : List TreeSlot).length) (rows TreeSlot.enc ([] : List TreeSlot))), (5003, .arr 3 1 (([] : List Int).length) (rows encInt ([] : List Int))), (5002, .arr 70 3 (([] : List TreeLink).length) (rows TreeLink.enc ([] : List TreeLink))), (5001, .arr 74 6 (([] : List TreeBridge).length) (rows TreeBridge.enc ([] : List TreeBridge))), (4, .box 31 [.osl 5001 0 (([] : List TreeBridge).length), .osl 5002 0 (([] : List TreeLink).length), .osl 5003 0 (([] : List Int).length), .osl 5004 0 (([] : List TreeSlot).length), .d (.nil), .d (.nil)])], []⟩) (le_mk ?_ ?_ ?_) (LE.trans (S' := ⟨0, 50, [(4, .ref 4 0 0), (5, .d (.bool false))], [], [(5005, .arr 112 4 (([] : List TreeSlot).length) (rows TreeSlot.enc ([] : List TreeSlot))), (5004, .arr 112 4 (([] : List TreeSlot).length) (rows TreeSlot.enc ([] : List TreeSlot))), (5003, .arr 3 1 (([] : List Int).length) (rows encInt ([] : List Int))), (5002, .arr 70 3 (([] : List TreeLink).length) (rows TreeLink.enc ([] : List TreeLink))), (5001, .arr 74 6 (([] : List TreeBridge).length) (rows TreeBridge.enc ([] : List TreeBridge))), (4, .box 31 [.osl 5001 0 (([] : List TreeBridge).length), .osl 5002 0 (([] : List TreeLink).length), .osl 5003 0 (([] : List Int).length), .osl 5004 0 (([] : List TreeSlot).length), .d (.nil), .d (.nil)])], []⟩) (le_ph 5005 112 4 (rows TreeSlot.enc ([] : List TreeSlot)) rfl rfl) (LE.trans (S' := ⟨0, 50, [(4, .ref 4 0 0), (5, .d (.bool false))], [], [(5005, .arr 112 4 (([] : List TreeSlot).length) (rows TreeSlot.enc ([] : List TreeSlot))), (5004, .arr 112 4 (([] : List TreeSlot).length) (rows TreeSlot.enc ([] : List TreeSlot))), (5003, .arr 3 1 (([] : List Int).length) (rows encInt ([] : List Int))), (5002, .arr 70 3 (([] : List TreeLink).length) (rows TreeLink.enc ([] : List TreeLink))), (5001, .arr 74 6 (([] : List TreeBridge).length) (rows TreeBridge.enc ([] : List TreeBridge))), (4, .box 31 [.osl 5001 0 (([] : List TreeBridge).length), .osl 5002 0 (([] : List TreeLink).length), .osl 5003 0 (([] : List Int).length), .osl 5004 0 (([] : List TreeSlot).length), .osl 5005 0 (([] : List TreeSlot).length), .d (.nil)])], []⟩) (le_mk ?_ ?_ ?_) (LE.trans (S' := ⟨0, 50, [(4, .ref 4 0 0), (5, .d (.bool false))], [], [(5006, .arr 78 5 (([] : List TreeWord).length) (rows TreeWord.enc ([] : List TreeWord))), (5005, .arr 112 4 (([] : List TreeSlot).length) (rows TreeSlot.enc ([] : List TreeSlot))), (5004, .arr 112 4 (([] : List TreeSlot).length) (rows TreeSlot.enc ([] : List TreeSlot))), (5003, .arr 3 1 (([] : List Int).length) (rows encInt ([] : List Int))), (5002, .arr 70 3 (([] : List TreeLink).length) (rows TreeLink.enc ([] : List TreeLink))), (5001, .arr 74 6 (([] : List TreeBridge).length) (rows TreeBridge.enc ([] : List TreeBridge))), (4, .box 31 [.osl 5001 0 (([] : List TreeBridge).length), .osl 5002 0 (([] : List TreeLink).length), .osl 5003 0 (([] : List Int).length), .osl 5004 0 (([] : List TreeSlot).length), .osl 5005 0 (([] : List TreeSlot).length), .d (.nil)])], []⟩) (le_ph 5006 78 5 (rows TreeWord.enc ([] : List TreeWord)) rfl rfl) (le_mk ?_ ?_ ?_)))))))))))) <;> (repeat' first | ((conv => whnf); first | exact trivial | refine And.intro ?_ ?_ | exact BLe.refl _ | exact VLe.refl _) | exact trivial | exact rfl | refine And.intro ?_ ?_ | exact BLe.refl _ | exact VLe.refl _ | exact VLe.any _ | exact VLe.nil_osl rfl | exact VLe.nil_sl rfl | exact VLe.built rfl rfl | (refine VLe.osl rfl ?_; (first | rfl | (simp; done) | assumption | (simp [dsub_eq] <;> omega) | omega)) | exact VLe.rows (by first | rfl | (simp; done) | assumption | (simp [dsub_eq] <;> omega) | omega) (fun _ _ => rfl) | exact VLe.rows (by simp [dsub_eq] <;> omega) rows_take | exact VLe.rows (by simp [dsub_eq] <;> omega) rows_dt | exact VLe.rows (by simp [dsub_eq] <;> omega) rows_vt | exact VLe.rows (by simp) (fun i _ => by simp [viewRow_eq, Nat.add_comm]) | refine VLe.aggL ?_ | (refine BLe.rows rfl ?_ fun _ _ => rfl; (first | rfl | (simp; done) | assumption | (simp [dsub_eq] <;> omega) | omega)) | (refine BLe.rows rfl rfl ?_; first | exact rows_take) | refine BLe.box ?_)
    · exact And.intro (And.intro rfl (And.intro rfl (fun _ _ => rfl))) (And.intro (And.intro rfl (And.intro rfl (fun _ _ => rfl))) (And.intro (And.intro rfl (And.intro rfl (fun _ _ => rfl))) (And.intro (And.intro rfl (And.intro rfl (fun _ _ => rfl))) (And.intro (And.intro rfl (And.intro rfl (fun _ _ => rfl))) (And.intro (And.intro rfl (And.intro rfl (fun _ _ => rfl))) (trivial))))))
  · replace h := ite_f h e; clear e
    conv => whnf
    obtain ⟨g2, h⟩ := gd_some h
    obtain ⟨g3, h⟩ := gd_some h
    refine draw_k tOk (by kernel_rfl) (fun _ => none) 10 [] [[], [], [], [false, false, true], [false, false, true, true], [], [false, false, false, false, false, true], [false, false, false, false, false, true, true], [true, true, true, true, true, true, true, true], []] [[true, true, true, true, true, true, true, true, true, true]] (by decide) (by kernel_rfl) (by kernel_rfl) ?_
    conv => whnf
    refine And.intro g2 ?_
    clear g2
    refine ⟨(List.replicate (((a1.length : Nat) : Int) : Int).toNat (default : TreeSlot)).length, rows TreeSlot.enc (List.replicate (((a1.length : Nat) : Int) : Int).toNat (default : TreeSlot)), by simp, make_rows rfl, ?_⟩
    conv => whnf
    refine And.intro g3 ?_
    clear g3
    refine ⟨(List.replicate (((a1.length : Nat) : Int) : Int).toNat (default : TreeSlot)).length, rows TreeSlot.enc (List.replicate (((a1.length : Nat) : Int) : Int).toNat (default : TreeSlot)), by simp, make_rows rfl, ?_⟩
    conv => whnf
    refine And.intro (by kernel_rfl) ?_
    conv => whnf
    refine seq_in tOk ?_
    conv => whnf
    obtain ⟨x7, hx7, h⟩ := bd_some h
    refine loop_m tOk hx7 (fun s4 => ⟨0, 50, [(0, .d (slD encInt a0)), (4, .ref 4 0 0), (6, .ref 6 0 0), (7, .d (.int .i64 s4.2))], [], [(7001, .arr 74 6 s4.1.length (rows TreeBridge.enc s4.1)), (6, .box 31 [.osl 7001 0 s4.1.length, .d (slD TreeLink.enc a1), .d (.nil), .osl 18 0 ((List.replicate (((a1.length : Nat) : Int) : Int).toNat (default : TreeSlot)).length), .osl 21 0 ((List.replicate (((a1.length : Nat) : Int) : Int).toNat (default : TreeSlot)).length), .d (.nil)]), (21, .arr 112 4 ((List.replicate (((a1.length : Nat) : Int) : Int).toNat (default : TreeSlot)).length) (rows TreeSlot.enc (List.replicate (((a1.length : Nat) : Int) : Int).toNat (default : TreeSlot)))), (18, .arr 112 4 ((List.replicate (((a1.length : Nat) : Int) : Int).toNat (default : TreeSlot)).length) (rows TreeSlot.enc (List.replicate (((a1.length : Nat) : Int) : Int).toNat (default : TreeSlot)))), (4, .box 31 [.d (.nil), .d (.nil), .d (.nil), .d (.nil), .d (.nil), .d (.nil)])], []⟩) ?_ ?_
    · refine LE.trans (S' := ⟨0, 50, [(0, .d (slD encInt a0)), (4, .ref 4 0 0), (6, .ref 6 0 0), (7, .d (.int .i64 0))], [], [(6, .box 31 [.d (.nil), .d (slD TreeLink.enc a1), .d (.nil), .osl 18 0 ((List.replicate (((a1.length : Nat) : Int) : Int).toNat (default : TreeSlot)).length), .osl 21 0 ((List.replicate (((a1.length : Nat) : Int) : Int).toNat (default : TreeSlot)).length), .d (.nil)]), (21, .arr 112 4 ((List.replicate (((a1.length : Nat) : Int) : Int).toNat (default : TreeSlot)).length) (rows TreeSlot.enc (List.replicate (((a1.length : Nat) : Int) : Int).toNat (default : TreeSlot)))), (18, .arr 112 4 ((List.replicate (((a1.length : Nat) : Int) : Int).toNat (default : TreeSlot)).length) (rows TreeSlot.enc (List.replicate (((a1.length : Nat) : Int) : Int).toNat (default : TreeSlot)))), (4, .box 31 [.d (.nil), .d (.nil), .d (.nil), .d (.nil), .d (.nil), .d (.nil)])], []⟩) (le_mk ?_ ?_ ?_) (LE.trans (S' := ⟨0, 50, [(0, .d (slD encInt a0)), (4, .ref 4 0 0), (6, .ref 6 0 0), (7, .d (.int .i64 0))], [], [(7001, .arr 74 6 (([] : List TreeBridge).length) (rows TreeBridge.enc ([] : List TreeBridge))), (6, .box 31 [.d (.nil), .d (slD TreeLink.enc a1), .d (.nil), .osl 18 0 ((List.replicate (((a1.length : Nat) : Int) : Int).toNat (default : TreeSlot)).length), .osl 21 0 ((List.replicate (((a1.length : Nat) : Int) : Int).toNat (default : TreeSlot)).length), .d (.nil)]), (21, .arr 112 4 ((List.replicate (((a1.length : Nat) : Int) : Int).toNat (default : TreeSlot)).length) (rows TreeSlot.enc (List.replicate (((a1.length : Nat) : Int) : Int).toNat (default : TreeSlot)))), (18, .arr 112 4 ((List.replicate (((a1.length : Nat) : Int) : Int).toNat (default : TreeSlot)).length) (rows TreeSlot.enc (List.replicate (((a1.length : Nat) : Int) : Int).toNat (default : TreeSlot)))), (4, .box 31 [.d (.nil), .d (.nil), .d (.nil), .d (.nil), .d (.nil), .d (.nil)])], []⟩) (le_ph 7001 74 6 (rows TreeBridge.enc ([] : List TreeBridge)) rfl rfl) (le_mk ?_ ?_ ?_)) <;> (repeat' first | ((conv => whnf); first | exact trivial | refine And.intro ?_ ?_ | exact BLe.refl _ | exact VLe.refl _) | exact trivial | exact rfl | refine And.intro ?_ ?_ | exact BLe.refl _ | exact VLe.refl _ | exact VLe.any _ | exact VLe.nil_osl rfl | exact VLe.nil_sl rfl | exact VLe.built rfl rfl | (refine VLe.osl rfl ?_; (first | rfl | (simp; done) | assumption | (simp [dsub_eq] <;> omega) | omega)) | exact VLe.rows (by first | rfl | (simp; done) | assumption | (simp [dsub_eq] <;> omega) | omega) (fun _ _ => rfl) | exact VLe.rows (by simp [dsub_eq] <;> omega) rows_take | exact VLe.rows (by simp [dsub_eq] <;> omega) rows_dt | exact VLe.rows (by simp [dsub_eq] <;> omega) rows_vt | exact VLe.rows (by simp) (fun i _ => by simp [viewRow_eq, Nat.add_comm]) | refine VLe.aggL ?_ | (refine BLe.rows rfl ?_ fun _ _ => rfl; (first | rfl | (simp; done) | assumption | (simp [dsub_eq] <;> omega) | omega)) | (refine BLe.rows rfl rfl ?_; first | exact rows_take) | refine BLe.box ?_)
    · clear hx7
      intro s4 y5 g6 hy5
      conv => whnf
      refine seq_in tOk ?_
      conv => whnf
      refine And.intro (fun e => ?_) (fun e => ?_)
      · replace g6 := ite_t g6 e; clear e
        conv => whnf
        refine seq_in tOk ?_
        conv => whnf
        obtain ⟨g8, g6⟩ := gd_some g6
        obtain ⟨g9, g6⟩ := gd_some g6
        obtain ⟨x10, hx10, g6⟩ := bd_some g6
        refine draw_k tOk (by kernel_rfl) (fun j => match j with | 10 => some (.pure 0 (.agg [.d (.int .i64 x10.Vector.Root), .d (.int .i64 x10.Vector.Cost), .d (.int .i64 x10.Vector.Age), .d (.int .i64 x10.Link)]) []) | _ => none) 13 [] [[], [true], [], [], [false, false, true, true], [false, false, true, true, true], [], [], [false, false, false, false, false, false, true, true], [false, false, false, false, false, false, true, true, true], [false, false, false, false, false, false, true, true, true, true], [false, false, true, true, true, true, true, true, true, true, true], [false, false, true, true, true, true, true, true, true, true, true, true]] [[true, true, true, true, true, true, true, true, true, true, true, true, true], [true, true, true, true, true, true, true, true, true, true, true, true, true, true], [true, true, true, true, true, true, true, true, true, true, true, true, true, true, true]] (by decide) (by kernel_rfl) (by kernel_rfl) ?_
        conv => whnf
        refine And.intro g8 ?_
        clear g8
        conv => whnf
        refine And.intro g9 ?_
        clear g9
        conv => whnf
        refine And.intro (callD_any (spec_l82Self_c hx10) (by kernel_rfl)) ?_
        conv => whnf
        refine ⟨([(⟨(a0.getD s4.2.toNat default), true, x10⟩ : TreeBridge)] : List TreeBridge).length, rows TreeBridge.enc ([(⟨(a0.getD s4.2.toNat default), true, x10⟩ : TreeBridge)] : List TreeBridge), rfl, build_rows, ?_⟩
        conv => whnf
        refine And.intro (by kernel_rfl) ?_
        conv => whnf
        obtain ⟨g11, g6⟩ := gd_some g6
        refine And.intro g11 ?_
        clear g11
        refine ⟨(s4.1 ++ ([(⟨(a0.getD s4.2.toNat default), true, x10⟩ : TreeBridge)] : List TreeBridge)).length, rows TreeBridge.enc (s4.1 ++ ([(⟨(a0.getD s4.2.toNat default), true, x10⟩ : TreeBridge)] : List TreeBridge)), (by first | rfl | (simp; done) | assumption | (simp [dsub_eq] <;> omega) | omega), (by first | exact app_rows (m := ([(⟨(a0.getD s4.2.toNat default), true, x10⟩ : TreeBridge)] : List TreeBridge).length) (by first | rfl | (simp; done) | assumption | (simp [dsub_eq] <;> omega) | omega) (by first | rfl | (simp; done) | assumption | (simp [dsub_eq] <;> omega) | omega) (fun _ _ => rfl) (fun _ _ => rfl) | exact app_rows0 (m := ([(⟨(a0.getD s4.2.toNat default), true, x10⟩ : TreeBridge)] : List TreeBridge).length) (by first | rfl | (simp; done) | assumption | (simp [dsub_eq] <;> omega) | omega) (fun _ _ => rfl) | exact app_rows (m := ([(⟨(a0.getD s4.2.toNat default), true, x10⟩ : TreeBridge)] : List TreeBridge).length) (by first | rfl | (simp; done) | assumption | (simp [dsub_eq] <;> omega) | omega) (by first | rfl | (simp; done) | assumption | (simp [dsub_eq] <;> omega) | omega) (by first | exact fun _ _ => rfl | exact rows_take | (intro i hi; simp only [viewRow_eq, addOff_eq, Int.toNat_zero, Nat.zero_add, Nat.add_zero]; exact rows_take i hi) | exact rows_vt | exact rows_dt | (intro i hi; simp only [viewRow_eq, Nat.zero_add]) | (intro i hi; simp [viewRow_eq])) (by first | exact fun _ _ => rfl | exact rows_take | (intro i hi; simp only [viewRow_eq, addOff_eq, Int.toNat_zero, Nat.zero_add, Nat.add_zero]; exact rows_take i hi) | exact rows_vt | exact rows_dt | (intro i hi; simp only [viewRow_eq, Nat.zero_add]) | (intro i hi; simp [viewRow_eq])) | exact app_rows0 (m := ([(⟨(a0.getD s4.2.toNat default), true, x10⟩ : TreeBridge)] : List TreeBridge).length) (by first | rfl | (simp; done) | assumption | (simp [dsub_eq] <;> omega) | omega) (by first | exact fun _ _ => rfl | exact rows_take | (intro i hi; simp only [viewRow_eq, addOff_eq, Int.toNat_zero, Nat.zero_add, Nat.add_zero]; exact rows_take i hi) | exact rows_vt | exact rows_dt | (intro i hi; simp only [viewRow_eq, Nat.zero_add]) | (intro i hi; simp [viewRow_eq]))), ?_⟩
        conv => whnf
        obtain rfl := Option.some.inj g6
        refine ⟨_, rfl, le_mk ?_ ?_ ?_⟩ <;> (repeat' first | ((conv => whnf); first | exact trivial | refine And.intro ?_ ?_ | exact BLe.refl _ | exact VLe.refl _) | exact trivial | exact rfl | refine And.intro ?_ ?_ | exact BLe.refl _ | exact VLe.refl _ | exact VLe.any _ | exact VLe.nil_osl rfl | exact VLe.nil_sl rfl | exact VLe.built rfl rfl | (refine VLe.osl rfl ?_; (first | rfl | (simp; done) | assumption | (simp [dsub_eq] <;> omega) | omega)) | exact VLe.rows (by first | rfl | (simp; done) | assumption | (simp [dsub_eq] <;> omega) | omega) (fun _ _ => rfl) | exact VLe.rows (by simp [dsub_eq] <;> omega) rows_take | exact VLe.rows (by simp [dsub_eq] <;> omega) rows_dt | exact VLe.rows (by simp [dsub_eq] <;> omega) rows_vt | exact VLe.rows (by simp) (fun i _ => by simp [viewRow_eq, Nat.add_comm]) | refine VLe.aggL ?_ | (refine BLe.rows rfl ?_ fun _ _ => rfl; (first | rfl | (simp; done) | assumption | (simp [dsub_eq] <;> omega) | omega)) | (refine BLe.rows rfl rfl ?_; first | exact rows_take) | refine BLe.box ?_)
      · replace g6 := ite_f g6 e; clear e
        conv => whnf
        obtain rfl := Option.some.inj g6
        obtain rfl := hy5 _ rfl
        refine seq_in tOk ?_
        conv => whnf
        obtain ⟨x13, hx13, h⟩ := bd_some h
        refine callW (args1 := [.agg [.d (.sl (s4.1, s4.1.length).2 (rows TreeBridge.enc (s4.1, s4.1.length).1)), .d (slD TreeLink.enc a1), .d (.nil), .d (slD TreeSlot.enc (List.replicate (((a1.length : Nat) : Int) : Int).toNat (default : TreeSlot))), .d (slD TreeSlot.enc (List.replicate (((a1.length : Nat) : Int) : Int).toNat (default : TreeSlot))), .d (.nil)]]) 0 (spec_TreeWorldOk_c hx13) (by kernel_rfl) (by (repeat' first | ((conv => whnf); first | exact trivial | refine And.intro ?_ ?_ | exact BLe.refl _ | exact VLe.refl _) | exact trivial | refine And.intro ?_ ?_ | exact VLe.refl _ | exact VLe.any _ | exact VLe.nil_osl rfl | exact VLe.nil_sl rfl | exact VLe.built rfl rfl | (refine VLe.osl rfl ?_; (first | rfl | (simp; done) | assumption | (simp [dsub_eq] <;> omega) | omega)) | exact VLe.rows (by first | rfl | (simp; done) | assumption | (simp [dsub_eq] <;> omega) | omega) (fun _ _ => rfl) | exact VLe.rows (by simp [dsub_eq] <;> omega) rows_take | exact VLe.rows (by simp [dsub_eq] <;> omega) rows_dt | exact VLe.rows (by simp [dsub_eq] <;> omega) rows_vt | exact VLe.rows (by simp) (fun i _ => by simp [viewRow_eq, Nat.add_comm]) | refine VLe.aggL ?_)) (by kernel_rfl) ?_
        conv => whnf
        refine And.intro (fun e => ?_) (fun e => ?_)
        · replace h := ite_t h e; clear e
          conv => whnf
          obtain rfl := Option.some.inj h
          refine ⟨⟨0, 50, [(4, .ref 4 0 0), (5, .d (.bool false))], [], [(5006, .arr 78 5 (([] : List TreeWord).length) (rows TreeWord.enc ([] : List TreeWord))), (5005, .arr 112 4 (([] : List TreeSlot).length) (rows TreeSlot.enc ([] : List TreeSlot))), (5004, .arr 112 4 (([] : List TreeSlot).length) (rows TreeSlot.enc ([] : List TreeSlot))), (5003, .arr 3 1 (([] : List Int).length) (rows encInt ([] : List Int))), (5002, .arr 70 3 (([] : List TreeLink).length) (rows TreeLink.enc ([] : List TreeLink))), (5001, .arr 74 6 (([] : List TreeBridge).length) (rows TreeBridge.enc ([] : List TreeBridge))), (4, .box 31 [.osl 5001 0 (([] : List TreeBridge).length), .osl 5002 0 (([] : List TreeLink).length), .osl 5003 0 (([] : List Int).length), .osl 5004 0 (([] : List TreeSlot).length), .osl 5005 0 (([] : List TreeSlot).length), .osl 5006 0 (([] : List TreeWord).length)])], []⟩, ?_, And.intro rfl ?_⟩
          · refine LE.trans (S' := ⟨0, 50, [(4, .ref 4 0 0), (5, .d (.bool false))], [], [(4, .box 31 [.d (.nil), .d (.nil), .d (.nil), .d (.nil), .d (.nil), .d (.nil)])], []⟩) (le_mk ?_ ?_ ?_) (LE.trans (S' := ⟨0, 50, [(4, .ref 4 0 0), (5, .d (.bool false))], [], [(5001, .arr 74 6 (([] : List TreeBridge).length) (rows TreeBridge.enc ([] : List TreeBridge))), (4, .box 31 [.d (.nil), .d (.nil), .d (.nil), .d (.nil), .d (.nil), .d (.nil)])], []⟩) (le_ph 5001 74 6 (rows TreeBridge.enc ([] : List TreeBridge)) rfl rfl) (LE.trans (S' := ⟨0, 50, [(4, .ref 4 0 0), (5, .d (.bool false))], [], [(5001, .arr 74 6 (([] : List TreeBridge).length) (rows TreeBridge.enc ([] : List TreeBridge))), (4, .box 31 [.osl 5001 0 (([] : List TreeBridge).length), .d (.nil), .d (.nil), .d (.nil), .d (.nil), .d (.nil)])], []⟩) (le_mk ?_ ?_ ?_) (LE.trans (S' := ⟨0, 50, [(4, .ref 4 0 0), (5, .d (.bool false))], [], [(5002, .arr 70 3 (([] : List TreeLink).length) (rows TreeLink.enc ([] : List TreeLink))), (5001, .arr 74 6 (([] : List TreeBridge).length) (rows TreeBridge.enc ([] : List TreeBridge))), (4, .box 31 [.osl 5001 0 (([] : List TreeBridge).length), .d (.nil), .d (.nil), .d (.nil), .d (.nil), .d (.nil)])], []⟩) (le_ph 5002 70 3 (rows TreeLink.enc ([] : List TreeLink)) rfl rfl) (LE.trans (S' := ⟨0, 50, [(4, .ref 4 0 0), (5, .d (.bool false))], [], [(5002, .arr 70 3 (([] : List TreeLink).length) (rows TreeLink.enc ([] : List TreeLink))), (5001, .arr 74 6 (([] : List TreeBridge).length) (rows TreeBridge.enc ([] : List TreeBridge))), (4, .box 31 [.osl 5001 0 (([] : List TreeBridge).length), .osl 5002 0 (([] : List TreeLink).length), .d (.nil), .d (.nil), .d (.nil), .d (.nil)])], []⟩) (le_mk ?_ ?_ ?_) (LE.trans (S' := ⟨0, 50, [(4, .ref 4 0 0), (5, .d (.bool false))], [], [(5003, .arr 3 1 (([] : List Int).length) (rows encInt ([] : List Int))), (5002, .arr 70 3 (([] : List TreeLink).length) (rows TreeLink.enc ([] : List TreeLink))), (5001, .arr 74 6 (([] : List TreeBridge).length) (rows TreeBridge.enc ([] : List TreeBridge))), (4, .box 31 [.osl 5001 0 (([] : List TreeBridge).length), .osl 5002 0 (([] : List TreeLink).length), .d (.nil), .d (.nil), .d (.nil), .d (.nil)])], []⟩) (le_ph 5003 3 1 (rows encInt ([] : List Int)) rfl rfl) (LE.trans (S' := ⟨0, 50, [(4, .ref 4 0 0), (5, .d (.bool false))], [], [(5003, .arr 3 1 (([] : List Int).length) (rows encInt ([] : List Int))), (5002, .arr 70 3 (([] : List TreeLink).length) (rows TreeLink.enc ([] : List TreeLink))), (5001, .arr 74 6 (([] : List TreeBridge).length) (rows TreeBridge.enc ([] : List TreeBridge))), (4, .box 31 [.osl 5001 0 (([] : List TreeBridge).length), .osl 5002 0 (([] : List TreeLink).length), .osl 5003 0 (([] : List Int).length), .d (.nil), .d (.nil), .d (.nil)])], []⟩) (le_mk ?_ ?_ ?_) (LE.trans (S' := ⟨0, 50, [(4, .ref 4 0 0), (5, .d (.bool false))], [], [(5004, .arr 112 4 (([] : List TreeSlot).length) (rows TreeSlot.enc ([] : List TreeSlot))), (5003, .arr 3 1 (([] : List Int).length) (rows encInt ([] : List Int))), (5002, .arr 70 3 (([] : List TreeLink).length) (rows TreeLink.enc ([] : List TreeLink))), (5001, .arr 74 6 (([] : List TreeBridge).length) (rows TreeBridge.enc ([] : List TreeBridge))), (4, .box 31 [.osl 5001 0 (([] : List TreeBridge).length), .osl 5002 0 (([] : List TreeLink).length), .osl 5003 0 (([] : List Int).length), .d (.nil), .d (.nil), .d (.nil)])], []⟩) (le_ph 5004 112 4 (rows TreeSlot.enc ([] : List TreeSlot)) rfl rfl) (LE.trans (S' := ⟨0, 50, [(4, .ref 4 0 0), (5, .d (.bool false))], [], [(5004, .arr 112 4 (([] : List TreeSlot).length) (rows TreeSlot.enc ([] : List TreeSlot))), (5003, .arr 3 1 (([] : List Int).length) (rows encInt ([] : List Int))), (5002, .arr 70 3 (([] : List TreeLink).length) (rows TreeLink.enc ([] : List TreeLink))), (5001, .arr 74 6 (([] : List TreeBridge).length) (rows TreeBridge.enc ([] : List TreeBridge))), (4, .box 31 [.osl 5001 0 (([] : List TreeBridge).length), .osl 5002 0 (([] : List TreeLink).length), .osl 5003 0 (([] : List Int).length), .osl 5004 0 (([] : List TreeSlot).length), .d (.nil), .d (.nil)])], []⟩) (le_mk ?_ ?_ ?_) (LE.trans (S' := ⟨0, 50, [(4, .ref 4 0 0), (5, .d (.bool false))], [], [(5005, .arr 112 4 (([] : List TreeSlot).length) (rows TreeSlot.enc ([] : List TreeSlot))), (5004, .arr 112 4 (([] : List TreeSlot).length) (rows TreeSlot.enc ([] : List TreeSlot))), (5003, .arr 3 1 (([] : List Int).length) (rows encInt ([] : List Int))), (5002, .arr 70 3 (([] : List TreeLink).length) (rows TreeLink.enc ([] : List TreeLink))), (5001, .arr 74 6 (([] : List TreeBridge).length) (rows TreeBridge.enc ([] : List TreeBridge))), (4, .box 31 [.osl 5001 0 (([] : List TreeBridge).length), .osl 5002 0 (([] : List TreeLink).length), .osl 5003 0 (([] : List Int).length), .osl 5004 0 (([] : List TreeSlot).length), .d (.nil), .d (.nil)])], []⟩) (le_ph 5005 112 4 (rows TreeSlot.enc ([] : List TreeSlot)) rfl rfl) (LE.trans (S' := ⟨0, 50, [(4, .ref 4 0 0), (5, .d (.bool false))], [], [(5005, .arr 112 4 (([] : List TreeSlot).length) (rows TreeSlot.enc ([] : List TreeSlot))), (5004, .arr 112 4 (([] : List TreeSlot).length) (rows TreeSlot.enc ([] : List TreeSlot))), (5003, .arr 3 1 (([] : List Int).length) (rows encInt ([] : List Int))), (5002, .arr 70 3 (([] : List TreeLink).length) (rows TreeLink.enc ([] : List TreeLink))), (5001, .arr 74 6 (([] : List TreeBridge).length) (rows TreeBridge.enc ([] : List TreeBridge))), (4, .box 31 [.osl 5001 0 (([] : List TreeBridge).length), .osl 5002 0 (([] : List TreeLink).length), .osl 5003 0 (([] : List Int).length), .osl 5004 0 (([] : List TreeSlot).length), .osl 5005 0 (([] : List TreeSlot).length), .d (.nil)])], []⟩) (le_mk ?_ ?_ ?_) (LE.trans (S' := ⟨0, 50, [(4, .ref 4 0 0), (5, .d (.bool false))], [], [(5006, .arr 78 5 (([] : List TreeWord).length) (rows TreeWord.enc ([] : List TreeWord))), (5005, .arr 112 4 (([] : List TreeSlot).length) (rows TreeSlot.enc ([] : List TreeSlot))), (5004, .arr 112 4 (([] : List TreeSlot).length) (rows TreeSlot.enc ([] : List TreeSlot))), (5003, .arr 3 1 (([] : List Int).length) (rows encInt ([] : List Int))), (5002, .arr 70 3 (([] : List TreeLink).length) (rows TreeLink.enc ([] : List TreeLink))), (5001, .arr 74 6 (([] : List TreeBridge).length) (rows TreeBridge.enc ([] : List TreeBridge))), (4, .box 31 [.osl 5001 0 (([] : List TreeBridge).length), .osl 5002 0 (([] : List TreeLink).length), .osl 5003 0 (([] : List Int).length), .osl 5004 0 (([] : List TreeSlot).length), .osl 5005 0 (([] : List TreeSlot).length), .d (.nil)])], []⟩) (le_ph 5006 78 5 (rows TreeWord.enc ([] : List TreeWord)) rfl rfl) (le_mk ?_ ?_ ?_)))))))))))) <;> (repeat' first | ((conv => whnf); first | exact trivial | refine And.intro ?_ ?_ | exact BLe.refl _ | exact VLe.refl _) | exact trivial | exact rfl | refine And.intro ?_ ?_ | exact BLe.refl _ | exact VLe.refl _ | exact VLe.any _ | exact VLe.nil_osl rfl | exact VLe.nil_sl rfl | exact VLe.built rfl rfl | (refine VLe.osl rfl ?_; (first | rfl | (simp; done) | assumption | (simp [dsub_eq] <;> omega) | omega)) | exact VLe.rows (by first | rfl | (simp; done) | assumption | (simp [dsub_eq] <;> omega) | omega) (fun _ _ => rfl) | exact VLe.rows (by simp [dsub_eq] <;> omega) rows_take | exact VLe.rows (by simp [dsub_eq] <;> omega) rows_dt | exact VLe.rows (by simp [dsub_eq] <;> omega) rows_vt | exact VLe.rows (by simp) (fun i _ => by simp [viewRow_eq, Nat.add_comm]) | refine VLe.aggL ?_ | (refine BLe.rows rfl ?_ fun _ _ => rfl; (first | rfl | (simp; done) | assumption | (simp [dsub_eq] <;> omega) | omega)) | (refine BLe.rows rfl rfl ?_; first | exact rows_take) | refine BLe.box ?_)
          · exact And.intro (And.intro rfl (And.intro rfl (fun _ _ => rfl))) (And.intro (And.intro rfl (And.intro rfl (fun _ _ => rfl))) (And.intro (And.intro rfl (And.intro rfl (fun _ _ => rfl))) (And.intro (And.intro rfl (And.intro rfl (fun _ _ => rfl))) (And.intro (And.intro rfl (And.intro rfl (fun _ _ => rfl))) (And.intro (And.intro rfl (And.intro rfl (fun _ _ => rfl))) (trivial))))))
        · replace h := ite_f h e; clear e
          conv => whnf
          obtain ⟨x14, hx14, h⟩ := bd_some h
          refine callW (args1 := [.agg [.d (.sl (s4.1, s4.1.length).2 (rows TreeBridge.enc (s4.1, s4.1.length).1)), .d (slD TreeLink.enc a1), .d (.nil), .d (slD TreeSlot.enc (List.replicate (((a1.length : Nat) : Int) : Int).toNat (default : TreeSlot))), .d (slD TreeSlot.enc (List.replicate (((a1.length : Nat) : Int) : Int).toNat (default : TreeSlot))), .d (.nil)]]) 1000 (spec_l82Copy_c hx14) (by kernel_rfl) (by (repeat' first | ((conv => whnf); first | exact trivial | refine And.intro ?_ ?_ | exact BLe.refl _ | exact VLe.refl _) | exact trivial | refine And.intro ?_ ?_ | exact VLe.refl _ | exact VLe.any _ | exact VLe.nil_osl rfl | exact VLe.nil_sl rfl | exact VLe.built rfl rfl | (refine VLe.osl rfl ?_; (first | rfl | (simp; done) | assumption | (simp [dsub_eq] <;> omega) | omega)) | exact VLe.rows (by first | rfl | (simp; done) | assumption | (simp [dsub_eq] <;> omega) | omega) (fun _ _ => rfl) | exact VLe.rows (by simp [dsub_eq] <;> omega) rows_take | exact VLe.rows (by simp [dsub_eq] <;> omega) rows_dt | exact VLe.rows (by simp [dsub_eq] <;> omega) rows_vt | exact VLe.rows (by simp) (fun i _ => by simp [viewRow_eq, Nat.add_comm]) | refine VLe.aggL ?_)) (by kernel_rfl) ?_
          conv => whnf
          obtain rfl := Option.some.inj h
          refine ⟨⟨0, 50, [(4, .ref 4 0 0), (5, .d (.bool true))], [], [(5006, .arr 78 5 x14.Radio.length (rows TreeWord.enc x14.Radio)), (5005, .arr 112 4 x14.AtB.length (rows TreeSlot.enc x14.AtB)), (5004, .arr 112 4 x14.AtA.length (rows TreeSlot.enc x14.AtA)), (5003, .arr 3 1 x14.Down.length (rows encInt x14.Down)), (5002, .arr 70 3 x14.Links.length (rows TreeLink.enc x14.Links)), (5001, .arr 74 6 x14.Bridges.length (rows TreeBridge.enc x14.Bridges)), (4, .box 31 [.osl 5001 0 x14.Bridges.length, .osl 5002 0 x14.Links.length, .osl 5003 0 x14.Down.length, .osl 5004 0 x14.AtA.length, .osl 5005 0 x14.AtB.length, .osl 5006 0 x14.Radio.length])], []⟩, ?_, And.intro rfl ?_⟩
          · refine LE.trans (S' := ⟨0, 50, [(4, .ref 4 0 0), (5, .d (.bool true))], [], [(6006, .arr 78 5 x14.Radio.length (rows TreeWord.enc x14.Radio)), (6005, .arr 112 4 x14.AtB.length (rows TreeSlot.enc x14.AtB)), (6004, .arr 112 4 x14.AtA.length (rows TreeSlot.enc x14.AtA)), (6003, .arr 3 1 x14.Down.length (rows encInt x14.Down)), (6002, .arr 70 3 x14.Links.length (rows TreeLink.enc x14.Links)), (6001, .arr 74 6 x14.Bridges.length (rows TreeBridge.enc x14.Bridges)), (4, .box 31 [.osl 6001 0 x14.Bridges.length, .osl 6002 0 x14.Links.length, .osl 6003 0 x14.Down.length, .osl 6004 0 x14.AtA.length, .osl 6005 0 x14.AtB.length, .osl 6006 0 x14.Radio.length])], []⟩) (le_mk ?_ ?_ ?_) (le_swaps [(6001, 5001), (6002, 5002), (6003, 5003), (6004, 5004), (6005, 5005), (6006, 5006)] rfl) <;> (repeat' first | ((conv => whnf); first | exact trivial | refine And.intro ?_ ?_ | exact BLe.refl _ | exact VLe.refl _) | exact trivial | exact rfl | refine And.intro ?_ ?_ | exact BLe.refl _ | exact VLe.refl _ | exact VLe.any _ | exact VLe.nil_osl rfl | exact VLe.nil_sl rfl | exact VLe.built rfl rfl | (refine VLe.osl rfl ?_; (first | rfl | (simp; done) | assumption | (simp [dsub_eq] <;> omega) | omega)) | exact VLe.rows (by first | rfl | (simp; done) | assumption | (simp [dsub_eq] <;> omega) | omega) (fun _ _ => rfl) | exact VLe.rows (by simp [dsub_eq] <;> omega) rows_take | exact VLe.rows (by simp [dsub_eq] <;> omega) rows_dt | exact VLe.rows (by simp [dsub_eq] <;> omega) rows_vt | exact VLe.rows (by simp) (fun i _ => by simp [viewRow_eq, Nat.add_comm]) | refine VLe.aggL ?_ | (refine BLe.rows rfl ?_ fun _ _ => rfl; (first | rfl | (simp; done) | assumption | (simp [dsub_eq] <;> omega) | omega)) | (refine BLe.rows rfl rfl ?_; first | exact rows_take) | refine BLe.box ?_)
          · exact And.intro (And.intro rfl (And.intro rfl (fun _ _ => rfl))) (And.intro (And.intro rfl (And.intro rfl (fun _ _ => rfl))) (And.intro (And.intro rfl (And.intro rfl (fun _ _ => rfl))) (And.intro (And.intro rfl (And.intro rfl (fun _ _ => rfl))) (And.intro (And.intro rfl (And.intro rfl (fun _ _ => rfl))) (And.intro (And.intro rfl (And.intro rfl (fun _ _ => rfl))) (trivial))))))

end Go.Proofs.Ytbolhcpkpncmfaa
