/-
  What some of the program's functions compute: their models, and that the functions compute these; no condition.
-/
import Derived.Test.YtbolhcpkpncmfaaTyz
import Derived.Test.YtbolhcpkpncmfaaTbz
import Derived.Test.YtbolhcpkpncmfaaKz4
set_option linter.all false
namespace Go.Proofs.Ytbolhcpkpncmfaa
open Go Go.Ab
set_option maxRecDepth 100000
set_option maxHeartbeats 4000000
noncomputable def laws_heldTreeBridgeS_m (a0 : (List TreeBridge)) (a1 : Int) : Option (Int) :=
 bd (lp (σ := Int × Int) (β := (Unit ⊕ Int)) (fun s1 =>
(if (decide (s1.2 < ((a0.length : Nat) : Int))) = true then
 gd ((0 : Int) ≤ s1.2 ∧ s1.2 < ((a0.length : Nat) : Int)) <|
(if (((a0.getD s1.2.toNat default).Id) != s1.1) = true then
 some (.inr (.inl ()))
else
 gd ((0 : Int) ≤ s1.2 ∧ s1.2 < ((a0.length : Nat) : Int)) <|
 gd ((3 : Int) ≠ 0) <|
(if (!(((a0.getD s1.2.toNat default).Up) == (((IntKind.i64.wrap (s1.1 + 1) : Int).tmod 3) == 0))) = true then
 some (.inr (.inl ()))
else
 gd ((0 : Int) ≤ s1.2 ∧ s1.2 < ((a0.length : Nat) : Int)) <|
(if (((((a0.getD s1.2.toNat default).Mind).Vector).Root) != (IntKind.i64.wrap ((IntKind.i64.wrap (s1.1 + 1)) + 1))) = true then
 some (.inr (.inl ()))
else
 gd ((0 : Int) ≤ s1.2 ∧ s1.2 < ((a0.length : Nat) : Int)) <|
(if (((((a0.getD s1.2.toNat default).Mind).Vector).Cost) != (IntKind.i64.wrap ((IntKind.i64.wrap ((IntKind.i64.wrap (s1.1 + 1)) + 1)) + 1))) = true then
 some (.inr (.inl ()))
else
 gd ((0 : Int) ≤ s1.2 ∧ s1.2 < ((a0.length : Nat) : Int)) <|
(if (((((a0.getD s1.2.toNat default).Mind).Vector).Age) != (IntKind.i64.wrap ((IntKind.i64.wrap ((IntKind.i64.wrap ((IntKind.i64.wrap (s1.1 + 1)) + 1)) + 1)) + 1))) = true then
 some (.inr (.inl ()))
else
 gd ((0 : Int) ≤ s1.2 ∧ s1.2 < ((a0.length : Nat) : Int)) <|
(if ((((a0.getD s1.2.toNat default).Mind).Link) != (IntKind.i64.wrap ((IntKind.i64.wrap ((IntKind.i64.wrap ((IntKind.i64.wrap ((IntKind.i64.wrap (s1.1 + 1)) + 1)) + 1)) + 1)) + 1))) = true then
 some (.inr (.inl ()))
else
 some (.inl (IntKind.i64.wrap ((IntKind.i64.wrap ((IntKind.i64.wrap ((IntKind.i64.wrap ((IntKind.i64.wrap ((IntKind.i64.wrap (s1.1 + 1)) + 1)) + 1)) + 1)) + 1)) + 1), IntKind.i64.wrap (s1.2 + 1)))))))))
else
 some (.inr (.inr s1.1)))) (a1, 0)) fun x4 =>
(match x4 with
| .inl d12 =>
 some (-1)
| .inr d13 =>
 some d13)

theorem laws_heldTreeBridgeS_c {a0 : (List TreeBridge)} {a1 : Int} {r : Int} (h : laws_heldTreeBridgeS_m a0 a1 = some r) : PureC Try.prog 79 [.d (slD TreeBridge.enc a0), .d (.int .i64 a1)] (.d (.int .i64 r)) [] := by
  refine pureC_m tOk (fn := Try.f79) (c := codeOf Try.f79) rfl rfl (by kernel_rfl) rfl rfl (by simp) (by simp) (ids_of rfl) ?_
  unfold laws_heldTreeBridgeS_m at h
  conv => whnf
  refine seq_in tOk ?_
  conv => whnf
  obtain ⟨x4, hx4, h⟩ := bd_some h
  refine loop_m tOk hx4 (fun s1 => ⟨0, 76, [(0, .d (slD TreeBridge.enc a0)), (1, .d (.int .i64 s1.1)), (5, .d (.int .i64 s1.2))], [], [], []⟩) ?_ ?_
  · refine le_mk ?_ ?_ ?_ <;> (repeat' first | ((conv => whnf); first | exact trivial | refine And.intro ?_ ?_ | exact BLe.refl _ | exact VLe.refl _) | exact trivial | exact rfl | refine And.intro ?_ ?_ | exact BLe.refl _ | exact VLe.refl _ | exact VLe.any _ | exact VLe.nil_osl rfl | exact VLe.nil_sl rfl | exact VLe.built rfl rfl | (refine VLe.osl rfl ?_; (first | rfl | (simp; done) | assumption | (simp [dsub_eq] <;> omega) | omega)) | exact VLe.rows (by first | rfl | (simp; done) | assumption | (simp [dsub_eq] <;> omega) | omega) (fun _ _ => rfl) | exact VLe.rows (by simp [dsub_eq] <;> omega) rows_take | exact VLe.rows (by simp [dsub_eq] <;> omega) rows_dt | exact VLe.rows (by simp [dsub_eq] <;> omega) rows_vt | exact VLe.rows (by simp) (fun i _ => by simp [viewRow_eq, Nat.add_comm]) | refine VLe.aggL ?_ | (refine BLe.rows rfl ?_ fun _ _ => rfl; (first | rfl | (simp; done) | assumption | (simp [dsub_eq] <;> omega) | omega)) | (refine BLe.rows rfl rfl ?_; first | exact rows_take) | refine BLe.box ?_)
  · clear hx4
    intro s1 y2 g3 hy2
    conv => whnf
    refine seq_in tOk ?_
    conv => whnf
    refine And.intro (fun e => ?_) (fun e => ?_)
    · replace g3 := ite_t g3 e; clear e
      conv => whnf
      refine seq_in tOk ?_
      conv => whnf
      refine seq_in tOk ?_
      conv => whnf
      obtain ⟨g5, g3⟩ := gd_some g3
      refine And.intro g5 ?_
      clear g5
      conv => whnf
      refine And.intro (fun e => ?_) (fun e => ?_)
      · replace g3 := ite_t g3 e; clear e
        conv => whnf
        obtain rfl := Option.some.inj g3
        obtain rfl := hy2 _ rfl
        obtain rfl := Option.some.inj h
        exact ⟨_, LE.refl _, And.intro rfl trivial⟩
      · replace g3 := ite_f g3 e; clear e
        conv => whnf
        refine seq_in tOk ?_
        conv => whnf
        obtain ⟨g6, g3⟩ := gd_some g3
        refine And.intro g6 ?_
        clear g6
        conv => whnf
        obtain ⟨g7, g3⟩ := gd_some g3
        refine And.intro g7 ?_
        clear g7
        conv => whnf
        refine And.intro (fun e => ?_) (fun e => ?_)
        · replace g3 := ite_t g3 e; clear e
          conv => whnf
          obtain rfl := Option.some.inj g3
          obtain rfl := hy2 _ rfl
          obtain rfl := Option.some.inj h
          exact ⟨_, LE.refl _, And.intro rfl trivial⟩
        · replace g3 := ite_f g3 e; clear e
          conv => whnf
          refine seq_in tOk ?_
          conv => whnf
          obtain ⟨g8, g3⟩ := gd_some g3
          refine And.intro g8 ?_
          clear g8
          conv => whnf
          refine And.intro (fun e => ?_) (fun e => ?_)
          · replace g3 := ite_t g3 e; clear e
            conv => whnf
            obtain rfl := Option.some.inj g3
            obtain rfl := hy2 _ rfl
            obtain rfl := Option.some.inj h
            exact ⟨_, LE.refl _, And.intro rfl trivial⟩
          · replace g3 := ite_f g3 e; clear e
            conv => whnf
            refine seq_in tOk ?_
            conv => whnf
            obtain ⟨g9, g3⟩ := gd_some g3
            refine And.intro g9 ?_
            clear g9
            conv => whnf
            refine And.intro (fun e => ?_) (fun e => ?_)
            · replace g3 := ite_t g3 e; clear e
              conv => whnf
              obtain rfl := Option.some.inj g3
              obtain rfl := hy2 _ rfl
              obtain rfl := Option.some.inj h
              exact ⟨_, LE.refl _, And.intro rfl trivial⟩
            · replace g3 := ite_f g3 e; clear e
              conv => whnf
              refine seq_in tOk ?_
              conv => whnf
              obtain ⟨g10, g3⟩ := gd_some g3
              refine And.intro g10 ?_
              clear g10
              conv => whnf
              refine And.intro (fun e => ?_) (fun e => ?_)
              · replace g3 := ite_t g3 e; clear e
                conv => whnf
                obtain rfl := Option.some.inj g3
                obtain rfl := hy2 _ rfl
                obtain rfl := Option.some.inj h
                exact ⟨_, LE.refl _, And.intro rfl trivial⟩
              · replace g3 := ite_f g3 e; clear e
                conv => whnf
                refine seq_in tOk ?_
                conv => whnf
                obtain ⟨g11, g3⟩ := gd_some g3
                refine And.intro g11 ?_
                clear g11
                conv => whnf
                refine And.intro (fun e => ?_) (fun e => ?_)
                · replace g3 := ite_t g3 e; clear e
                  conv => whnf
                  obtain rfl := Option.some.inj g3
                  obtain rfl := hy2 _ rfl
                  obtain rfl := Option.some.inj h
                  exact ⟨_, LE.refl _, And.intro rfl trivial⟩
                · replace g3 := ite_f g3 e; clear e
                  conv => whnf
                  obtain rfl := Option.some.inj g3
                  refine ⟨_, rfl, le_mk ?_ ?_ ?_⟩ <;> (repeat' first | ((conv => whnf); first | exact trivial | refine And.intro ?_ ?_ | exact BLe.refl _ | exact VLe.refl _) | exact trivial | exact rfl | refine And.intro ?_ ?_ | exact BLe.refl _ | exact VLe.refl _ | exact VLe.any _ | exact VLe.nil_osl rfl | exact VLe.nil_sl rfl | exact VLe.built rfl rfl | (refine VLe.osl rfl ?_; (first | rfl | (simp; done) | assumption | (simp [dsub_eq] <;> omega) | omega)) | exact VLe.rows (by first | rfl | (simp; done) | assumption | (simp [dsub_eq] <;> omega) | omega) (fun _ _ => rfl) | exact VLe.rows (by simp [dsub_eq] <;> omega) rows_take | exact VLe.rows (by simp [dsub_eq] <;> omega) rows_dt | exact VLe.rows (by simp [dsub_eq] <;> omega) rows_vt | exact VLe.rows (by simp) (fun i _ => by simp [viewRow_eq, Nat.add_comm]) | refine VLe.aggL ?_ | (refine BLe.rows rfl ?_ fun _ _ => rfl; (first | rfl | (simp; done) | assumption | (simp [dsub_eq] <;> omega) | omega)) | (refine BLe.rows rfl rfl ?_; first | exact rows_take) | refine BLe.box ?_)
    · replace g3 := ite_f g3 e; clear e
      conv => whnf
      obtain rfl := Option.some.inj g3
      obtain rfl := hy2 _ rfl
      obtain rfl := Option.some.inj h
      exact ⟨_, LE.refl _, And.intro rfl trivial⟩

noncomputable def laws_heldTreeLinkS_m (a0 : (List TreeLink)) (a1 : Int) : Option (Int) :=
 bd (lp (σ := Int × Int) (β := (Unit ⊕ Int)) (fun s1 =>
(if (decide (s1.2 < ((a0.length : Nat) : Int))) = true then
 gd ((0 : Int) ≤ s1.2 ∧ s1.2 < ((a0.length : Nat) : Int)) <|
(if (((a0.getD s1.2.toNat default).A) != s1.1) = true then
 some (.inr (.inl ()))
else
 gd ((0 : Int) ≤ s1.2 ∧ s1.2 < ((a0.length : Nat) : Int)) <|
(if (((a0.getD s1.2.toNat default).B) != (IntKind.i64.wrap (s1.1 + 1))) = true then
 some (.inr (.inl ()))
else
 gd ((0 : Int) ≤ s1.2 ∧ s1.2 < ((a0.length : Nat) : Int)) <|
(if (((a0.getD s1.2.toNat default).Cost) != (IntKind.i64.wrap ((IntKind.i64.wrap (s1.1 + 1)) + 1))) = true then
 some (.inr (.inl ()))
else
 some (.inl (IntKind.i64.wrap ((IntKind.i64.wrap ((IntKind.i64.wrap (s1.1 + 1)) + 1)) + 1), IntKind.i64.wrap (s1.2 + 1))))))
else
 some (.inr (.inr s1.1)))) (a1, 0)) fun x4 =>
(match x4 with
| .inl d8 =>
 some (-1)
| .inr d9 =>
 some d9)

theorem laws_heldTreeLinkS_c {a0 : (List TreeLink)} {a1 : Int} {r : Int} (h : laws_heldTreeLinkS_m a0 a1 = some r) : PureC Try.prog 80 [.d (slD TreeLink.enc a0), .d (.int .i64 a1)] (.d (.int .i64 r)) [] := by
  refine pureC_m tOk (fn := Try.f80) (c := codeOf Try.f80) rfl rfl (by kernel_rfl) rfl rfl (by simp) (by simp) (ids_of rfl) ?_
  unfold laws_heldTreeLinkS_m at h
  conv => whnf
  refine seq_in tOk ?_
  conv => whnf
  obtain ⟨x4, hx4, h⟩ := bd_some h
  refine loop_m tOk hx4 (fun s1 => ⟨0, 40, [(0, .d (slD TreeLink.enc a0)), (1, .d (.int .i64 s1.1)), (5, .d (.int .i64 s1.2))], [], [], []⟩) ?_ ?_
  · refine le_mk ?_ ?_ ?_ <;> (repeat' first | ((conv => whnf); first | exact trivial | refine And.intro ?_ ?_ | exact BLe.refl _ | exact VLe.refl _) | exact trivial | exact rfl | refine And.intro ?_ ?_ | exact BLe.refl _ | exact VLe.refl _ | exact VLe.any _ | exact VLe.nil_osl rfl | exact VLe.nil_sl rfl | exact VLe.built rfl rfl | (refine VLe.osl rfl ?_; (first | rfl | (simp; done) | assumption | (simp [dsub_eq] <;> omega) | omega)) | exact VLe.rows (by first | rfl | (simp; done) | assumption | (simp [dsub_eq] <;> omega) | omega) (fun _ _ => rfl) | exact VLe.rows (by simp [dsub_eq] <;> omega) rows_take | exact VLe.rows (by simp [dsub_eq] <;> omega) rows_dt | exact VLe.rows (by simp [dsub_eq] <;> omega) rows_vt | exact VLe.rows (by simp) (fun i _ => by simp [viewRow_eq, Nat.add_comm]) | refine VLe.aggL ?_ | (refine BLe.rows rfl ?_ fun _ _ => rfl; (first | rfl | (simp; done) | assumption | (simp [dsub_eq] <;> omega) | omega)) | (refine BLe.rows rfl rfl ?_; first | exact rows_take) | refine BLe.box ?_)
  · clear hx4
    intro s1 y2 g3 hy2
    conv => whnf
    refine seq_in tOk ?_
    conv => whnf
    refine And.intro (fun e => ?_) (fun e => ?_)
    · replace g3 := ite_t g3 e; clear e
      conv => whnf
      refine seq_in tOk ?_
      conv => whnf
      refine seq_in tOk ?_
      conv => whnf
      obtain ⟨g5, g3⟩ := gd_some g3
      refine And.intro g5 ?_
      clear g5
      conv => whnf
      refine And.intro (fun e => ?_) (fun e => ?_)
      · replace g3 := ite_t g3 e; clear e
        conv => whnf
        obtain rfl := Option.some.inj g3
        obtain rfl := hy2 _ rfl
        obtain rfl := Option.some.inj h
        exact ⟨_, LE.refl _, And.intro rfl trivial⟩
      · replace g3 := ite_f g3 e; clear e
        conv => whnf
        refine seq_in tOk ?_
        conv => whnf
        obtain ⟨g6, g3⟩ := gd_some g3
        refine And.intro g6 ?_
        clear g6
        conv => whnf
        refine And.intro (fun e => ?_) (fun e => ?_)
        · replace g3 := ite_t g3 e; clear e
          conv => whnf
          obtain rfl := Option.some.inj g3
          obtain rfl := hy2 _ rfl
          obtain rfl := Option.some.inj h
          exact ⟨_, LE.refl _, And.intro rfl trivial⟩
        · replace g3 := ite_f g3 e; clear e
          conv => whnf
          refine seq_in tOk ?_
          conv => whnf
          obtain ⟨g7, g3⟩ := gd_some g3
          refine And.intro g7 ?_
          clear g7
          conv => whnf
          refine And.intro (fun e => ?_) (fun e => ?_)
          · replace g3 := ite_t g3 e; clear e
            conv => whnf
            obtain rfl := Option.some.inj g3
            obtain rfl := hy2 _ rfl
            obtain rfl := Option.some.inj h
            exact ⟨_, LE.refl _, And.intro rfl trivial⟩
          · replace g3 := ite_f g3 e; clear e
            conv => whnf
            obtain rfl := Option.some.inj g3
            refine ⟨_, rfl, le_mk ?_ ?_ ?_⟩ <;> (repeat' first | ((conv => whnf); first | exact trivial | refine And.intro ?_ ?_ | exact BLe.refl _ | exact VLe.refl _) | exact trivial | exact rfl | refine And.intro ?_ ?_ | exact BLe.refl _ | exact VLe.refl _ | exact VLe.any _ | exact VLe.nil_osl rfl | exact VLe.nil_sl rfl | exact VLe.built rfl rfl | (refine VLe.osl rfl ?_; (first | rfl | (simp; done) | assumption | (simp [dsub_eq] <;> omega) | omega)) | exact VLe.rows (by first | rfl | (simp; done) | assumption | (simp [dsub_eq] <;> omega) | omega) (fun _ _ => rfl) | exact VLe.rows (by simp [dsub_eq] <;> omega) rows_take | exact VLe.rows (by simp [dsub_eq] <;> omega) rows_dt | exact VLe.rows (by simp [dsub_eq] <;> omega) rows_vt | exact VLe.rows (by simp) (fun i _ => by simp [viewRow_eq, Nat.add_comm]) | refine VLe.aggL ?_ | (refine BLe.rows rfl ?_ fun _ _ => rfl; (first | rfl | (simp; done) | assumption | (simp [dsub_eq] <;> omega) | omega)) | (refine BLe.rows rfl rfl ?_; first | exact rows_take) | refine BLe.box ?_)
    · replace g3 := ite_f g3 e; clear e
      conv => whnf
      obtain rfl := Option.some.inj g3
      obtain rfl := hy2 _ rfl
      obtain rfl := Option.some.inj h
      exact ⟨_, LE.refl _, And.intro rfl trivial⟩

noncomputable def laws_heldTreeSlotS_m (a0 : (List TreeSlot)) (a1 : Int) : Option (Int) :=
 bd (lp (σ := Int × Int) (β := (Unit ⊕ Int)) (fun s1 =>
(if (decide (s1.2 < ((a0.length : Nat) : Int))) = true then
 gd ((0 : Int) ≤ s1.2 ∧ s1.2 < ((a0.length : Nat) : Int)) <|
(if ((((a0.getD s1.2.toNat default).Vector).Root) != s1.1) = true then
 some (.inr (.inl ()))
else
 gd ((0 : Int) ≤ s1.2 ∧ s1.2 < ((a0.length : Nat) : Int)) <|
(if ((((a0.getD s1.2.toNat default).Vector).Cost) != (IntKind.i64.wrap (s1.1 + 1))) = true then
 some (.inr (.inl ()))
else
 gd ((0 : Int) ≤ s1.2 ∧ s1.2 < ((a0.length : Nat) : Int)) <|
(if ((((a0.getD s1.2.toNat default).Vector).Age) != (IntKind.i64.wrap ((IntKind.i64.wrap (s1.1 + 1)) + 1))) = true then
 some (.inr (.inl ()))
else
 gd ((0 : Int) ≤ s1.2 ∧ s1.2 < ((a0.length : Nat) : Int)) <|
(if (((a0.getD s1.2.toNat default).Left) != (IntKind.i64.wrap ((IntKind.i64.wrap ((IntKind.i64.wrap (s1.1 + 1)) + 1)) + 1))) = true then
 some (.inr (.inl ()))
else
 some (.inl (IntKind.i64.wrap ((IntKind.i64.wrap ((IntKind.i64.wrap ((IntKind.i64.wrap (s1.1 + 1)) + 1)) + 1)) + 1), IntKind.i64.wrap (s1.2 + 1)))))))
else
 some (.inr (.inr s1.1)))) (a1, 0)) fun x4 =>
(match x4 with
| .inl d9 =>
 some (-1)
| .inr d10 =>
 some d10)

theorem laws_heldTreeSlotS_c {a0 : (List TreeSlot)} {a1 : Int} {r : Int} (h : laws_heldTreeSlotS_m a0 a1 = some r) : PureC Try.prog 81 [.d (slD TreeSlot.enc a0), .d (.int .i64 a1)] (.d (.int .i64 r)) [] := by
  refine pureC_m tOk (fn := Try.f81) (c := codeOf Try.f81) rfl rfl (by kernel_rfl) rfl rfl (by simp) (by simp) (ids_of rfl) ?_
  unfold laws_heldTreeSlotS_m at h
  conv => whnf
  refine seq_in tOk ?_
  conv => whnf
  obtain ⟨x4, hx4, h⟩ := bd_some h
  refine loop_m tOk hx4 (fun s1 => ⟨0, 52, [(0, .d (slD TreeSlot.enc a0)), (1, .d (.int .i64 s1.1)), (5, .d (.int .i64 s1.2))], [], [], []⟩) ?_ ?_
  · refine le_mk ?_ ?_ ?_ <;> (repeat' first | ((conv => whnf); first | exact trivial | refine And.intro ?_ ?_ | exact BLe.refl _ | exact VLe.refl _) | exact trivial | exact rfl | refine And.intro ?_ ?_ | exact BLe.refl _ | exact VLe.refl _ | exact VLe.any _ | exact VLe.nil_osl rfl | exact VLe.nil_sl rfl | exact VLe.built rfl rfl | (refine VLe.osl rfl ?_; (first | rfl | (simp; done) | assumption | (simp [dsub_eq] <;> omega) | omega)) | exact VLe.rows (by first | rfl | (simp; done) | assumption | (simp [dsub_eq] <;> omega) | omega) (fun _ _ => rfl) | exact VLe.rows (by simp [dsub_eq] <;> omega) rows_take | exact VLe.rows (by simp [dsub_eq] <;> omega) rows_dt | exact VLe.rows (by simp [dsub_eq] <;> omega) rows_vt | exact VLe.rows (by simp) (fun i _ => by simp [viewRow_eq, Nat.add_comm]) | refine VLe.aggL ?_ | (refine BLe.rows rfl ?_ fun _ _ => rfl; (first | rfl | (simp; done) | assumption | (simp [dsub_eq] <;> omega) | omega)) | (refine BLe.rows rfl rfl ?_; first | exact rows_take) | refine BLe.box ?_)
  · clear hx4
    intro s1 y2 g3 hy2
    conv => whnf
    refine seq_in tOk ?_
    conv => whnf
    refine And.intro (fun e => ?_) (fun e => ?_)
    · replace g3 := ite_t g3 e; clear e
      conv => whnf
      refine seq_in tOk ?_
      conv => whnf
      refine seq_in tOk ?_
      conv => whnf
      obtain ⟨g5, g3⟩ := gd_some g3
      refine And.intro g5 ?_
      clear g5
      conv => whnf
      refine And.intro (fun e => ?_) (fun e => ?_)
      · replace g3 := ite_t g3 e; clear e
        conv => whnf
        obtain rfl := Option.some.inj g3
        obtain rfl := hy2 _ rfl
        obtain rfl := Option.some.inj h
        exact ⟨_, LE.refl _, And.intro rfl trivial⟩
      · replace g3 := ite_f g3 e; clear e
        conv => whnf
        refine seq_in tOk ?_
        conv => whnf
        obtain ⟨g6, g3⟩ := gd_some g3
        refine And.intro g6 ?_
        clear g6
        conv => whnf
        refine And.intro (fun e => ?_) (fun e => ?_)
        · replace g3 := ite_t g3 e; clear e
          conv => whnf
          obtain rfl := Option.some.inj g3
          obtain rfl := hy2 _ rfl
          obtain rfl := Option.some.inj h
          exact ⟨_, LE.refl _, And.intro rfl trivial⟩
        · replace g3 := ite_f g3 e; clear e
          conv => whnf
          refine seq_in tOk ?_
          conv => whnf
          obtain ⟨g7, g3⟩ := gd_some g3
          refine And.intro g7 ?_
          clear g7
          conv => whnf
          refine And.intro (fun e => ?_) (fun e => ?_)
          · replace g3 := ite_t g3 e; clear e
            conv => whnf
            obtain rfl := Option.some.inj g3
            obtain rfl := hy2 _ rfl
            obtain rfl := Option.some.inj h
            exact ⟨_, LE.refl _, And.intro rfl trivial⟩
          · replace g3 := ite_f g3 e; clear e
            conv => whnf
            refine seq_in tOk ?_
            conv => whnf
            obtain ⟨g8, g3⟩ := gd_some g3
            refine And.intro g8 ?_
            clear g8
            conv => whnf
            refine And.intro (fun e => ?_) (fun e => ?_)
            · replace g3 := ite_t g3 e; clear e
              conv => whnf
              obtain rfl := Option.some.inj g3
              obtain rfl := hy2 _ rfl
              obtain rfl := Option.some.inj h
              exact ⟨_, LE.refl _, And.intro rfl trivial⟩
            · replace g3 := ite_f g3 e; clear e
              conv => whnf
              obtain rfl := Option.some.inj g3
              refine ⟨_, rfl, le_mk ?_ ?_ ?_⟩ <;> (repeat' first | ((conv => whnf); first | exact trivial | refine And.intro ?_ ?_ | exact BLe.refl _ | exact VLe.refl _) | exact trivial | exact rfl | refine And.intro ?_ ?_ | exact BLe.refl _ | exact VLe.refl _ | exact VLe.any _ | exact VLe.nil_osl rfl | exact VLe.nil_sl rfl | exact VLe.built rfl rfl | (refine VLe.osl rfl ?_; (first | rfl | (simp; done) | assumption | (simp [dsub_eq] <;> omega) | omega)) | exact VLe.rows (by first | rfl | (simp; done) | assumption | (simp [dsub_eq] <;> omega) | omega) (fun _ _ => rfl) | exact VLe.rows (by simp [dsub_eq] <;> omega) rows_take | exact VLe.rows (by simp [dsub_eq] <;> omega) rows_dt | exact VLe.rows (by simp [dsub_eq] <;> omega) rows_vt | exact VLe.rows (by simp) (fun i _ => by simp [viewRow_eq, Nat.add_comm]) | refine VLe.aggL ?_ | (refine BLe.rows rfl ?_ fun _ _ => rfl; (first | rfl | (simp; done) | assumption | (simp [dsub_eq] <;> omega) | omega)) | (refine BLe.rows rfl rfl ?_; first | exact rows_take) | refine BLe.box ?_)
    · replace g3 := ite_f g3 e; clear e
      conv => whnf
      obtain rfl := Option.some.inj g3
      obtain rfl := hy2 _ rfl
      obtain rfl := Option.some.inj h
      exact ⟨_, LE.refl _, And.intro rfl trivial⟩

noncomputable def laws_heldTreeWordS_m (a0 : (List TreeWord)) (a1 : Int) : Option (Int) :=
 bd (lp (σ := Int × Int) (β := (Unit ⊕ Int)) (fun s1 =>
(if (decide (s1.2 < ((a0.length : Nat) : Int))) = true then
 gd ((0 : Int) ≤ s1.2 ∧ s1.2 < ((a0.length : Nat) : Int)) <|
(if (((a0.getD s1.2.toNat default).Link) != s1.1) = true then
 some (.inr (.inl ()))
else
 gd ((0 : Int) ≤ s1.2 ∧ s1.2 < ((a0.length : Nat) : Int)) <|
(if (((a0.getD s1.2.toNat default).End) != (IntKind.i64.wrap (s1.1 + 1))) = true then
 some (.inr (.inl ()))
else
 gd ((0 : Int) ≤ s1.2 ∧ s1.2 < ((a0.length : Nat) : Int)) <|
(if ((((a0.getD s1.2.toNat default).Vector).Root) != (IntKind.i64.wrap ((IntKind.i64.wrap (s1.1 + 1)) + 1))) = true then
 some (.inr (.inl ()))
else
 gd ((0 : Int) ≤ s1.2 ∧ s1.2 < ((a0.length : Nat) : Int)) <|
(if ((((a0.getD s1.2.toNat default).Vector).Cost) != (IntKind.i64.wrap ((IntKind.i64.wrap ((IntKind.i64.wrap (s1.1 + 1)) + 1)) + 1))) = true then
 some (.inr (.inl ()))
else
 gd ((0 : Int) ≤ s1.2 ∧ s1.2 < ((a0.length : Nat) : Int)) <|
(if ((((a0.getD s1.2.toNat default).Vector).Age) != (IntKind.i64.wrap ((IntKind.i64.wrap ((IntKind.i64.wrap ((IntKind.i64.wrap (s1.1 + 1)) + 1)) + 1)) + 1))) = true then
 some (.inr (.inl ()))
else
 some (.inl (IntKind.i64.wrap ((IntKind.i64.wrap ((IntKind.i64.wrap ((IntKind.i64.wrap ((IntKind.i64.wrap (s1.1 + 1)) + 1)) + 1)) + 1)) + 1), IntKind.i64.wrap (s1.2 + 1))))))))
else
 some (.inr (.inr s1.1)))) (a1, 0)) fun x4 =>
(match x4 with
| .inl d10 =>
 some (-1)
| .inr d11 =>
 some d11)

theorem laws_heldTreeWordS_c {a0 : (List TreeWord)} {a1 : Int} {r : Int} (h : laws_heldTreeWordS_m a0 a1 = some r) : PureC Try.prog 82 [.d (slD TreeWord.enc a0), .d (.int .i64 a1)] (.d (.int .i64 r)) [] := by
  refine pureC_m tOk (fn := Try.f82) (c := codeOf Try.f82) rfl rfl (by kernel_rfl) rfl rfl (by simp) (by simp) (ids_of rfl) ?_
  unfold laws_heldTreeWordS_m at h
  conv => whnf
  refine seq_in tOk ?_
  conv => whnf
  obtain ⟨x4, hx4, h⟩ := bd_some h
  refine loop_m tOk hx4 (fun s1 => ⟨0, 61, [(0, .d (slD TreeWord.enc a0)), (1, .d (.int .i64 s1.1)), (5, .d (.int .i64 s1.2))], [], [], []⟩) ?_ ?_
  · refine le_mk ?_ ?_ ?_ <;> (repeat' first | ((conv => whnf); first | exact trivial | refine And.intro ?_ ?_ | exact BLe.refl _ | exact VLe.refl _) | exact trivial | exact rfl | refine And.intro ?_ ?_ | exact BLe.refl _ | exact VLe.refl _ | exact VLe.any _ | exact VLe.nil_osl rfl | exact VLe.nil_sl rfl | exact VLe.built rfl rfl | (refine VLe.osl rfl ?_; (first | rfl | (simp; done) | assumption | (simp [dsub_eq] <;> omega) | omega)) | exact VLe.rows (by first | rfl | (simp; done) | assumption | (simp [dsub_eq] <;> omega) | omega) (fun _ _ => rfl) | exact VLe.rows (by simp [dsub_eq] <;> omega) rows_take | exact VLe.rows (by simp [dsub_eq] <;> omega) rows_dt | exact VLe.rows (by simp [dsub_eq] <;> omega) rows_vt | exact VLe.rows (by simp) (fun i _ => by simp [viewRow_eq, Nat.add_comm]) | refine VLe.aggL ?_ | (refine BLe.rows rfl ?_ fun _ _ => rfl; (first | rfl | (simp; done) | assumption | (simp [dsub_eq] <;> omega) | omega)) | (refine BLe.rows rfl rfl ?_; first | exact rows_take) | refine BLe.box ?_)
  · clear hx4
    intro s1 y2 g3 hy2
    conv => whnf
    refine seq_in tOk ?_
    conv => whnf
    refine And.intro (fun e => ?_) (fun e => ?_)
    · replace g3 := ite_t g3 e; clear e
      conv => whnf
      refine seq_in tOk ?_
      conv => whnf
      refine seq_in tOk ?_
      conv => whnf
      obtain ⟨g5, g3⟩ := gd_some g3
      refine And.intro g5 ?_
      clear g5
      conv => whnf
      refine And.intro (fun e => ?_) (fun e => ?_)
      · replace g3 := ite_t g3 e; clear e
        conv => whnf
        obtain rfl := Option.some.inj g3
        obtain rfl := hy2 _ rfl
        obtain rfl := Option.some.inj h
        exact ⟨_, LE.refl _, And.intro rfl trivial⟩
      · replace g3 := ite_f g3 e; clear e
        conv => whnf
        refine seq_in tOk ?_
        conv => whnf
        obtain ⟨g6, g3⟩ := gd_some g3
        refine And.intro g6 ?_
        clear g6
        conv => whnf
        refine And.intro (fun e => ?_) (fun e => ?_)
        · replace g3 := ite_t g3 e; clear e
          conv => whnf
          obtain rfl := Option.some.inj g3
          obtain rfl := hy2 _ rfl
          obtain rfl := Option.some.inj h
          exact ⟨_, LE.refl _, And.intro rfl trivial⟩
        · replace g3 := ite_f g3 e; clear e
          conv => whnf
          refine seq_in tOk ?_
          conv => whnf
          obtain ⟨g7, g3⟩ := gd_some g3
          refine And.intro g7 ?_
          clear g7
          conv => whnf
          refine And.intro (fun e => ?_) (fun e => ?_)
          · replace g3 := ite_t g3 e; clear e
            conv => whnf
            obtain rfl := Option.some.inj g3
            obtain rfl := hy2 _ rfl
            obtain rfl := Option.some.inj h
            exact ⟨_, LE.refl _, And.intro rfl trivial⟩
          · replace g3 := ite_f g3 e; clear e
            conv => whnf
            refine seq_in tOk ?_
            conv => whnf
            obtain ⟨g8, g3⟩ := gd_some g3
            refine And.intro g8 ?_
            clear g8
            conv => whnf
            refine And.intro (fun e => ?_) (fun e => ?_)
            · replace g3 := ite_t g3 e; clear e
              conv => whnf
              obtain rfl := Option.some.inj g3
              obtain rfl := hy2 _ rfl
              obtain rfl := Option.some.inj h
              exact ⟨_, LE.refl _, And.intro rfl trivial⟩
            · replace g3 := ite_f g3 e; clear e
              conv => whnf
              refine seq_in tOk ?_
              conv => whnf
              obtain ⟨g9, g3⟩ := gd_some g3
              refine And.intro g9 ?_
              clear g9
              conv => whnf
              refine And.intro (fun e => ?_) (fun e => ?_)
              · replace g3 := ite_t g3 e; clear e
                conv => whnf
                obtain rfl := Option.some.inj g3
                obtain rfl := hy2 _ rfl
                obtain rfl := Option.some.inj h
                exact ⟨_, LE.refl _, And.intro rfl trivial⟩
              · replace g3 := ite_f g3 e; clear e
                conv => whnf
                obtain rfl := Option.some.inj g3
                refine ⟨_, rfl, le_mk ?_ ?_ ?_⟩ <;> (repeat' first | ((conv => whnf); first | exact trivial | refine And.intro ?_ ?_ | exact BLe.refl _ | exact VLe.refl _) | exact trivial | exact rfl | refine And.intro ?_ ?_ | exact BLe.refl _ | exact VLe.refl _ | exact VLe.any _ | exact VLe.nil_osl rfl | exact VLe.nil_sl rfl | exact VLe.built rfl rfl | (refine VLe.osl rfl ?_; (first | rfl | (simp; done) | assumption | (simp [dsub_eq] <;> omega) | omega)) | exact VLe.rows (by first | rfl | (simp; done) | assumption | (simp [dsub_eq] <;> omega) | omega) (fun _ _ => rfl) | exact VLe.rows (by simp [dsub_eq] <;> omega) rows_take | exact VLe.rows (by simp [dsub_eq] <;> omega) rows_dt | exact VLe.rows (by simp [dsub_eq] <;> omega) rows_vt | exact VLe.rows (by simp) (fun i _ => by simp [viewRow_eq, Nat.add_comm]) | refine VLe.aggL ?_ | (refine BLe.rows rfl ?_ fun _ _ => rfl; (first | rfl | (simp; done) | assumption | (simp [dsub_eq] <;> omega) | omega)) | (refine BLe.rows rfl rfl ?_; first | exact rows_take) | refine BLe.box ?_)
    · replace g3 := ite_f g3 e; clear e
      conv => whnf
      obtain rfl := Option.some.inj g3
      obtain rfl := hy2 _ rfl
      obtain rfl := Option.some.inj h
      exact ⟨_, LE.refl _, And.intro rfl trivial⟩

noncomputable def laws_heldTreeWorld_m (a0 : TreeWorld) (a1 : Int) : Option (Int) :=
 bd (laws_heldTreeBridgeS_m a0.Bridges a1) fun x1 =>
(if (decide (x1 < 0)) = true then
 some (-1)
else
 bd (laws_heldTreeLinkS_m a0.Links x1) fun x2 =>
(if (decide (x2 < 0)) = true then
 some (-1)
else
 bd (laws_heldIntS_m a0.Down x2) fun x3 =>
(if (decide (x3 < 0)) = true then
 some (-1)
else
 bd (laws_heldTreeSlotS_m a0.AtA x3) fun x4 =>
(if (decide (x4 < 0)) = true then
 some (-1)
else
 bd (laws_heldTreeSlotS_m a0.AtB x4) fun x5 =>
(if (decide (x5 < 0)) = true then
 some (-1)
else
 bd (laws_heldTreeWordS_m a0.Radio x5) fun x6 =>
(if (decide (x6 < 0)) = true then
 some (-1)
else
 some x6))))))

theorem laws_heldTreeWorld_c {a0 : TreeWorld} {a1 : Int} {r : Int} (h : laws_heldTreeWorld_m a0 a1 = some r) : PureC Try.prog 31 [.agg [.d (slD TreeBridge.enc a0.Bridges), .d (slD TreeLink.enc a0.Links), .d (slD encInt a0.Down), .d (slD TreeSlot.enc a0.AtA), .d (slD TreeSlot.enc a0.AtB), .d (slD TreeWord.enc a0.Radio)], .d (.int .i64 a1)] (.d (.int .i64 r)) [] := by
  refine pureC_m tOk (fn := Try.f31) (c := codeOf Try.f31) rfl rfl (by kernel_rfl) rfl rfl (by simp) (by simp) (ids_of rfl) ?_
  unfold laws_heldTreeWorld_m at h
  conv => whnf
  obtain ⟨x1, hx1, h⟩ := bd_some h
  refine callC 0 (laws_heldTreeBridgeS_c hx1) (by kernel_rfl) (by kernel_rfl) ?_
  clear hx1
  conv => whnf
  refine seq_in tOk ?_
  conv => whnf
  refine And.intro (fun e => ?_) (fun e => ?_)
  · replace h := ite_t h e; clear e
    conv => whnf
    obtain rfl := Option.some.inj h
    exact ⟨_, LE.refl _, And.intro rfl trivial⟩
  · replace h := ite_f h e; clear e
    conv => whnf
    obtain ⟨x2, hx2, h⟩ := bd_some h
    refine callC 0 (laws_heldTreeLinkS_c hx2) (by kernel_rfl) (by kernel_rfl) ?_
    clear hx2
    conv => whnf
    refine seq_in tOk ?_
    conv => whnf
    refine And.intro (fun e => ?_) (fun e => ?_)
    · replace h := ite_t h e; clear e
      conv => whnf
      obtain rfl := Option.some.inj h
      exact ⟨_, LE.refl _, And.intro rfl trivial⟩
    · replace h := ite_f h e; clear e
      conv => whnf
      obtain ⟨x3, hx3, h⟩ := bd_some h
      refine callC 0 (laws_heldIntS_c hx3) (by kernel_rfl) (by kernel_rfl) ?_
      clear hx3
      conv => whnf
      refine seq_in tOk ?_
      conv => whnf
      refine And.intro (fun e => ?_) (fun e => ?_)
      · replace h := ite_t h e; clear e
        conv => whnf
        obtain rfl := Option.some.inj h
        exact ⟨_, LE.refl _, And.intro rfl trivial⟩
      · replace h := ite_f h e; clear e
        conv => whnf
        obtain ⟨x4, hx4, h⟩ := bd_some h
        refine callC 0 (laws_heldTreeSlotS_c hx4) (by kernel_rfl) (by kernel_rfl) ?_
        clear hx4
        conv => whnf
        refine seq_in tOk ?_
        conv => whnf
        refine And.intro (fun e => ?_) (fun e => ?_)
        · replace h := ite_t h e; clear e
          conv => whnf
          obtain rfl := Option.some.inj h
          exact ⟨_, LE.refl _, And.intro rfl trivial⟩
        · replace h := ite_f h e; clear e
          conv => whnf
          obtain ⟨x5, hx5, h⟩ := bd_some h
          refine callC 0 (laws_heldTreeSlotS_c hx5) (by kernel_rfl) (by kernel_rfl) ?_
          clear hx5
          conv => whnf
          refine seq_in tOk ?_
          conv => whnf
          refine And.intro (fun e => ?_) (fun e => ?_)
          · replace h := ite_t h e; clear e
            conv => whnf
            obtain rfl := Option.some.inj h
            exact ⟨_, LE.refl _, And.intro rfl trivial⟩
          · replace h := ite_f h e; clear e
            conv => whnf
            obtain ⟨x6, hx6, h⟩ := bd_some h
            refine callC 0 (laws_heldTreeWordS_c hx6) (by kernel_rfl) (by kernel_rfl) ?_
            clear hx6
            conv => whnf
            refine seq_in tOk ?_
            conv => whnf
            refine And.intro (fun e => ?_) (fun e => ?_)
            · replace h := ite_t h e; clear e
              conv => whnf
              obtain rfl := Option.some.inj h
              exact ⟨_, LE.refl _, And.intro rfl trivial⟩
            · replace h := ite_f h e; clear e
              conv => whnf
              obtain rfl := Option.some.inj h
              exact ⟨_, LE.refl _, And.intro rfl trivial⟩

noncomputable def spec_l82Self_m (a0 : Int) : Option (TreeMind) :=
 some (⟨(⟨a0, 0, 0⟩ : TreeVector), -1⟩ : TreeMind)

theorem spec_l82Self_c {a0 : Int} {r : TreeMind} (h : spec_l82Self_m a0 = some r) : PureC Try.prog 43 [.d (.int .i64 a0)] (.agg [.d (.int .i64 r.Vector.Root), .d (.int .i64 r.Vector.Cost), .d (.int .i64 r.Vector.Age), .d (.int .i64 r.Link)]) [] := by
  refine pureC_m tOk (fn := Try.f43) (c := codeOf Try.f43) rfl rfl (by kernel_rfl) rfl rfl (by simp) (by simp) (ids_of rfl) ?_
  unfold spec_l82Self_m at h
  conv => whnf
  obtain rfl := Option.some.inj h
  exact ⟨_, LE.refl _, And.intro rfl trivial⟩

noncomputable def spec_l82Copy_m (a0 : TreeWorld) : Option (TreeWorld) :=
 gd (((0) + (a0.Bridges.length)) * (48 + 1) ≤ 70368744177664) <|
 gd (((0) + (a0.Links.length)) * (24 + 1) ≤ 70368744177664) <|
 gd (((0) + (a0.Down.length)) * (8 + 1) ≤ 70368744177664) <|
 gd (((0) + (a0.AtA.length)) * (32 + 1) ≤ 70368744177664) <|
 gd (((0) + (a0.AtB.length)) * (32 + 1) ≤ 70368744177664) <|
 gd (((0) + (a0.Radio.length)) * (40 + 1) ≤ 70368744177664) <|
 some a0

theorem spec_l82Copy_c {a0 : TreeWorld} {r : TreeWorld} (h : spec_l82Copy_m a0 = some r) : PureC Try.prog 44 [.agg [.d (slD TreeBridge.enc a0.Bridges), .d (slD TreeLink.enc a0.Links), .d (slD encInt a0.Down), .d (slD TreeSlot.enc a0.AtA), .d (slD TreeSlot.enc a0.AtB), .d (slD TreeWord.enc a0.Radio)]] (.agg [.osl 5001 0 r.Bridges.length, .osl 5002 0 r.Links.length, .osl 5003 0 r.Down.length, .osl 5004 0 r.AtA.length, .osl 5005 0 r.AtB.length, .osl 5006 0 r.Radio.length]) [⟨5001, 74, 6, r.Bridges.length, rows TreeBridge.enc r.Bridges⟩, ⟨5002, 70, 3, r.Links.length, rows TreeLink.enc r.Links⟩, ⟨5003, 3, 1, r.Down.length, rows encInt r.Down⟩, ⟨5004, 112, 4, r.AtA.length, rows TreeSlot.enc r.AtA⟩, ⟨5005, 112, 4, r.AtB.length, rows TreeSlot.enc r.AtB⟩, ⟨5006, 78, 5, r.Radio.length, rows TreeWord.enc r.Radio⟩] := by
  refine pureC_m tOk (fn := Try.f44) (c := codeOf Try.f44) rfl rfl (by kernel_rfl) rfl rfl (by simp [atomD]) (by simp) (ids_of rfl) ?_
  unfold spec_l82Copy_m at h
  conv => whnf
  obtain ⟨g1, h⟩ := gd_some h
  obtain ⟨g2, h⟩ := gd_some h
  obtain ⟨g3, h⟩ := gd_some h
  obtain ⟨g4, h⟩ := gd_some h
  obtain ⟨g5, h⟩ := gd_some h
  obtain ⟨g6, h⟩ := gd_some h
  refine draw_k tOk (by kernel_rfl) (fun _ => none) 25 [] [[], [], [false, true], [true, true, true], [], [], [false, false, false, false, false, true], [true, true, true, true, true, true, true], [], [], [false, false, false, false, false, false, false, false, false, true], [true, true, true, true, true, true, true, true, true, true, true], [], [], [false, false, false, false, false, false, false, false, false, false, false, false, false, true], [true, true, true, true, true, true, true, true, true, true, true, true, true, true, true], [], [], [false, false, false, false, false, false, false, false, false, false, false, false, false, false, false, false, false, true], [true, true, true, true, true, true, true, true, true, true, true, true, true, true, true, true, true, true, true], [], [], [false, false, false, false, false, false, false, false, false, false, false, false, false, false, false, false, false, false, false, false, false, true], [true, true, true, true, true, true, true, true, true, true, true, true, true, true, true, true, true, true, true, true, true, true, true], [true, true, true, true, true, true, true, true, true, true, true, true, true, true, true, true, true, true, true, true, true, true, true, true]] [[true, true, true, true, true, true, true, true, true, true, true, true, true, true, true, true, true, true, true, true, true, true, true, true, true]] (by decide) (by kernel_rfl) (by kernel_rfl) ?_
  conv => whnf
  refine And.intro g1 ?_
  clear g1
  refine ⟨a0.Bridges.length, rows TreeBridge.enc a0.Bridges, (by first | rfl | (simp; done) | assumption | (simp [dsub_eq] <;> omega) | omega), (by first | exact app_rows (m := a0.Bridges.length) (by first | rfl | (simp; done) | assumption | (simp [dsub_eq] <;> omega) | omega) (by first | rfl | (simp; done) | assumption | (simp [dsub_eq] <;> omega) | omega) (fun _ _ => rfl) (fun _ _ => rfl) | exact app_rows0 (m := a0.Bridges.length) (by first | rfl | (simp; done) | assumption | (simp [dsub_eq] <;> omega) | omega) (fun _ _ => rfl) | exact app_rows (m := a0.Bridges.length) (by first | rfl | (simp; done) | assumption | (simp [dsub_eq] <;> omega) | omega) (by first | rfl | (simp; done) | assumption | (simp [dsub_eq] <;> omega) | omega) (by first | exact fun _ _ => rfl | exact rows_take | (intro i hi; simp only [viewRow_eq, addOff_eq, Int.toNat_zero, Nat.zero_add, Nat.add_zero]; exact rows_take i hi) | exact rows_vt | exact rows_dt | (intro i hi; simp only [viewRow_eq, Nat.zero_add]) | (intro i hi; simp [viewRow_eq])) (by first | exact fun _ _ => rfl | exact rows_take | (intro i hi; simp only [viewRow_eq, addOff_eq, Int.toNat_zero, Nat.zero_add, Nat.add_zero]; exact rows_take i hi) | exact rows_vt | exact rows_dt | (intro i hi; simp only [viewRow_eq, Nat.zero_add]) | (intro i hi; simp [viewRow_eq])) | exact app_rows0 (m := a0.Bridges.length) (by first | rfl | (simp; done) | assumption | (simp [dsub_eq] <;> omega) | omega) (by first | exact fun _ _ => rfl | exact rows_take | (intro i hi; simp only [viewRow_eq, addOff_eq, Int.toNat_zero, Nat.zero_add, Nat.add_zero]; exact rows_take i hi) | exact rows_vt | exact rows_dt | (intro i hi; simp only [viewRow_eq, Nat.zero_add]) | (intro i hi; simp [viewRow_eq]))), ?_⟩
  conv => whnf
  refine And.intro g2 ?_
  clear g2
  refine ⟨a0.Links.length, rows TreeLink.enc a0.Links, (by first | rfl | (simp; done) | assumption | (simp [dsub_eq] <;> omega) | omega), (by first | exact app_rows (m := a0.Links.length) (by first | rfl | (simp; done) | assumption | (simp [dsub_eq] <;> omega) | omega) (by first | rfl | (simp; done) | assumption | (simp [dsub_eq] <;> omega) | omega) (fun _ _ => rfl) (fun _ _ => rfl) | exact app_rows0 (m := a0.Links.length) (by first | rfl | (simp; done) | assumption | (simp [dsub_eq] <;> omega) | omega) (fun _ _ => rfl) | exact app_rows (m := a0.Links.length) (by first | rfl | (simp; done) | assumption | (simp [dsub_eq] <;> omega) | omega) (by first | rfl | (simp; done) | assumption | (simp [dsub_eq] <;> omega) | omega) (by first | exact fun _ _ => rfl | exact rows_take | (intro i hi; simp only [viewRow_eq, addOff_eq, Int.toNat_zero, Nat.zero_add, Nat.add_zero]; exact rows_take i hi) | exact rows_vt | exact rows_dt | (intro i hi; simp only [viewRow_eq, Nat.zero_add]) | (intro i hi; simp [viewRow_eq])) (by first | exact fun _ _ => rfl | exact rows_take | (intro i hi; simp only [viewRow_eq, addOff_eq, Int.toNat_zero, Nat.zero_add, Nat.add_zero]; exact rows_take i hi) | exact rows_vt | exact rows_dt | (intro i hi; simp only [viewRow_eq, Nat.zero_add]) | (intro i hi; simp [viewRow_eq])) | exact app_rows0 (m := a0.Links.length) (by first | rfl | (simp; done) | assumption | (simp [dsub_eq] <;> omega) | omega) (by first | exact fun _ _ => rfl | exact rows_take | (intro i hi; simp only [viewRow_eq, addOff_eq, Int.toNat_zero, Nat.zero_add, Nat.add_zero]; exact rows_take i hi) | exact rows_vt | exact rows_dt | (intro i hi; simp only [viewRow_eq, Nat.zero_add]) | (intro i hi; simp [viewRow_eq]))), ?_⟩
  conv => whnf
  refine And.intro g3 ?_
  clear g3
  refine ⟨a0.Down.length, rows encInt a0.Down, (by first | rfl | (simp; done) | assumption | (simp [dsub_eq] <;> omega) | omega), (by first | exact app_rows (m := a0.Down.length) (by first | rfl | (simp; done) | assumption | (simp [dsub_eq] <;> omega) | omega) (by first | rfl | (simp; done) | assumption | (simp [dsub_eq] <;> omega) | omega) (fun _ _ => rfl) (fun _ _ => rfl) | exact app_rows0 (m := a0.Down.length) (by first | rfl | (simp; done) | assumption | (simp [dsub_eq] <;> omega) | omega) (fun _ _ => rfl) | exact app_rows (m := a0.Down.length) (by first | rfl | (simp; done) | assumption | (simp [dsub_eq] <;> omega) | omega) (by first | rfl | (simp; done) | assumption | (simp [dsub_eq] <;> omega) | omega) (by first | exact fun _ _ => rfl | exact rows_take | (intro i hi; simp only [viewRow_eq, addOff_eq, Int.toNat_zero, Nat.zero_add, Nat.add_zero]; exact rows_take i hi) | exact rows_vt | exact rows_dt | (intro i hi; simp only [viewRow_eq, Nat.zero_add]) | (intro i hi; simp [viewRow_eq])) (by first | exact fun _ _ => rfl | exact rows_take | (intro i hi; simp only [viewRow_eq, addOff_eq, Int.toNat_zero, Nat.zero_add, Nat.add_zero]; exact rows_take i hi) | exact rows_vt | exact rows_dt | (intro i hi; simp only [viewRow_eq, Nat.zero_add]) | (intro i hi; simp [viewRow_eq])) | exact app_rows0 (m := a0.Down.length) (by first | rfl | (simp; done) | assumption | (simp [dsub_eq] <;> omega) | omega) (by first | exact fun _ _ => rfl | exact rows_take | (intro i hi; simp only [viewRow_eq, addOff_eq, Int.toNat_zero, Nat.zero_add, Nat.add_zero]; exact rows_take i hi) | exact rows_vt | exact rows_dt | (intro i hi; simp only [viewRow_eq, Nat.zero_add]) | (intro i hi; simp [viewRow_eq]))), ?_⟩
  conv => whnf
  refine And.intro g4 ?_
  clear g4
  refine ⟨a0.AtA.length, rows TreeSlot.enc a0.AtA, (by first | rfl | (simp; done) | assumption | (simp [dsub_eq] <;> omega) | omega), (by first | exact app_rows (m := a0.AtA.length) (by first | rfl | (simp; done) | assumption | (simp [dsub_eq] <;> omega) | omega) (by first | rfl | (simp; done) | assumption | (simp [dsub_eq] <;> omega) | omega) (fun _ _ => rfl) (fun _ _ => rfl) | exact app_rows0 (m := a0.AtA.length) (by first | rfl | (simp; done) | assumption | (simp [dsub_eq] <;> omega) | omega) (fun _ _ => rfl) | exact app_rows (m := a0.AtA.length) (by first | rfl | (simp; done) | assumption | (simp [dsub_eq] <;> omega) | omega) (by first | rfl | (simp; done) | assumption | (simp [dsub_eq] <;> omega) | omega) (by first | exact fun _ _ => rfl | exact rows_take | (intro i hi; simp only [viewRow_eq, addOff_eq, Int.toNat_zero, Nat.zero_add, Nat.add_zero]; exact rows_take i hi) | exact rows_vt | exact rows_dt | (intro i hi; simp only [viewRow_eq, Nat.zero_add]) | (intro i hi; simp [viewRow_eq])) (by first | exact fun _ _ => rfl | exact rows_take | (intro i hi; simp only [viewRow_eq, addOff_eq, Int.toNat_zero, Nat.zero_add, Nat.add_zero]; exact rows_take i hi) | exact rows_vt | exact rows_dt | (intro i hi; simp only [viewRow_eq, Nat.zero_add]) | (intro i hi; simp [viewRow_eq])) | exact app_rows0 (m := a0.AtA.length) (by first | rfl | (simp; done) | assumption | (simp [dsub_eq] <;> omega) | omega) (by first | exact fun _ _ => rfl | exact rows_take | (intro i hi; simp only [viewRow_eq, addOff_eq, Int.toNat_zero, Nat.zero_add, Nat.add_zero]; exact rows_take i hi) | exact rows_vt | exact rows_dt | (intro i hi; simp only [viewRow_eq, Nat.zero_add]) | (intro i hi; simp [viewRow_eq]))), ?_⟩
  conv => whnf
  refine And.intro g5 ?_
  clear g5
  refine ⟨a0.AtB.length, rows TreeSlot.enc a0.AtB, (by first | rfl | (simp; done) | assumption | (simp [dsub_eq] <;> omega) | omega), (by first | exact app_rows (m := a0.AtB.length) (by first | rfl | (simp; done) | assumption | (simp [dsub_eq] <;> omega) | omega) (by first | rfl | (simp; done) | assumption | (simp [dsub_eq] <;> omega) | omega) (fun _ _ => rfl) (fun _ _ => rfl) | exact app_rows0 (m := a0.AtB.length) (by first | rfl | (simp; done) | assumption | (simp [dsub_eq] <;> omega) | omega) (fun _ _ => rfl) | exact app_rows (m := a0.AtB.length) (by first | rfl | (simp; done) | assumption | (simp [dsub_eq] <;> omega) | omega) (by first | rfl | (simp; done) | assumption | (simp [dsub_eq] <;> omega) | omega) (by first | exact fun _ _ => rfl | exact rows_take | (intro i hi; simp only [viewRow_eq, addOff_eq, Int.toNat_zero, Nat.zero_add, Nat.add_zero]; exact rows_take i hi) | exact rows_vt | exact rows_dt | (intro i hi; simp only [viewRow_eq, Nat.zero_add]) | (intro i hi; simp [viewRow_eq])) (by first | exact fun _ _ => rfl | exact rows_take | (intro i hi; simp only [viewRow_eq, addOff_eq, Int.toNat_zero, Nat.zero_add, Nat.add_zero]; exact rows_take i hi) | exact rows_vt | exact rows_dt | (intro i hi; simp only [viewRow_eq, Nat.zero_add]) | (intro i hi; simp [viewRow_eq])) | exact app_rows0 (m := a0.AtB.length) (by first | rfl | (simp; done) | assumption | (simp [dsub_eq] <;> omega) | omega) (by first | exact fun _ _ => rfl | exact rows_take | (intro i hi; simp only [viewRow_eq, addOff_eq, Int.toNat_zero, Nat.zero_add, Nat.add_zero]; exact rows_take i hi) | exact rows_vt | exact rows_dt | (intro i hi; simp only [viewRow_eq, Nat.zero_add]) | (intro i hi; simp [viewRow_eq]))), ?_⟩
  conv => whnf
  refine And.intro g6 ?_
  clear g6
  refine ⟨a0.Radio.length, rows TreeWord.enc a0.Radio, (by first | rfl | (simp; done) | assumption | (simp [dsub_eq] <;> omega) | omega), (by first | exact app_rows (m := a0.Radio.length) (by first | rfl | (simp; done) | assumption | (simp [dsub_eq] <;> omega) | omega) (by first | rfl | (simp; done) | assumption | (simp [dsub_eq] <;> omega) | omega) (fun _ _ => rfl) (fun _ _ => rfl) | exact app_rows0 (m := a0.Radio.length) (by first | rfl | (simp; done) | assumption | (simp [dsub_eq] <;> omega) | omega) (fun _ _ => rfl) | exact app_rows (m := a0.Radio.length) (by first | rfl | (simp; done) | assumption | (simp [dsub_eq] <;> omega) | omega) (by first | rfl | (simp; done) | assumption | (simp [dsub_eq] <;> omega) | omega) (by first | exact fun _ _ => rfl | exact rows_take | (intro i hi; simp only [viewRow_eq, addOff_eq, Int.toNat_zero, Nat.zero_add, Nat.add_zero]; exact rows_take i hi) | exact rows_vt | exact rows_dt | (intro i hi; simp only [viewRow_eq, Nat.zero_add]) | (intro i hi; simp [viewRow_eq])) (by first | exact fun _ _ => rfl | exact rows_take | (intro i hi; simp only [viewRow_eq, addOff_eq, Int.toNat_zero, Nat.zero_add, Nat.add_zero]; exact rows_take i hi) | exact rows_vt | exact rows_dt | (intro i hi; simp only [viewRow_eq, Nat.zero_add]) | (intro i hi; simp [viewRow_eq])) | exact app_rows0 (m := a0.Radio.length) (by first | rfl | (simp; done) | assumption | (simp [dsub_eq] <;> omega) | omega) (by first | exact fun _ _ => rfl | exact rows_take | (intro i hi; simp only [viewRow_eq, addOff_eq, Int.toNat_zero, Nat.zero_add, Nat.add_zero]; exact rows_take i hi) | exact rows_vt | exact rows_dt | (intro i hi; simp only [viewRow_eq, Nat.zero_add]) | (intro i hi; simp [viewRow_eq]))), ?_⟩
  conv => whnf
  refine And.intro (by kernel_rfl) ?_
  conv => whnf
  obtain rfl := Option.some.inj h
  refine ⟨⟨0, 28, [(2, .ref 2 0 0)], [], [(5006, .arr 78 5 a0.Radio.length (rows TreeWord.enc a0.Radio)), (5005, .arr 112 4 a0.AtB.length (rows TreeSlot.enc a0.AtB)), (5004, .arr 112 4 a0.AtA.length (rows TreeSlot.enc a0.AtA)), (5003, .arr 3 1 a0.Down.length (rows encInt a0.Down)), (5002, .arr 70 3 a0.Links.length (rows TreeLink.enc a0.Links)), (5001, .arr 74 6 a0.Bridges.length (rows TreeBridge.enc a0.Bridges)), (2, .box 31 [.osl 5001 0 a0.Bridges.length, .osl 5002 0 a0.Links.length, .osl 5003 0 a0.Down.length, .osl 5004 0 a0.AtA.length, .osl 5005 0 a0.AtB.length, .osl 5006 0 a0.Radio.length])], []⟩, ?_, And.intro rfl ?_⟩
  · refine LE.trans (S' := ⟨0, 28, [(2, .ref 2 0 0)], [], [(26, .arr 78 5 a0.Radio.length (rows TreeWord.enc a0.Radio)), (22, .arr 112 4 a0.AtB.length (rows TreeSlot.enc a0.AtB)), (18, .arr 112 4 a0.AtA.length (rows TreeSlot.enc a0.AtA)), (14, .arr 3 1 a0.Down.length (rows encInt a0.Down)), (10, .arr 70 3 a0.Links.length (rows TreeLink.enc a0.Links)), (6, .arr 74 6 a0.Bridges.length (rows TreeBridge.enc a0.Bridges)), (2, .box 31 [.osl 6 0 a0.Bridges.length, .osl 10 0 a0.Links.length, .osl 14 0 a0.Down.length, .osl 18 0 a0.AtA.length, .osl 22 0 a0.AtB.length, .osl 26 0 a0.Radio.length])], []⟩) (le_mk ?_ ?_ ?_) (le_swaps [(6, 5001), (10, 5002), (14, 5003), (18, 5004), (22, 5005), (26, 5006)] rfl) <;> (repeat' first | ((conv => whnf); first | exact trivial | refine And.intro ?_ ?_ | exact BLe.refl _ | exact VLe.refl _) | exact trivial | exact rfl | refine And.intro ?_ ?_ | exact BLe.refl _ | exact VLe.refl _ | exact VLe.any _ | exact VLe.nil_osl rfl | exact VLe.nil_sl rfl | exact VLe.built rfl rfl | (refine VLe.osl rfl ?_; (first | rfl | (simp; done) | assumption | (simp [dsub_eq] <;> omega) | omega)) | exact VLe.rows (by first | rfl | (simp; done) | assumption | (simp [dsub_eq] <;> omega) | omega) (fun _ _ => rfl) | exact VLe.rows (by simp [dsub_eq] <;> omega) rows_take | exact VLe.rows (by simp [dsub_eq] <;> omega) rows_dt | exact VLe.rows (by simp [dsub_eq] <;> omega) rows_vt | exact VLe.rows (by simp) (fun i _ => by simp [viewRow_eq, Nat.add_comm]) | refine VLe.aggL ?_ | (refine BLe.rows rfl ?_ fun _ _ => rfl; (first | rfl | (simp; done) | assumption | (simp [dsub_eq] <;> omega) | omega)) | (refine BLe.rows rfl rfl ?_; first | exact rows_take) | refine BLe.box ?_)
  · exact And.intro (And.intro rfl (And.intro rfl (fun _ _ => rfl))) (And.intro (And.intro rfl (And.intro rfl (fun _ _ => rfl))) (And.intro (And.intro rfl (And.intro rfl (fun _ _ => rfl))) (And.intro (And.intro rfl (And.intro rfl (fun _ _ => rfl))) (And.intro (And.intro rfl (And.intro rfl (fun _ _ => rfl))) (And.intro (And.intro rfl (And.intro rfl (fun _ _ => rfl))) (trivial))))))

noncomputable def spec_TreeOpenWorld_m (a0 : (List Int)) (a1 : (List TreeLink)) : Option (TreeWorld × Bool) :=
 bd (spec_TreeLinksOk_m ((a0.length : Nat) : Int) a1) fun x1 =>
(if (!x1) = true then
 some ((⟨[], [], [], [], [], []⟩ : TreeWorld), false)
else
 gd ((0 : Int) ≤ ((a1.length : Nat) : Int) ∧ ((a1.length : Nat) : Int) ≤ ((a1.length : Nat) : Int) ∧ ((a1.length : Nat) : Int) * 32 ≤ 140737488355328 ∧ ((a1.length : Nat) : Int) ≤ 140737488355328) <|
 gd ((0 : Int) ≤ ((a1.length : Nat) : Int) ∧ ((a1.length : Nat) : Int) ≤ ((a1.length : Nat) : Int) ∧ ((a1.length : Nat) : Int) * 32 ≤ 140737488355328 ∧ ((a1.length : Nat) : Int) ≤ 140737488355328) <|
 bd (lp (σ := List TreeBridge × Int) (β := ((List TreeBridge) × Nat)) (fun s4 =>
(if (decide (s4.2 < ((a0.length : Nat) : Int))) = true then
 gd ((0 : Int) ≤ s4.2 ∧ s4.2 < ((a0.length : Nat) : Int)) <|
 gd ((0 : Int) ≤ s4.2 ∧ s4.2 < ((a0.length : Nat) : Int)) <|
 bd (spec_l82Self_m (a0.getD s4.2.toNat default)) fun x10 =>
 gd (((s4.1.length) + (([(⟨(a0.getD s4.2.toNat default), true, x10⟩ : TreeBridge)] : List TreeBridge).length)) * (48 + 1) ≤ 70368744177664) <|
 some (.inl ((s4.1 ++ ([(⟨(a0.getD s4.2.toNat default), true, x10⟩ : TreeBridge)] : List TreeBridge)), IntKind.i64.wrap (s4.2 + 1)))
else
 some (.inr (s4.1, s4.1.length)))) (([] : List TreeBridge), 0)) fun x7 =>
 bd (spec_TreeWorldOk_m (⟨x7.1, a1, [], (List.replicate (((a1.length : Nat) : Int) : Int).toNat (default : TreeSlot)), (List.replicate (((a1.length : Nat) : Int) : Int).toNat (default : TreeSlot)), []⟩ : TreeWorld)) fun x13 =>
(if (!x13) = true then
 some ((⟨[], [], [], [], [], []⟩ : TreeWorld), false)
else
 bd (spec_l82Copy_m (⟨x7.1, a1, [], (List.replicate (((a1.length : Nat) : Int) : Int).toNat (default : TreeSlot)), (List.replicate (((a1.length : Nat) : Int) : Int).toNat (default : TreeSlot)), []⟩ : TreeWorld)) fun x14 =>
 some (x14, true)))

theorem spec_TreeOpenWorld_c {a0 : (List Int)} {a1 : (List TreeLink)} {r : TreeWorld × Bool} (h : spec_TreeOpenWorld_m a0 a1 = some r) : PureC Try.prog 11 [.d (slD encInt a0), .d (slD TreeLink.enc a1)] (.tup [.agg [.osl 5001 0 r.1.Bridges.length, .osl 5002 0 r.1.Links.length, .osl 5003 0 r.1.Down.length, .osl 5004 0 r.1.AtA.length, .osl 5005 0 r.1.AtB.length, .osl 5006 0 r.1.Radio.length], .d (.bool r.2)]) [⟨5001, 74, 6, r.1.Bridges.length, rows TreeBridge.enc r.1.Bridges⟩, ⟨5002, 70, 3, r.1.Links.length, rows TreeLink.enc r.1.Links⟩, ⟨5003, 3, 1, r.1.Down.length, rows encInt r.1.Down⟩, ⟨5004, 112, 4, r.1.AtA.length, rows TreeSlot.enc r.1.AtA⟩, ⟨5005, 112, 4, r.1.AtB.length, rows TreeSlot.enc r.1.AtB⟩, ⟨5006, 78, 5, r.1.Radio.length, rows TreeWord.enc r.1.Radio⟩] := by
  refine pureC_m tOk (fn := Try.f11) (c := codeOf Try.f11) rfl rfl (by kernel_rfl) rfl rfl (by simp [atomD]) (by simp) (ids_of rfl) ?_
  unfold spec_TreeOpenWorld_m at h
  conv => whnf
  refine seq_in tOk ?_
  conv => whnf
  obtain ⟨x1, hx1, h⟩ := bd_some h
  refine callC 0 (spec_TreeLinksOk_c hx1) (by kernel_rfl) (by kernel_rfl) ?_
  clear hx1
  conv => whnf
  refine And.intro (fun e => ?_) (fun e => ?_)
  · replace h := ite_t h e; clear e
    conv => whnf
    obtain rfl := Option.some.inj h
    refine ⟨⟨0, 50, [(4, .ref 4 0 0), (5, .d (.bool false))], [], [(5006, .arr 78 5 (([] : List TreeWord).length) (rows TreeWord.enc ([] : List TreeWord))), (5005, .arr 112 4 (([] : List TreeSlot).length) (rows TreeSlot.enc ([] : List TreeSlot))), (5004, .arr 112 4 (([] : List TreeSlot).length) (rows TreeSlot.enc ([] : List TreeSlot))), (5003, .arr 3 1 (([] : List Int).length) (rows encInt ([] : List Int))), (5002, .arr 70 3 (([] : List TreeLink).length) (rows TreeLink.enc ([] : List TreeLink))), (5001, .arr 74 6 (([] : List TreeBridge).length) (rows TreeBridge.enc ([] : List TreeBridge))), (4, .box 31 [.osl 5001 0 (([] : List TreeBridge).length), .osl 5002 0 (([] : List TreeLink).length), .osl 5003 0 (([] : List Int).length), .osl 5004 0 (([] : List TreeSlot).length), .osl 5005 0 (([] : List TreeSlot).length), .osl 5006 0 (([] : List TreeWord).length)])], []⟩, ?_, And.intro rfl ?_⟩
    · refine LE.trans (S' := ⟨0, 50, [(4, .ref 4 0 0), (5, .d (.bool false))], [], [(4, .box 31 [.d (.nil), .d (.nil), .d (.nil), .d (.nil), .d (.nil), .d (.nil)])], []⟩) (le_mk ?_ ?_ ?_) (LE.trans (S' := ⟨0, 50, [(4, .ref 4 0 0), (5, .d (.bool false))], [], [(5001, .arr 74 6 (([] : List TreeBridge).length) (rows TreeBridge.enc ([] : List TreeBridge))), (4, .box 31 [.d (.nil), .d (.nil), .d (.nil), .d (.nil), .d (.nil), .d (.nil)])], []⟩) (le_ph 5001 74 6 (rows TreeBridge.enc ([] : List TreeBridge)) rfl rfl) (LE.trans (S' := ⟨0, 50, [(4, .ref 4 0 0), (5, .d (.bool false))], [], [(5001, .arr 74 6 (([] : List TreeBridge).length) (rows TreeBridge.enc ([] : List TreeBridge))), (4, .box 31 [.osl 5001 0 (([] : List TreeBridge).length), .d (.nil), .d (.nil), .d (.nil), .d (.nil), .d (.nil)])], []⟩) (le_mk ?_ ?_ ?_) (LE.trans (S' := ⟨0, 50, [(4, .ref 4 0 0), (5, .d (.bool false))], [], [(5002, .arr 70 3 (([] : List TreeLink).length) (rows TreeLink.enc ([] : List TreeLink))), (5001, .arr 74 6 (([] : List TreeBridge).length) (rows TreeBridge.enc ([] : List TreeBridge))), (4, .box 31 [.osl 5001 0 (([] : List TreeBridge).length), .d (.nil), .d (.nil), .d (.nil), .d (.nil), .d (.nil)])], []⟩) (le_ph 5002 70 3 (rows TreeLink.enc ([] : List TreeLink)) rfl rfl) (LE.trans (S' := ⟨0, 50, [(4, .ref 4 0 0), (5, .d (.bool false))], [], [(5002, .arr 70 3 (([] : List TreeLink).length) (rows TreeLink.enc ([] : List TreeLink))), (5001, .arr 74 6 (([] : List TreeBridge).length) (rows TreeBridge.enc ([] : List TreeBridge))), (4, .box 31 [.osl 5001 0 (([] : List TreeBridge).length), .osl 5002 0 (([] : List TreeLink).length), .d (.nil), .d (.nil), .d (.nil), .d (.nil)])], []⟩) (le_mk ?_ ?_ ?_) (LE.trans (S' := ⟨0, 50, [(4, .ref 4 0 0), (5, .d (.bool false))], [], [(5003, .arr 3 1 (([] : List Int).length) (rows encInt ([] : List Int))), (5002, .arr 70 3 (([] : List TreeLink).length) (rows TreeLink.enc ([] : List TreeLink))), (5001, .arr 74 6 (([] : List TreeBridge).length) (rows TreeBridge.enc ([] : List TreeBridge))), (4, .box 31 [.osl 5001 0 (([] : List TreeBridge).length), .osl 5002 0 (([] : List TreeLink).length), .d (.nil), .d (.nil), .d (.nil), .d (.nil)])], []⟩) (le_ph 5003 3 1 (rows encInt ([] : List Int)) rfl rfl) (LE.trans (S' := ⟨0, 50, [(4, .ref 4 0 0), (5, .d (.bool false))], [], [(5003, .arr 3 1 (([] : List Int).length) (rows encInt ([] : List Int))), (5002, .arr 70 3 (([] : List TreeLink).length) (rows TreeLink.enc ([] : List TreeLink))), (5001, .arr 74 6 (([] : List TreeBridge).length) (rows TreeBridge.enc ([] : List TreeBridge))), (4, .box 31 [.osl 5001 0 (([] : List TreeBridge).length), .osl 5002 0 (([] : List TreeLink).length), .osl 5003 0 (([] : List Int).length), .d (.nil), .d (.nil), .d (.nil)])], []⟩) (le_mk ?_ ?_ ?_) (LE.trans (S' := ⟨0, 50, [(4, .ref 4 0 0), (5, .d (.bool false))], [], [(5004, .arr 112 4 (([] : List TreeSlot).length) (rows TreeSlot.enc ([] : List TreeSlot))), (5003, .arr 3 1 (([] : List Int).length) (rows encInt ([] : List Int))), (5002, .arr 70 3 (([] : List TreeLink).length) (rows TreeLink.enc ([] : List TreeLink))), (5001, .arr 74 6 (([] : List TreeBridge).length) (rows TreeBridge.enc ([] : List TreeBridge))), (4, .box 31 [.osl 5001 0 (([] : List TreeBridge).length), .osl 5002 0 (([] : List TreeLink).length), .osl 5003 0 (([] : List Int).length), .d (.nil), .d (.nil), .d (.nil)])], []⟩) (le_ph 5004 112 4 (rows TreeSlot.enc ([] : List TreeSlot)) rfl rfl) (LE.trans (S' := ⟨0, 50, [(4, .ref 4 0 0), (5, .d (.bool false))], [], [(5004, .arr 112 4 (([] : List TreeSlot).length) (rows TreeSlot.enc ([] : List TreeSlot))), (5003, .arr 3 1 (([] : List Int).length) (rows encInt ([] : List Int))), (5002, .arr 70 3 (([] : List TreeLink).length) (rows TreeLink.enc ([] : List TreeLink))), (5001, .arr 74 6 (([] : List TreeBridge).length) (rows TreeBridge.enc ([] : List TreeBridge))), (4, .box 31 [.osl 5001 0 (([] : List TreeBridge).length), .osl 5002 0 (([] : List TreeLink).length), .osl 5003 0 (([] : List Int).length), .osl 5004 0 (([] : List TreeSlot).length), .d (.nil), .d (.nil)])], []⟩) (le_mk ?_ ?_ ?_) (LE.trans (S' := ⟨0, 50, [(4, .ref 4 0 0), (5, .d (.bool false))], [], [(5005, .arr 112 4 (([] : List TreeSlot).length) (rows TreeSlot.enc ([] : List TreeSlot))), (5004, .arr 112 4 (([] : List TreeSlot).length) (rows TreeSlot.enc ([] : List TreeSlot))), (5003, .arr 3 1 (([] : List Int).length) (rows encInt ([] : List Int))), (5002, .arr 70 3 (([] : List TreeLink).length) (rows TreeLink.enc ([] : List TreeLink))), (5001, .arr 74 6 (([] : List TreeBridge).length) (rows TreeBridge.enc ([] : List TreeBridge))), (4, .box 31 [.osl 5001 0 (([] : List TreeBridge).length), .osl 5002 0 (([] : List TreeLink).length), .osl 5003 0 (([] : List Int).length), .osl 5004 0 (([] : List TreeSlot).length), .d (.nil), .d (.nil)])], []⟩) (le_ph 5005 112 4 (rows TreeSlot.enc ([] : List TreeSlot)) rfl rfl) (LE.trans (S' := ⟨0, 50, [(4, .ref 4 0 0), (5, .d (.bool false))], [], [(5005, .arr 112 4 (([] : List TreeSlot).length) (rows TreeSlot.enc ([] : List TreeSlot))), (5004, .arr 112 4 (([] : List TreeSlot).length) (rows TreeSlot.enc ([] : List TreeSlot))), (5003, .arr 3 1 (([] : List Int).length) (rows encInt ([] : List Int))), (5002, .arr 70 3 (([] : List TreeLink).length) (rows TreeLink.enc ([] : List TreeLink))), (5001, .arr 74 6 (([] : List TreeBridge).length) (rows TreeBridge.enc ([] : List TreeBridge))), (4, .box 31 [.osl 5001 0 (([] : List TreeBridge).length), .osl 5002 0 (([] : List TreeLink).length), .osl 5003 0 (([] : List Int).length), .osl 5004 0 (([] : List TreeSlot).length), .osl 5005 0 (([] : List TreeSlot).length), .d (.nil)])], []⟩) (le_mk ?_ ?_ ?_) (LE.trans (S' := ⟨0, 50, [(4, .ref 4 0 0), (5, .d (.bool false))], [], [(5006, .arr 78 5 (([] : List TreeWord).length) (rows TreeWord.enc ([] : List TreeWord))), (5005, .arr 112 4 (([] : List TreeSlot).length) (rows TreeSlot.enc ([] : List TreeSlot))), (5004, .arr 112 4 (([] : List TreeSlot).length) (rows TreeSlot.enc ([] : List TreeSlot))), (5003, .arr 3 1 (([] : List Int).length) (rows encInt ([] : List Int))), (5002, .arr 70 3 (([] : List TreeLink).length) (rows TreeLink.enc ([] : List TreeLink))), (5001, .arr 74 6 (([] : List TreeBridge).length) (rows TreeBridge.enc ([] : List TreeBridge))), (4, .box 31 [.osl 5001 0 (([] : List TreeBridge).length), .osl 5002 0 (([] : List TreeLink).length), .osl 5003 0 (([] : List Int).length), .osl 5004 0 (([] : List TreeSlot).length), .osl 5005 0 (([] : List TreeSlot).length), .d (.nil)])], []⟩) (le_ph 5006 78 5 (rows TreeWord.enc ([] : List TreeWord)) rfl rfl) (le_mk ?_ ?_ ?_)))))))))))) <;> (repeat' first | ((conv => whnf); first | exact trivial | refine And.intro ?_ ?_ | exact BLe.refl _ | exact VLe.refl _) | exact trivial | exact rfl | refine And.intro ?_ ?_ | exact BLe.refl _ | exact VLe.refl _ | exact VLe.any _ | exact VLe.nil_osl rfl | exact VLe.nil_sl rfl | exact VLe.built rfl rfl | (refine VLe.osl rfl ?_; (first | rfl | (simp; done) | assumption | (simp [dsub_eq] <;> omega) | omega)) | exact VLe.rows (by first | rfl | (simp; done) | assumption | (simp [dsub_eq] <;> omega) | omega) (fun _ _ => rfl) | exact VLe.rows (by simp [dsub_eq] <;> omega) rows_take | exact VLe.rows (by simp [dsub_eq] <;> omega) rows_dt | exact VLe.rows (by simp [dsub_eq] <;> omega) rows_vt | exact VLe.rows (by simp) (fun i _ => by simp [viewRow_eq, Nat.add_comm]) | refine VLe.aggL ?_ | (refine BLe.rows rfl ?_ fun _ _ => rfl; (first | rfl | (simp; done) | assumption | (simp [dsub_eq] <;> omega) | omega)) | (refine BLe.rows rfl rfl ?_; first | exact rows_take) | refine BLe.box ?_)
    · exact And.intro (And.intro rfl (And.intro rfl (fun _ _ => rfl))) (And.intro (And.intro rfl (And.intro rfl (fun _ _ => rfl))) (And.intro (And.intro rfl (And.intro rfl (fun _ _ => rfl))) (And.intro (And.intro rfl (And.intro rfl (fun _ _ => rfl))) (And.intro (And.intro rfl (And.intro rfl (fun _ _ => rfl))) (And.intro (And.intro rfl (And.intro rfl (fun _ _ => rfl))) (trivial))))))
  · replace h := ite_f h e; clear e
    conv => whnf
    obtain ⟨g2, h⟩ := gd_some h
    obtain ⟨g3, h⟩ := gd_some h
    refine draw_k tOk (by kernel_rfl) (fun _ => none) 10 [] [[], [], [], [false, false, true], [false, false, true, true], [], [false, false, false, false, false, true], [false, false, false, false, false, true, true], [true, true, true, true, true, true, true, true], []] [[true, true, true, true, true, true, true, true, true, true]] (by decide) (by kernel_rfl) (by kernel_rfl) ?_
    conv => whnf
    refine And.intro g2 ?_
    clear g2
    refine ⟨(List.replicate (((a1.length : Nat) : Int) : Int).toNat (default : TreeSlot)).length, rows TreeSlot.enc (List.replicate (((a1.length : Nat) : Int) : Int).toNat (default : TreeSlot)), by simp, make_rows rfl, ?_⟩
    conv => whnf
    refine And.intro g3 ?_
    clear g3
    refine ⟨(List.replicate (((a1.length : Nat) : Int) : Int).toNat (default : TreeSlot)).length, rows TreeSlot.enc (List.replicate (((a1.length : Nat) : Int) : Int).toNat (default : TreeSlot)), by simp, make_rows rfl, ?_⟩
    conv => whnf
    refine And.intro (by kernel_rfl) ?_
    conv => whnf
    refine seq_in tOk ?_
    conv => whnf
    obtain ⟨x7, hx7, h⟩ := bd_some h
    refine loop_m tOk hx7 (fun s4 => ⟨0, 50, [(0, .d (slD encInt a0)), (4, .ref 4 0 0), (6, .ref 6 0 0), (7, .d (.int .i64 s4.2))], [], [(7001, .arr 74 6 s4.1.length (rows TreeBridge.enc s4.1)), (6, .box 31 [.osl 7001 0 s4.1.length, .d (slD TreeLink.enc a1), .d (.nil), .osl 18 0 ((List.replicate (((a1.length : Nat) : Int) : Int).toNat (default : TreeSlot)).length), .osl 21 0 ((List.replicate (((a1.length : Nat) : Int) : Int).toNat (default : TreeSlot)).length), .d (.nil)]), (21, .arr 112 4 ((List.replicate (((a1.length : Nat) : Int) : Int).toNat (default : TreeSlot)).length) (rows TreeSlot.enc (List.replicate (((a1.length : Nat) : Int) : Int).toNat (default : TreeSlot)))), (18, .arr 112 4 ((List.replicate (((a1.length : Nat) : Int) : Int).toNat (default : TreeSlot)).length) (rows TreeSlot.enc (List.replicate (((a1.length : Nat) : Int) : Int).toNat (default : TreeSlot)))), (4, .box 31 [.d (.nil), .d (.nil), .d (.nil), .d (.nil), .d (.nil), .d (.nil)])], []⟩) ?_ ?_
    · refine LE.trans (S' := ⟨0, 50, [(0, .d (slD encInt a0)), (4, .ref 4 0 0), (6, .ref 6 0 0), (7, .d (.int .i64 0))], [], [(6, .box 31 [.d (.nil), .d (slD TreeLink.enc a1), .d (.nil), .osl 18 0 ((List.replicate (((a1.length : Nat) : Int) : Int).toNat (default : TreeSlot)).length), .osl 21 0 ((List.replicate (((a1.length : Nat) : Int) : Int).toNat (default : TreeSlot)).length), .d (.nil)]), (21, .arr 112 4 ((List.replicate (((a1.length : Nat) : Int) : Int).toNat (default : TreeSlot)).length) (rows TreeSlot.enc (List.replicate (((a1.length : Nat) : Int) : Int).toNat (default : TreeSlot)))), (18, .arr 112 4 ((List.replicate (((a1.length : Nat) : Int) : Int).toNat (default : TreeSlot)).length) (rows TreeSlot.enc (List.replicate (((a1.length : Nat) : Int) : Int).toNat (default : TreeSlot)))), (4, .box 31 [.d (.nil), .d (.nil), .d (.nil), .d (.nil), .d (.nil), .d (.nil)])], []⟩) (le_mk ?_ ?_ ?_) (LE.trans (S' := ⟨0, 50, [(0, .d (slD encInt a0)), (4, .ref 4 0 0), (6, .ref 6 0 0), (7, .d (.int .i64 0))], [], [(7001, .arr 74 6 (([] : List TreeBridge).length) (rows TreeBridge.enc ([] : List TreeBridge))), (6, .box 31 [.d (.nil), .d (slD TreeLink.enc a1), .d (.nil), .osl 18 0 ((List.replicate (((a1.length : Nat) : Int) : Int).toNat (default : TreeSlot)).length), .osl 21 0 ((List.replicate (((a1.length : Nat) : Int) : Int).toNat (default : TreeSlot)).length), .d (.nil)]), (21, .arr 112 4 ((List.replicate (((a1.length : Nat) : Int) : Int).toNat (default : TreeSlot)).length) (rows TreeSlot.enc (List.replicate (((a1.length : Nat) : Int) : Int).toNat (default : TreeSlot)))), (18, .arr 112 4 ((List.replicate (((a1.length : Nat) : Int) : Int).toNat (default : TreeSlot)).length) (rows TreeSlot.enc (List.replicate (((a1.length : Nat) : Int) : Int).toNat (default : TreeSlot)))), (4, .box 31 [.d (.nil), .d (.nil), .d (.nil), .d (.nil), .d (.nil), .d (.nil)])], []⟩) (le_ph 7001 74 6 (rows TreeBridge.enc ([] : List TreeBridge)) rfl rfl) (le_mk ?_ ?_ ?_)) <;> (repeat' first | ((conv => whnf); first | exact trivial | refine And.intro ?_ ?_ | exact BLe.refl _ | exact VLe.refl _) | exact trivial | exact rfl | refine And.intro ?_ ?_ | exact BLe.refl _ | exact VLe.refl _ | exact VLe.any _ | exact VLe.nil_osl rfl | exact VLe.nil_sl rfl | exact VLe.built rfl rfl | (refine VLe.osl rfl ?_; (first | rfl | (simp; done) | assumption | (simp [dsub_eq] <;> omega) | omega)) | exact VLe.rows (by first | rfl | (simp; done) | assumption | (simp [dsub_eq] <;> omega) | omega) (fun _ _ => rfl) | exact VLe.rows (by simp [dsub_eq] <;> omega) rows_take | exact VLe.rows (by simp [dsub_eq] <;> omega) rows_dt | exact VLe.rows (by simp [dsub_eq] <;> omega) rows_vt | exact VLe.rows (by simp) (fun i _ => by simp [viewRow_eq, Nat.add_comm]) | refine VLe.aggL ?_ | (refine BLe.rows rfl ?_ fun _ _ => rfl; (first | rfl | (simp; done) | assumption | (simp [dsub_eq] <;> omega) | omega)) | (refine BLe.rows rfl rfl ?_; first | exact rows_take) | refine BLe.box ?_)
    · clear hx7
      intro s4 y5 g6 hy5
      conv => whnf
      refine seq_in tOk ?_
      conv => whnf
      refine And.intro (fun e => ?_) (fun e => ?_)
      · replace g6 := ite_t g6 e; clear e
        conv => whnf
        refine seq_in tOk ?_
        conv => whnf
        obtain ⟨g8, g6⟩ := gd_some g6
        obtain ⟨g9, g6⟩ := gd_some g6
        obtain ⟨x10, hx10, g6⟩ := bd_some g6
        refine draw_k tOk (by kernel_rfl) (fun j => match j with | 10 => some (.pure 0 (.agg [.d (.int .i64 x10.Vector.Root), .d (.int .i64 x10.Vector.Cost), .d (.int .i64 x10.Vector.Age), .d (.int .i64 x10.Link)]) []) | _ => none) 13 [] [[], [true], [], [], [false, false, true, true], [false, false, true, true, true], [], [], [false, false, false, false, false, false, true, true], [false, false, false, false, false, false, true, true, true], [false, false, false, false, false, false, true, true, true, true], [false, false, true, true, true, true, true, true, true, true, true], [false, false, true, true, true, true, true, true, true, true, true, true]] [[true, true, true, true, true, true, true, true, true, true, true, true, true], [true, true, true, true, true, true, true, true, true, true, true, true, true, true], [true, true, true, true, true, true, true, true, true, true, true, true, true, true, true]] (by decide) (by kernel_rfl) (by kernel_rfl) ?_
        conv => whnf
        refine And.intro g8 ?_
        clear g8
        conv => whnf
        refine And.intro g9 ?_
        clear g9
        conv => whnf
        refine And.intro (callD_any (spec_l82Self_c hx10) (by kernel_rfl)) ?_
        conv => whnf
        refine ⟨([(⟨(a0.getD s4.2.toNat default), true, x10⟩ : TreeBridge)] : List TreeBridge).length, rows TreeBridge.enc ([(⟨(a0.getD s4.2.toNat default), true, x10⟩ : TreeBridge)] : List TreeBridge), rfl, build_rows, ?_⟩
        conv => whnf
        refine And.intro (by kernel_rfl) ?_
        conv => whnf
        obtain ⟨g11, g6⟩ := gd_some g6
        refine And.intro g11 ?_
        clear g11
        refine ⟨(s4.1 ++ ([(⟨(a0.getD s4.2.toNat default), true, x10⟩ : TreeBridge)] : List TreeBridge)).length, rows TreeBridge.enc (s4.1 ++ ([(⟨(a0.getD s4.2.toNat default), true, x10⟩ : TreeBridge)] : List TreeBridge)), (by first | rfl | (simp; done) | assumption | (simp [dsub_eq] <;> omega) | omega), (by first | exact app_rows (m := ([(⟨(a0.getD s4.2.toNat default), true, x10⟩ : TreeBridge)] : List TreeBridge).length) (by first | rfl | (simp; done) | assumption | (simp [dsub_eq] <;> omega) | omega) (by first | rfl | (simp; done) | assumption | (simp [dsub_eq] <;> omega) | omega) (fun _ _ => rfl) (fun _ _ => rfl) | exact app_rows0 (m := ([(⟨(a0.getD s4.2.toNat default), true, x10⟩ : TreeBridge)] : List TreeBridge).length) (by first | rfl | (simp; done) | assumption | (simp [dsub_eq] <;> omega) | omega) (fun _ _ => rfl) | exact app_rows (m := ([(⟨(a0.getD s4.2.toNat default), true, x10⟩ : TreeBridge)] : List TreeBridge).length) (by first | rfl | (simp; done) | assumption | (simp [dsub_eq] <;> omega) | omega) (by first | rfl | (simp; done) | assumption | (simp [dsub_eq] <;> omega) | omega) (by first | exact fun _ _ => rfl | exact rows_take | (intro i hi; simp only [viewRow_eq, addOff_eq, Int.toNat_zero, Nat.zero_add, Nat.add_zero]; exact rows_take i hi) | exact rows_vt | exact rows_dt | (intro i hi; simp only [viewRow_eq, Nat.zero_add]) | (intro i hi; simp [viewRow_eq])) (by first | exact fun _ _ => rfl | exact rows_take | (intro i hi; simp only [viewRow_eq, addOff_eq, Int.toNat_zero, Nat.zero_add, Nat.add_zero]; exact rows_take i hi) | exact rows_vt | exact rows_dt | (intro i hi; simp only [viewRow_eq, Nat.zero_add]) | (intro i hi; simp [viewRow_eq])) | exact app_rows0 (m := ([(⟨(a0.getD s4.2.toNat default), true, x10⟩ : TreeBridge)] : List TreeBridge).length) (by first | rfl | (simp; done) | assumption | (simp [dsub_eq] <;> omega) | omega) (by first | exact fun _ _ => rfl | exact rows_take | (intro i hi; simp only [viewRow_eq, addOff_eq, Int.toNat_zero, Nat.zero_add, Nat.add_zero]; exact rows_take i hi) | exact rows_vt | exact rows_dt | (intro i hi; simp only [viewRow_eq, Nat.zero_add]) | (intro i hi; simp [viewRow_eq]))), ?_⟩
        conv => whnf
        obtain rfl := Option.some.inj g6
        refine ⟨_, rfl, le_mk ?_ ?_ ?_⟩ <;> (repeat' first | ((conv => whnf); first | exact trivial | refine And.intro ?_ ?_ | exact BLe.refl _ | exact VLe.refl _) | exact trivial | exact rfl | refine And.intro ?_ ?_ | exact BLe.refl _ | exact VLe.refl _ | exact VLe.any _ | exact VLe.nil_osl rfl | exact VLe.nil_sl rfl | exact VLe.built rfl rfl | (refine VLe.osl rfl ?_; (first | rfl | (simp; done) | assumption | (simp [dsub_eq] <;> omega) | omega)) | exact VLe.rows (by first | rfl | (simp; done) | assumption | (simp [dsub_eq] <;> omega) | omega) (fun _ _ => rfl) | exact VLe.rows (by simp [dsub_eq] <;> omega) rows_take | exact VLe.rows (by simp [dsub_eq] <;> omega) rows_dt | exact VLe.rows (by simp [dsub_eq] <;> omega) rows_vt | exact VLe.rows (by simp) (fun i _ => by simp [viewRow_eq, Nat.add_comm]) | refine VLe.aggL ?_ | (refine BLe.rows rfl ?_ fun _ _ => rfl; (first | rfl | (simp; done) | assumption | (simp [dsub_eq] <;> omega) | omega)) | (refine BLe.rows rfl rfl ?_; first | exact rows_take) | refine BLe.box ?_)
      · replace g6 := ite_f g6 e; clear e
        conv => whnf
        obtain rfl := Option.some.inj g6
        obtain rfl := hy5 _ rfl
        refine seq_in tOk ?_
        conv => whnf
        obtain ⟨x13, hx13, h⟩ := bd_some h
        refine callW (args1 := [.agg [.d (.sl (s4.1, s4.1.length).2 (rows TreeBridge.enc (s4.1, s4.1.length).1)), .d (slD TreeLink.enc a1), .d (.nil), .d (slD TreeSlot.enc (List.replicate (((a1.length : Nat) : Int) : Int).toNat (default : TreeSlot))), .d (slD TreeSlot.enc (List.replicate (((a1.length : Nat) : Int) : Int).toNat (default : TreeSlot))), .d (.nil)]]) 0 (spec_TreeWorldOk_c hx13) (by kernel_rfl) (by (repeat' first | ((conv => whnf); first | exact trivial | refine And.intro ?_ ?_ | exact BLe.refl _ | exact VLe.refl _) | exact trivial | refine And.intro ?_ ?_ | exact VLe.refl _ | exact VLe.any _ | exact VLe.nil_osl rfl | exact VLe.nil_sl rfl | exact VLe.built rfl rfl | (refine VLe.osl rfl ?_; (first | rfl | (simp; done) | assumption | (simp [dsub_eq] <;> omega) | omega)) | exact VLe.rows (by first | rfl | (simp; done) | assumption | (simp [dsub_eq] <;> omega) | omega) (fun _ _ => rfl) | exact VLe.rows (by simp [dsub_eq] <;> omega) rows_take | exact VLe.rows (by simp [dsub_eq] <;> omega) rows_dt | exact VLe.rows (by simp [dsub_eq] <;> omega) rows_vt | exact VLe.rows (by simp) (fun i _ => by simp [viewRow_eq, Nat.add_comm]) | refine VLe.aggL ?_)) (by kernel_rfl) ?_
        conv => whnf
        refine And.intro (fun e => ?_) (fun e => ?_)
        · replace h := ite_t h e; clear e
          conv => whnf
          obtain rfl := Option.some.inj h
          refine ⟨⟨0, 50, [(4, .ref 4 0 0), (5, .d (.bool false))], [], [(5006, .arr 78 5 (([] : List TreeWord).length) (rows TreeWord.enc ([] : List TreeWord))), (5005, .arr 112 4 (([] : List TreeSlot).length) (rows TreeSlot.enc ([] : List TreeSlot))), (5004, .arr 112 4 (([] : List TreeSlot).length) (rows TreeSlot.enc ([] : List TreeSlot))), (5003, .arr 3 1 (([] : List Int).length) (rows encInt ([] : List Int))), (5002, .arr 70 3 (([] : List TreeLink).length) (rows TreeLink.enc ([] : List TreeLink))), (5001, .arr 74 6 (([] : List TreeBridge).length) (rows TreeBridge.enc ([] : List TreeBridge))), (4, .box 31 [.osl 5001 0 (([] : List TreeBridge).length), .osl 5002 0 (([] : List TreeLink).length), .osl 5003 0 (([] : List Int).length), .osl 5004 0 (([] : List TreeSlot).length), .osl 5005 0 (([] : List TreeSlot).length), .osl 5006 0 (([] : List TreeWord).length)])], []⟩, ?_, And.intro rfl ?_⟩
          · refine LE.trans (S' := ⟨0, 50, [(4, .ref 4 0 0), (5, .d (.bool false))], [], [(4, .box 31 [.d (.nil), .d (.nil), .d (.nil), .d (.nil), .d (.nil), .d (.nil)])], []⟩) (le_mk ?_ ?_ ?_) (LE.trans (S' := ⟨0, 50, [(4, .ref 4 0 0), (5, .d (.bool false))], [], [(5001, .arr 74 6 (([] : List TreeBridge).length) (rows TreeBridge.enc ([] : List TreeBridge))), (4, .box 31 [.d (.nil), .d (.nil), .d (.nil), .d (.nil), .d (.nil), .d (.nil)])], []⟩) (le_ph 5001 74 6 (rows TreeBridge.enc ([] : List TreeBridge)) rfl rfl) (LE.trans (S' := ⟨0, 50, [(4, .ref 4 0 0), (5, .d (.bool false))], [], [(5001, .arr 74 6 (([] : List TreeBridge).length) (rows TreeBridge.enc ([] : List TreeBridge))), (4, .box 31 [.osl 5001 0 (([] : List TreeBridge).length), .d (.nil), .d (.nil), .d (.nil), .d (.nil), .d (.nil)])], []⟩) (le_mk ?_ ?_ ?_) (LE.trans (S' := ⟨0, 50, [(4, .ref 4 0 0), (5, .d (.bool false))], [], [(5002, .arr 70 3 (([] : List TreeLink).length) (rows TreeLink.enc ([] : List TreeLink))), (5001, .arr 74 6 (([] : List TreeBridge).length) (rows TreeBridge.enc ([] : List TreeBridge))), (4, .box 31 [.osl 5001 0 (([] : List TreeBridge).length), .d (.nil), .d (.nil), .d (.nil), .d (.nil), .d (.nil)])], []⟩) (le_ph 5002 70 3 (rows TreeLink.enc ([] : List TreeLink)) rfl rfl) (LE.trans (S' := ⟨0, 50, [(4, .ref 4 0 0), (5, .d (.bool false))], [], [(5002, .arr 70 3 (([] : List TreeLink).length) (rows TreeLink.enc ([] : List TreeLink))), (5001, .arr 74 6 (([] : List TreeBridge).length) (rows TreeBridge.enc ([] : List TreeBridge))), (4, .box 31 [.osl 5001 0 (([] : List TreeBridge).length), .osl 5002 0 (([] : List TreeLink).length), .d (.nil), .d (.nil), .d (.nil), .d (.nil)])], []⟩) (le_mk ?_ ?_ ?_) (LE.trans (S' := ⟨0, 50, [(4, .ref 4 0 0), (5, .d (.bool false))], [], [(5003, .arr 3 1 (([] : List Int).length) (rows encInt ([] : List Int))), (5002, .arr 70 3 (([] : List TreeLink).length) (rows TreeLink.enc ([] : List TreeLink))), (5001, .arr 74 6 (([] : List TreeBridge).length) (rows TreeBridge.enc ([] : List TreeBridge))), (4, .box 31 [.osl 5001 0 (([] : List TreeBridge).length), .osl 5002 0 (([] : List TreeLink).length), .d (.nil), .d (.nil), .d (.nil), .d (.nil)])], []⟩) (le_ph 5003 3 1 (rows encInt ([] : List Int)) rfl rfl) (LE.trans (S' := ⟨0, 50, [(4, .ref 4 0 0), (5, .d (.bool false))], [], [(5003, .arr 3 1 (([] : List Int).length) (rows encInt ([] : List Int))), (5002, .arr 70 3 (([] : List TreeLink).length) (rows TreeLink.enc ([] : List TreeLink))), (5001, .arr 74 6 (([] : List TreeBridge).length) (rows TreeBridge.enc ([] : List TreeBridge))), (4, .box 31 [.osl 5001 0 (([] : List TreeBridge).length), .osl 5002 0 (([] : List TreeLink).length), .osl 5003 0 (([] : List Int).length), .d (.nil), .d (.nil), .d (.nil)])], []⟩) (le_mk ?_ ?_ ?_) (LE.trans (S' := ⟨0, 50, [(4, .ref 4 0 0), (5, .d (.bool false))], [], [(5004, .arr 112 4 (([] : List TreeSlot).length) (rows TreeSlot.enc ([] : List TreeSlot))), (5003, .arr 3 1 (([] : List Int).length) (rows encInt ([] : List Int))), (5002, .arr 70 3 (([] : List TreeLink).length) (rows TreeLink.enc ([] : List TreeLink))), (5001, .arr 74 6 (([] : List TreeBridge).length) (rows TreeBridge.enc ([] : List TreeBridge))), (4, .box 31 [.osl 5001 0 (([] : List TreeBridge).length), .osl 5002 0 (([] : List TreeLink).length), .osl 5003 0 (([] : List Int).length), .d (.nil), .d (.nil), .d (.nil)])], []⟩) (le_ph 5004 112 4 (rows TreeSlot.enc ([] : List TreeSlot)) rfl rfl) (LE.trans (S' := ⟨0, 50, [(4, .ref 4 0 0), (5, .d (.bool false))], [], [(5004, .arr 112 4 (([] : List TreeSlot).length) (rows TreeSlot.enc ([] : List TreeSlot))), (5003, .arr 3 1 (([] : List Int).length) (rows encInt ([] : List Int))), (5002, .arr 70 3 (([] : List TreeLink).length) (rows TreeLink.enc ([] : List TreeLink))), (5001, .arr 74 6 (([] : List TreeBridge).length) (rows TreeBridge.enc ([] : List TreeBridge))), (4, .box 31 [.osl 5001 0 (([] : List TreeBridge).length), .osl 5002 0 (([] : List TreeLink).length), .osl 5003 0 (([] : List Int).length), .osl 5004 0 (([] : List TreeSlot).length), .d (.nil), .d (.nil)])], []⟩) (le_mk ?_ ?_ ?_) (LE.trans (S' := ⟨0, 50, [(4, .ref 4 0 0), (5, .d (.bool false))], [], [(5005, .arr 112 4 (([] : List TreeSlot).length) (rows TreeSlot.enc ([] : List TreeSlot))), (5004, .arr 112 4 (([] : List TreeSlot).length) (rows TreeSlot.enc ([] : List TreeSlot))), (5003, .arr 3 1 (([] : List Int).length) (rows encInt ([] : List Int))), (5002, .arr 70 3 (([] : List TreeLink).length) (rows TreeLink.enc ([] : List TreeLink))), (5001, .arr 74 6 (([] : List TreeBridge).length) (rows TreeBridge.enc ([] : List TreeBridge))), (4, .box 31 [.osl 5001 0 (([] : List TreeBridge).length), .osl 5002 0 (([] : List TreeLink).length), .osl 5003 0 (([] : List Int).length), .osl 5004 0 (([] : List TreeSlot).length), .d (.nil), .d (.nil)])], []⟩) (le_ph 5005 112 4 (rows TreeSlot.enc ([] : List TreeSlot)) rfl rfl) (LE.trans (S' := ⟨0, 50, [(4, .ref 4 0 0), (5, .d (.bool false))], [], [(5005, .arr 112 4 (([] : List TreeSlot).length) (rows TreeSlot.enc ([] : List TreeSlot))), (5004, .arr 112 4 (([] : List TreeSlot).length) (rows TreeSlot.enc ([] : List TreeSlot))), (5003, .arr 3 1 (([] : List Int).length) (rows encInt ([] : List Int))), (5002, .arr 70 3 (([] : List TreeLink).length) (rows TreeLink.enc ([] : List TreeLink))), (5001, .arr 74 6 (([] : List TreeBridge).length) (rows TreeBridge.enc ([] : List TreeBridge))), (4, .box 31 [.osl 5001 0 (([] : List TreeBridge).length), .osl 5002 0 (([] : List TreeLink).length), .osl 5003 0 (([] : List Int).length), .osl 5004 0 (([] : List TreeSlot).length), .osl 5005 0 (([] : List TreeSlot).length), .d (.nil)])], []⟩) (le_mk ?_ ?_ ?_) (LE.trans (S' := ⟨0, 50, [(4, .ref 4 0 0), (5, .d (.bool false))], [], [(5006, .arr 78 5 (([] : List TreeWord).length) (rows TreeWord.enc ([] : List TreeWord))), (5005, .arr 112 4 (([] : List TreeSlot).length) (rows TreeSlot.enc ([] : List TreeSlot))), (5004, .arr 112 4 (([] : List TreeSlot).length) (rows TreeSlot.enc ([] : List TreeSlot))), (5003, .arr 3 1 (([] : List Int).length) (rows encInt ([] : List Int))), (5002, .arr 70 3 (([] : List TreeLink).length) (rows TreeLink.enc ([] : List TreeLink))), (5001, .arr 74 6 (([] : List TreeBridge).length) (rows TreeBridge.enc ([] : List TreeBridge))), (4, .box 31 [.osl 5001 0 (([] : List TreeBridge).length), .osl 5002 0 (([] : List TreeLink).length), .osl 5003 0 (([] : List Int).length), .osl 5004 0 (([] : List TreeSlot).length), .osl 5005 0 (([] : List TreeSlot).length), .d (.nil)])], []⟩) (le_ph 5006 78 5 (rows TreeWord.enc ([] : List TreeWord)) rfl rfl) (le_mk ?_ ?_ ?_)))))))))))) <;> (repeat' first | ((conv => whnf); first | exact trivial | refine And.intro ?_ ?_ | exact BLe.refl _ | exact VLe.refl _) | exact trivial | exact rfl | refine And.intro ?_ ?_ | exact BLe.refl _ | exact VLe.refl _ | exact VLe.any _ | exact VLe.nil_osl rfl | exact VLe.nil_sl rfl | exact VLe.built rfl rfl | (refine VLe.osl rfl ?_; (first | rfl | (simp; done) | assumption | (simp [dsub_eq] <;> omega) | omega)) | exact VLe.rows (by first | rfl | (simp; done) | assumption | (simp [dsub_eq] <;> omega) | omega) (fun _ _ => rfl) | exact VLe.rows (by simp [dsub_eq] <;> omega) rows_take | exact VLe.rows (by simp [dsub_eq] <;> omega) rows_dt | exact VLe.rows (by simp [dsub_eq] <;> omega) rows_vt | exact VLe.rows (by simp) (fun i _ => by simp [viewRow_eq, Nat.add_comm]) | refine VLe.aggL ?_ | (refine BLe.rows rfl ?_ fun _ _ => rfl; (first | rfl | (simp; done) | assumption | (simp [dsub_eq] <;> omega) | omega)) | (refine BLe.rows rfl rfl ?_; first | exact rows_take) | refine BLe.box ?_)
          · exact And.intro (And.intro rfl (And.intro rfl (fun _ _ => rfl))) (And.intro (And.intro rfl (And.intro rfl (fun _ _ => rfl))) (And.intro (And.intro rfl (And.intro rfl (fun _ _ => rfl))) (And.intro (And.intro rfl (And.intro rfl (fun _ _ => rfl))) (And.intro (And.intro rfl (And.intro rfl (fun _ _ => rfl))) (And.intro (And.intro rfl (And.intro rfl (fun _ _ => rfl))) (trivial))))))
        · replace h := ite_f h e; clear e
          conv => whnf
          obtain ⟨x14, hx14, h⟩ := bd_some h
          refine callW (args1 := [.agg [.d (.sl (s4.1, s4.1.length).2 (rows TreeBridge.enc (s4.1, s4.1.length).1)), .d (slD TreeLink.enc a1), .d (.nil), .d (slD TreeSlot.enc (List.replicate (((a1.length : Nat) : Int) : Int).toNat (default : TreeSlot))), .d (slD TreeSlot.enc (List.replicate (((a1.length : Nat) : Int) : Int).toNat (default : TreeSlot))), .d (.nil)]]) 1000 (spec_l82Copy_c hx14) (by kernel_rfl) (by (repeat' first | ((conv => whnf); first | exact trivial | refine And.intro ?_ ?_ | exact BLe.refl _ | exact VLe.refl _) | exact trivial | refine And.intro ?_ ?_ | exact VLe.refl _ | exact VLe.any _ | exact VLe.nil_osl rfl | exact VLe.nil_sl rfl | exact VLe.built rfl rfl | (refine VLe.osl rfl ?_; (first | rfl | (simp; done) | assumption | (simp [dsub_eq] <;> omega) | omega)) | exact VLe.rows (by first | rfl | (simp; done) | assumption | (simp [dsub_eq] <;> omega) | omega) (fun _ _ => rfl) | exact VLe.rows (by simp [dsub_eq] <;> omega) rows_take | exact VLe.rows (by simp [dsub_eq] <;> omega) rows_dt | exact VLe.rows (by simp [dsub_eq] <;> omega) rows_vt | exact VLe.rows (by simp) (fun i _ => by simp [viewRow_eq, Nat.add_comm]) | refine VLe.aggL ?_)) (by kernel_rfl) ?_
          conv => whnf
          obtain rfl := Option.some.inj h
          refine ⟨⟨0, 50, [(4, .ref 4 0 0), (5, .d (.bool true))], [], [(5006, .arr 78 5 x14.Radio.length (rows TreeWord.enc x14.Radio)), (5005, .arr 112 4 x14.AtB.length (rows TreeSlot.enc x14.AtB)), (5004, .arr 112 4 x14.AtA.length (rows TreeSlot.enc x14.AtA)), (5003, .arr 3 1 x14.Down.length (rows encInt x14.Down)), (5002, .arr 70 3 x14.Links.length (rows TreeLink.enc x14.Links)), (5001, .arr 74 6 x14.Bridges.length (rows TreeBridge.enc x14.Bridges)), (4, .box 31 [.osl 5001 0 x14.Bridges.length, .osl 5002 0 x14.Links.length, .osl 5003 0 x14.Down.length, .osl 5004 0 x14.AtA.length, .osl 5005 0 x14.AtB.length, .osl 5006 0 x14.Radio.length])], []⟩, ?_, And.intro rfl ?_⟩
          · refine LE.trans (S' := ⟨0, 50, [(4, .ref 4 0 0), (5, .d (.bool true))], [], [(6006, .arr 78 5 x14.Radio.length (rows TreeWord.enc x14.Radio)), (6005, .arr 112 4 x14.AtB.length (rows TreeSlot.enc x14.AtB)), (6004, .arr 112 4 x14.AtA.length (rows TreeSlot.enc x14.AtA)), (6003, .arr 3 1 x14.Down.length (rows encInt x14.Down)), (6002, .arr 70 3 x14.Links.length (rows TreeLink.enc x14.Links)), (6001, .arr 74 6 x14.Bridges.length (rows TreeBridge.enc x14.Bridges)), (4, .box 31 [.osl 6001 0 x14.Bridges.length, .osl 6002 0 x14.Links.length, .osl 6003 0 x14.Down.length, .osl 6004 0 x14.AtA.length, .osl 6005 0 x14.AtB.length, .osl 6006 0 x14.Radio.length])], []⟩) (le_mk ?_ ?_ ?_) (le_swaps [(6001, 5001), (6002, 5002), (6003, 5003), (6004, 5004), (6005, 5005), (6006, 5006)] rfl) <;> (repeat' first | ((conv => whnf); first | exact trivial | refine And.intro ?_ ?_ | exact BLe.refl _ | exact VLe.refl _) | exact trivial | exact rfl | refine And.intro ?_ ?_ | exact BLe.refl _ | exact VLe.refl _ | exact VLe.any _ | exact VLe.nil_osl rfl | exact VLe.nil_sl rfl | exact VLe.built rfl rfl | (refine VLe.osl rfl ?_; (first | rfl | (simp; done) | assumption | (simp [dsub_eq] <;> omega) | omega)) | exact VLe.rows (by first | rfl | (simp; done) | assumption | (simp [dsub_eq] <;> omega) | omega) (fun _ _ => rfl) | exact VLe.rows (by simp [dsub_eq] <;> omega) rows_take | exact VLe.rows (by simp [dsub_eq] <;> omega) rows_dt | exact VLe.rows (by simp [dsub_eq] <;> omega) rows_vt | exact VLe.rows (by simp) (fun i _ => by simp [viewRow_eq, Nat.add_comm]) | refine VLe.aggL ?_ | (refine BLe.rows rfl ?_ fun _ _ => rfl; (first | rfl | (simp; done) | assumption | (simp [dsub_eq] <;> omega) | omega)) | (refine BLe.rows rfl rfl ?_; first | exact rows_take) | refine BLe.box ?_)
          · exact And.intro (And.intro rfl (And.intro rfl (fun _ _ => rfl))) (And.intro (And.intro rfl (And.intro rfl (fun _ _ => rfl))) (And.intro (And.intro rfl (And.intro rfl (fun _ _ => rfl))) (And.intro (And.intro rfl (And.intro rfl (fun _ _ => rfl))) (And.intro (And.intro rfl (And.intro rfl (fun _ _ => rfl))) (And.intro (And.intro rfl (And.intro rfl (fun _ _ => rfl))) (trivial))))))

noncomputable def spec_l82Far_m (a0 : TreeVector) (a1 : Int) : Option (TreeVector) :=
(if (((a0.Root == 0) || (a0.Age == 10)) || (decide ((IntKind.i64.wrap (a0.Cost + a1)) > 1000))) = true then
 some (⟨0, 0, 0⟩ : TreeVector)
else
 some (⟨a0.Root, IntKind.i64.wrap (a0.Cost + a1), IntKind.i64.wrap (a0.Age + 1)⟩ : TreeVector))

theorem spec_l82Far_c {a0 : TreeVector} {a1 : Int} {r : TreeVector} (h : spec_l82Far_m a0 a1 = some r) : PureC Try.prog 106 [.agg [.d (.int .i64 a0.Root), .d (.int .i64 a0.Cost), .d (.int .i64 a0.Age)], .d (.int .i64 a1)] (.agg [.d (.int .i64 r.Root), .d (.int .i64 r.Cost), .d (.int .i64 r.Age)]) [] := by
  refine pureC_m tOk (fn := Try.f106) (c := codeOf Try.f106) rfl rfl (by kernel_rfl) rfl rfl (by simp) (by simp) (ids_of rfl) ?_
  unfold spec_l82Far_m at h
  conv => whnf
  refine seq_in tOk ?_
  conv => whnf
  refine And.intro (fun e => ?_) (fun e => ?_)
  · replace h := ite_t h e; clear e
    conv => whnf
    obtain rfl := Option.some.inj h
    exact ⟨_, LE.refl _, And.intro rfl trivial⟩
  · replace h := ite_f h e; clear e
    conv => whnf
    obtain rfl := Option.some.inj h
    exact ⟨_, LE.refl _, And.intro rfl trivial⟩

noncomputable def spec_l82Think_m (a0 : TreeWorld) (a1 : Int) : Option (TreeMind) :=
 gd ((0 : Int) ≤ a1 ∧ a1 < ((a0.Bridges.length : Nat) : Int)) <|
 bd (spec_l82Self_m ((a0.Bridges.getD a1.toNat default).Id)) fun x2 =>
 bd (lp (σ := Int × Int × Int × Int × Int × Int) (β := (Int × Int × Int × Int)) (fun s3 =>
(if (decide (s3.2.2.2.2.2 < ((a0.Links.length : Nat) : Int))) = true then
 bd (spec_l82At_m a0 a1 s3.2.2.2.2.2) fun x7 =>
(if (decide (x7.2 < 0)) = true then
 some (.inl (s3.1, s3.2.1, s3.2.2.1, s3.2.2.2.1, s3.2.2.2.2.1, IntKind.i64.wrap (s3.2.2.2.2.2 + 1)))
else
 gd ((0 : Int) ≤ s3.2.2.2.2.2 ∧ s3.2.2.2.2.2 < ((a0.Links.length : Nat) : Int)) <|
 bd (spec_l82Far_m x7.1 ((a0.Links.getD s3.2.2.2.2.2.toNat default).Cost)) fun x9 =>
 gd ((decide (x9.Root > 0)) = true → ((0 : Int) ≤ x7.2 ∧ x7.2 < ((a0.Bridges.length : Nat) : Int))) <|
 bd (gcall ((decide (x9.Root > 0)) = true) (spec_l82Better_m x9 ((a0.Bridges.getD x7.2.toNat default).Id) (⟨s3.1, s3.2.1, s3.2.2.1⟩ : TreeVector) s3.2.2.2.2.1)) fun x11 =>
(if ((decide (x9.Root > 0)) && x11) = true then
 gd ((0 : Int) ≤ x7.2 ∧ x7.2 < ((a0.Bridges.length : Nat) : Int)) <|
 some (.inl (x9.Root, x9.Cost, x9.Age, s3.2.2.2.2.2, (a0.Bridges.getD x7.2.toNat default).Id, IntKind.i64.wrap (s3.2.2.2.2.2 + 1)))
else
 some (.inl (s3.1, s3.2.1, s3.2.2.1, s3.2.2.2.1, s3.2.2.2.2.1, IntKind.i64.wrap (s3.2.2.2.2.2 + 1)))))
else
 some (.inr (s3.1, s3.2.1, s3.2.2.1, s3.2.2.2.1)))) (x2.Vector.Root, x2.Vector.Cost, x2.Vector.Age, x2.Link, 0, 0)) fun x6 =>
 some (⟨(⟨x6.1, x6.2.1, x6.2.2.1⟩ : TreeVector), x6.2.2.2⟩ : TreeMind)

theorem spec_l82Think_c {a0 : TreeWorld} {a1 : Int} {r : TreeMind} (h : spec_l82Think_m a0 a1 = some r) : PureC Try.prog 70 [.agg [.d (slD TreeBridge.enc a0.Bridges), .d (slD TreeLink.enc a0.Links), .d (slD encInt a0.Down), .d (slD TreeSlot.enc a0.AtA), .d (slD TreeSlot.enc a0.AtB), .d (slD TreeWord.enc a0.Radio)], .d (.int .i64 a1)] (.agg [.d (.int .i64 r.Vector.Root), .d (.int .i64 r.Vector.Cost), .d (.int .i64 r.Vector.Age), .d (.int .i64 r.Link)]) [] := by
  refine pureC_m tOk (fn := Try.f70) (c := codeOf Try.f70) rfl rfl (by kernel_rfl) rfl rfl (by simp) (by simp) (ids_of rfl) ?_
  unfold spec_l82Think_m at h
  conv => whnf
  obtain ⟨g1, h⟩ := gd_some h
  refine And.intro g1 ?_
  clear g1
  conv => whnf
  obtain ⟨x2, hx2, h⟩ := bd_some h
  refine callC 0 (spec_l82Self_c hx2) (by kernel_rfl) (by kernel_rfl) ?_
  clear hx2
  conv => whnf
  refine seq_in tOk ?_
  conv => whnf
  obtain ⟨x6, hx6, h⟩ := bd_some h
  refine loop_m tOk hx6 (fun s3 => ⟨0, 68, [(1, .d (.int .i64 a1)), (2, .ref 2 0 0), (4, .ref 4 0 0), (5, .ref 5 0 0), (6, .d (.int .i64 s3.2.2.2.2.1)), (7, .d (.int .i64 s3.2.2.2.2.2))], [], [(5, .box 51 [.d (.int .i64 s3.1), .d (.int .i64 s3.2.1), .d (.int .i64 s3.2.2.1), .d (.int .i64 s3.2.2.2.1)]), (4, .box 51 [.d (.int .i64 0), .d (.int .i64 0), .d (.int .i64 0), .d (.int .i64 0)]), (2, .box 31 [.d (slD TreeBridge.enc a0.Bridges), .d (slD TreeLink.enc a0.Links), .d (slD encInt a0.Down), .d (slD TreeSlot.enc a0.AtA), .d (slD TreeSlot.enc a0.AtB), .d (slD TreeWord.enc a0.Radio)])], []⟩) ?_ ?_
  · refine le_mk ?_ ?_ ?_ <;> (repeat' first | ((conv => whnf); first | exact trivial | refine And.intro ?_ ?_ | exact BLe.refl _ | exact VLe.refl _) | exact trivial | exact rfl | refine And.intro ?_ ?_ | exact BLe.refl _ | exact VLe.refl _ | exact VLe.any _ | exact VLe.nil_osl rfl | exact VLe.nil_sl rfl | exact VLe.built rfl rfl | (refine VLe.osl rfl ?_; (first | rfl | (simp; done) | assumption | (simp [dsub_eq] <;> omega) | omega)) | exact VLe.rows (by first | rfl | (simp; done) | assumption | (simp [dsub_eq] <;> omega) | omega) (fun _ _ => rfl) | exact VLe.rows (by simp [dsub_eq] <;> omega) rows_take | exact VLe.rows (by simp [dsub_eq] <;> omega) rows_dt | exact VLe.rows (by simp [dsub_eq] <;> omega) rows_vt | exact VLe.rows (by simp) (fun i _ => by simp [viewRow_eq, Nat.add_comm]) | refine VLe.aggL ?_ | (refine BLe.rows rfl ?_ fun _ _ => rfl; (first | rfl | (simp; done) | assumption | (simp [dsub_eq] <;> omega) | omega)) | (refine BLe.rows rfl rfl ?_; first | exact rows_take) | refine BLe.box ?_)
  · clear hx6
    intro s3 y4 g5 hy4
    conv => whnf
    refine seq_in tOk ?_
    conv => whnf
    refine And.intro (fun e => ?_) (fun e => ?_)
    · replace g5 := ite_t g5 e; clear e
      conv => whnf
      refine seq_in tOk ?_
      conv => whnf
      obtain ⟨x7, hx7, g5⟩ := bd_some g5
      refine callC 0 (spec_l82At_c hx7) (by kernel_rfl) (by kernel_rfl) ?_
      clear hx7
      conv => whnf
      refine seq_in tOk ?_
      conv => whnf
      refine And.intro (fun e => ?_) (fun e => ?_)
      · replace g5 := ite_t g5 e; clear e
        conv => whnf
        obtain rfl := Option.some.inj g5
        refine ⟨_, rfl, le_mk ?_ ?_ ?_⟩ <;> (repeat' first | ((conv => whnf); first | exact trivial | refine And.intro ?_ ?_ | exact BLe.refl _ | exact VLe.refl _) | exact trivial | exact rfl | refine And.intro ?_ ?_ | exact BLe.refl _ | exact VLe.refl _ | exact VLe.any _ | exact VLe.nil_osl rfl | exact VLe.nil_sl rfl | exact VLe.built rfl rfl | (refine VLe.osl rfl ?_; (first | rfl | (simp; done) | assumption | (simp [dsub_eq] <;> omega) | omega)) | exact VLe.rows (by first | rfl | (simp; done) | assumption | (simp [dsub_eq] <;> omega) | omega) (fun _ _ => rfl) | exact VLe.rows (by simp [dsub_eq] <;> omega) rows_take | exact VLe.rows (by simp [dsub_eq] <;> omega) rows_dt | exact VLe.rows (by simp [dsub_eq] <;> omega) rows_vt | exact VLe.rows (by simp) (fun i _ => by simp [viewRow_eq, Nat.add_comm]) | refine VLe.aggL ?_ | (refine BLe.rows rfl ?_ fun _ _ => rfl; (first | rfl | (simp; done) | assumption | (simp [dsub_eq] <;> omega) | omega)) | (refine BLe.rows rfl rfl ?_; first | exact rows_take) | refine BLe.box ?_)
      · replace g5 := ite_f g5 e; clear e
        conv => whnf
        obtain ⟨g8, g5⟩ := gd_some g5
        obtain ⟨x9, hx9, g5⟩ := bd_some g5
        refine draw_k tOk (by kernel_rfl) (fun j => match j with | 7 => some (.pure 0 (.agg [.d (.int .i64 x9.Root), .d (.int .i64 x9.Cost), .d (.int .i64 x9.Age)]) []) | _ => none) 9 [] [[], [], [false, true], [], [false, true, true, true], [false, true, true, true, true], [false, true, true, true, true, true], [true, true, true, true, true, true, true], []] [[true, true, true, true, true, true, true, true, true]] (by decide) (by kernel_rfl) (by kernel_rfl) ?_
        conv => whnf
        refine And.intro g8 ?_
        clear g8
        conv => whnf
        refine And.intro (callD_any (spec_l82Far_c hx9) (by kernel_rfl)) ?_
        conv => whnf
        refine And.intro (by kernel_rfl) ?_
        conv => whnf
        obtain ⟨g10, g5⟩ := gd_some g5
        obtain ⟨x11, hx11, g5⟩ := bd_some g5
        refine draw_k tOk (by kernel_rfl) (fun j => match j with | 14 => some (.pure 0 (.d (.bool x11)) []) | _ => none) 16 [] [[], [true], [true, true], [true, true, true], [true, true, true, true], [true, true, true, true], [true, true, true, true, false, true], [true, true, true, true], [true, true, true, true, false, true, true, true], [true, true, true, true, false, true, true, true, true], [true, true, true, true, false, true, true, true, true, true], [true, true, true, true], [true, true, true, true, false, false, false, false, false, false, false, true], [true, true, true, true], [true, true, true, true, true, true, true, true, true, true, true, true, true, true], [true, true, true, true, true, true, true, true, true, true, true, true, true, true, true]] [] (by decide) (by kernel_rfl) (by kernel_rfl) ?_
        conv => whnf
        refine And.intro g10 ?_
        clear g10
        conv => whnf
        refine And.intro (callDG_if rfl rfl rfl rfl (by intro c0; exact spec_l82Better_c (gcall_some hx11 c0))) ?_
        conv => whnf
        refine And.intro (by kernel_rfl) ?_
        conv => whnf
        refine And.intro (fun e => ?_) (fun e => ?_)
        · replace g5 := ite_t g5 e; clear e
          conv => whnf
          obtain ⟨g12, g5⟩ := gd_some g5
          refine And.intro g12 ?_
          clear g12
          conv => whnf
          obtain rfl := Option.some.inj g5
          refine ⟨_, rfl, le_mk ?_ ?_ ?_⟩ <;> (repeat' first | ((conv => whnf); first | exact trivial | refine And.intro ?_ ?_ | exact BLe.refl _ | exact VLe.refl _) | exact trivial | exact rfl | refine And.intro ?_ ?_ | exact BLe.refl _ | exact VLe.refl _ | exact VLe.any _ | exact VLe.nil_osl rfl | exact VLe.nil_sl rfl | exact VLe.built rfl rfl | (refine VLe.osl rfl ?_; (first | rfl | (simp; done) | assumption | (simp [dsub_eq] <;> omega) | omega)) | exact VLe.rows (by first | rfl | (simp; done) | assumption | (simp [dsub_eq] <;> omega) | omega) (fun _ _ => rfl) | exact VLe.rows (by simp [dsub_eq] <;> omega) rows_take | exact VLe.rows (by simp [dsub_eq] <;> omega) rows_dt | exact VLe.rows (by simp [dsub_eq] <;> omega) rows_vt | exact VLe.rows (by simp) (fun i _ => by simp [viewRow_eq, Nat.add_comm]) | refine VLe.aggL ?_ | (refine BLe.rows rfl ?_ fun _ _ => rfl; (first | rfl | (simp; done) | assumption | (simp [dsub_eq] <;> omega) | omega)) | (refine BLe.rows rfl rfl ?_; first | exact rows_take) | refine BLe.box ?_)
        · replace g5 := ite_f g5 e; clear e
          conv => whnf
          obtain rfl := Option.some.inj g5
          refine ⟨_, rfl, le_mk ?_ ?_ ?_⟩ <;> (repeat' first | ((conv => whnf); first | exact trivial | refine And.intro ?_ ?_ | exact BLe.refl _ | exact VLe.refl _) | exact trivial | exact rfl | refine And.intro ?_ ?_ | exact BLe.refl _ | exact VLe.refl _ | exact VLe.any _ | exact VLe.nil_osl rfl | exact VLe.nil_sl rfl | exact VLe.built rfl rfl | (refine VLe.osl rfl ?_; (first | rfl | (simp; done) | assumption | (simp [dsub_eq] <;> omega) | omega)) | exact VLe.rows (by first | rfl | (simp; done) | assumption | (simp [dsub_eq] <;> omega) | omega) (fun _ _ => rfl) | exact VLe.rows (by simp [dsub_eq] <;> omega) rows_take | exact VLe.rows (by simp [dsub_eq] <;> omega) rows_dt | exact VLe.rows (by simp [dsub_eq] <;> omega) rows_vt | exact VLe.rows (by simp) (fun i _ => by simp [viewRow_eq, Nat.add_comm]) | refine VLe.aggL ?_ | (refine BLe.rows rfl ?_ fun _ _ => rfl; (first | rfl | (simp; done) | assumption | (simp [dsub_eq] <;> omega) | omega)) | (refine BLe.rows rfl rfl ?_; first | exact rows_take) | refine BLe.box ?_)
    · replace g5 := ite_f g5 e; clear e
      conv => whnf
      obtain rfl := Option.some.inj g5
      obtain rfl := hy4 _ rfl
      obtain rfl := Option.some.inj h
      exact ⟨_, LE.refl _, And.intro rfl trivial⟩

noncomputable def spec_TreeThink_m (a0 : TreeWorld) (a1 : Int) : Option (TreeMind) :=
 bd (spec_TreeWorldOk_m a0) fun x1 =>
 bd (gcall ((!x1) = false) (spec_l81In_m a1 0 (IntKind.i64.wrap (((a0.Bridges.length : Nat) : Int) - 1)))) fun x2 =>
 gd (((!x1) || (!x2)) = false → ((0 : Int) ≤ a1 ∧ a1 < ((a0.Bridges.length : Nat) : Int))) <|
(if (((!x1) || (!x2)) || (!((a0.Bridges.getD a1.toNat default).Up))) = true then
 some (⟨(⟨0, 0, 0⟩ : TreeVector), 0⟩ : TreeMind)
else
 bd (spec_l82Think_m a0 a1) fun x4 =>
 some x4)

theorem spec_TreeThink_c {a0 : TreeWorld} {a1 : Int} {r : TreeMind} (h : spec_TreeThink_m a0 a1 = some r) : PureC Try.prog 20 [.agg [.d (slD TreeBridge.enc a0.Bridges), .d (slD TreeLink.enc a0.Links), .d (slD encInt a0.Down), .d (slD TreeSlot.enc a0.AtA), .d (slD TreeSlot.enc a0.AtB), .d (slD TreeWord.enc a0.Radio)], .d (.int .i64 a1)] (.agg [.d (.int .i64 r.Vector.Root), .d (.int .i64 r.Vector.Cost), .d (.int .i64 r.Vector.Age), .d (.int .i64 r.Link)]) [] := by
  refine pureC_m tOk (fn := Try.f20) (c := codeOf Try.f20) rfl rfl (by kernel_rfl) rfl rfl (by simp) (by simp) (ids_of rfl) ?_
  unfold spec_TreeThink_m at h
  conv => whnf
  refine seq_in tOk ?_
  conv => whnf
  obtain ⟨x1, hx1, h⟩ := bd_some h
  refine callC 0 (spec_TreeWorldOk_c hx1) (by kernel_rfl) (by kernel_rfl) ?_
  clear hx1
  conv => whnf
  obtain ⟨x2, hx2, h⟩ := bd_some h
  refine callG_m rfl rfl rfl rfl rfl rfl (by intro c0; exact spec_l81In_c (gcall_some hx2 c0)) ?_
  conv => whnf
  obtain ⟨g3, h⟩ := gd_some h
  refine And.intro g3 ?_
  clear g3
  conv => whnf
  refine And.intro (fun e => ?_) (fun e => ?_)
  · replace h := ite_t h e; clear e
    conv => whnf
    obtain rfl := Option.some.inj h
    exact ⟨_, LE.refl _, And.intro rfl trivial⟩
  · replace h := ite_f h e; clear e
    conv => whnf
    obtain ⟨x4, hx4, h⟩ := bd_some h
    refine callC 0 (spec_l82Think_c hx4) (by kernel_rfl) (by kernel_rfl) ?_
    clear hx4
    conv => whnf
    obtain rfl := Option.some.inj h
    exact ⟨_, LE.refl _, And.intro rfl trivial⟩

end Go.Proofs.Ytbolhcpkpncmfaa
