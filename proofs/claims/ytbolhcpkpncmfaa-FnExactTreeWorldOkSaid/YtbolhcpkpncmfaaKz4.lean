/-
  What some of the program's functions compute: their models, and that the functions compute these; no condition.
-/
import Derived.Test.YtbolhcpkpncmfaaTyz
import Derived.Test.YtbolhcpkpncmfaaTbz
import Derived.Test.YtbolhcpkpncmfaaKz3
set_option linter.all false
namespace Go.Proofs.Ytbolhcpkpncmfaa
open Go Go.Ab
set_option maxRecDepth 100000
set_option maxHeartbeats 4000000
noncomputable def laws_eqTreeSlotS_m (a0 : (List TreeSlot)) (a1 : (List TreeSlot)) : Option (Bool) :=
(if (((a0.length : Nat) : Int) != ((a1.length : Nat) : Int)) = true then
 some false
else
 bd (lp (σ := Int) (β := (Unit ⊕ Unit)) (fun s1 =>
(if (decide (s1 < ((a0.length : Nat) : Int))) = true then
 gd ((0 : Int) ≤ s1 ∧ s1 < ((a0.length : Nat) : Int)) <|
 gd ((0 : Int) ≤ s1 ∧ s1 < ((a1.length : Nat) : Int)) <|
 bd (laws_eqTreeSlot_m (⟨((a0.getD s1.toNat default).Vector), (a0.getD s1.toNat default).Left⟩ : TreeSlot) (⟨((a1.getD s1.toNat default).Vector), (a1.getD s1.toNat default).Left⟩ : TreeSlot)) fun x7 =>
(if (!x7) = true then
 some (.inr (.inl ()))
else
 some (.inl (IntKind.i64.wrap (s1 + 1))))
else
 some (.inr (.inr ())))) 0) fun x4 =>
(match x4 with
| .inl d8 =>
 some false
| .inr d9 =>
 some true))

theorem laws_eqTreeSlotS_c {a0 : (List TreeSlot)} {a1 : (List TreeSlot)} {r : Bool} (h : laws_eqTreeSlotS_m a0 a1 = some r) : PureC Try.prog 67 [.d (slD TreeSlot.enc a0), .d (slD TreeSlot.enc a1)] (.d (.bool r)) [] := by
  refine pureC_m tOk (fn := Try.f67) (c := codeOf Try.f67) rfl rfl (by kernel_rfl) rfl rfl (by simp) (by simp) (ids_of rfl) ?_
  unfold laws_eqTreeSlotS_m at h
  conv => whnf
  refine seq_in tOk ?_
  conv => whnf
  refine And.intro (fun e => ?_) (fun e => ?_)
  · replace h := ite_t h e; clear e
    conv => whnf
    obtain rfl := Option.some.inj h
    exact ⟨_, LE.refl _, And.intro rfl trivial⟩
  · replace h := ite_f h e; clear e
    conv => whnf
    refine seq_in tOk ?_
    conv => whnf
    obtain ⟨x4, hx4, h⟩ := bd_some h
    refine loop_m tOk hx4 (fun s1 => ⟨0, 27, [(0, .d (slD TreeSlot.enc a0)), (1, .d (slD TreeSlot.enc a1)), (5, .d (.int .i64 s1))], [], [], []⟩) ?_ ?_
    · refine le_mk ?_ ?_ ?_ <;> (repeat' first | exact trivial | exact rfl | refine And.intro ?_ ?_ | exact BLe.refl _ | exact VLe.refl _ | exact VLe.any _ | exact VLe.nil_osl rfl | exact VLe.nil_sl rfl | exact VLe.built rfl rfl | (refine VLe.osl rfl ?_; (first | rfl | (simp; done) | assumption | (simp [dsub_eq] <;> omega) | omega)) | exact VLe.rows (by first | rfl | (simp; done) | assumption | (simp [dsub_eq] <;> omega) | omega) (fun _ _ => rfl) | exact VLe.rows (by simp [dsub_eq] <;> omega) rows_take | exact VLe.rows (by simp [dsub_eq] <;> omega) rows_dt | exact VLe.rows (by simp [dsub_eq] <;> omega) rows_vt | exact VLe.rows (by simp) (fun i _ => by simp [viewRow_eq, Nat.add_comm]) | refine VLe.aggL ?_ | (refine BLe.rows rfl ?_ fun _ _ => rfl; (first | rfl | (simp; done) | assumption | (simp [dsub_eq] <;> omega) | omega)) | (refine BLe.rows rfl rfl ?_; first | exact rows_take) | refine BLe.box ?_)
    · clear hx4
      intro s1 y2 g3 hy2
      conv => whnf
      refine seq_in tOk ?_
      conv => whnf
      refine And.intro (fun e => ?_) (fun e => ?_)
      · replace g3 := ite_t g3 e; clear e
        conv => whnf
        refine seq_in tOk ?_
        conv => whnf
        obtain ⟨g5, g3⟩ := gd_some g3
        obtain ⟨g6, g3⟩ := gd_some g3
        obtain ⟨x7, hx7, g3⟩ := bd_some g3
        refine draw_k tOk (by kernel_rfl) (fun j => match j with | 8 => some (.pure 0 (.d (.bool x7)) []) | _ => none) 10 [] [[], [], [true, true], [true, true, true], [], [], [false, false, false, false, true, true], [false, false, false, false, true, true, true], [true, true, true, true, true, true, true, true], [true, true, true, true, true, true, true, true, true]] [] (by decide) (by kernel_rfl) (by kernel_rfl) ?_
        conv => whnf
        refine And.intro g5 ?_
        clear g5
        conv => whnf
        refine And.intro g6 ?_
        clear g6
        conv => whnf
        refine And.intro (callD_any (laws_eqTreeSlot_c hx7) (by kernel_rfl)) ?_
        conv => whnf
        refine And.intro (by kernel_rfl) ?_
        conv => whnf
        refine And.intro (fun e => ?_) (fun e => ?_)
        · replace g3 := ite_t g3 e; clear e
          conv => whnf
          obtain rfl := Option.some.inj g3
          obtain rfl := hy2 _ rfl
          obtain rfl := Option.some.inj h
          exact ⟨_, LE.refl _, And.intro rfl trivial⟩
        · replace g3 := ite_f g3 e; clear e
          conv => whnf
          obtain rfl := Option.some.inj g3
          refine ⟨_, rfl, le_mk ?_ ?_ ?_⟩ <;> (repeat' first | exact trivial | exact rfl | refine And.intro ?_ ?_ | exact BLe.refl _ | exact VLe.refl _ | exact VLe.any _ | exact VLe.nil_osl rfl | exact VLe.nil_sl rfl | exact VLe.built rfl rfl | (refine VLe.osl rfl ?_; (first | rfl | (simp; done) | assumption | (simp [dsub_eq] <;> omega) | omega)) | exact VLe.rows (by first | rfl | (simp; done) | assumption | (simp [dsub_eq] <;> omega) | omega) (fun _ _ => rfl) | exact VLe.rows (by simp [dsub_eq] <;> omega) rows_take | exact VLe.rows (by simp [dsub_eq] <;> omega) rows_dt | exact VLe.rows (by simp [dsub_eq] <;> omega) rows_vt | exact VLe.rows (by simp) (fun i _ => by simp [viewRow_eq, Nat.add_comm]) | refine VLe.aggL ?_ | (refine BLe.rows rfl ?_ fun _ _ => rfl; (first | rfl | (simp; done) | assumption | (simp [dsub_eq] <;> omega) | omega)) | (refine BLe.rows rfl rfl ?_; first | exact rows_take) | refine BLe.box ?_)
      · replace g3 := ite_f g3 e; clear e
        conv => whnf
        obtain rfl := Option.some.inj g3
        obtain rfl := hy2 _ rfl
        obtain rfl := Option.some.inj h
        exact ⟨_, LE.refl _, And.intro rfl trivial⟩

noncomputable def laws_eqTreeWord_m (a0 : TreeWord) (a1 : TreeWord) : Option (Bool) :=
(if (a0.Link != a1.Link) = true then
 some false
else
(if (a0.End != a1.End) = true then
 some false
else
 bd (laws_eqTreeVector_m a0.Vector a1.Vector) fun x1 =>
(if (!x1) = true then
 some false
else
 some true)))

theorem laws_eqTreeWord_c {a0 : TreeWord} {a1 : TreeWord} {r : Bool} (h : laws_eqTreeWord_m a0 a1 = some r) : PureC Try.prog 104 [.agg [.d (.int .i64 a0.Link), .d (.int .i64 a0.End), .d (.int .i64 a0.Vector.Root), .d (.int .i64 a0.Vector.Cost), .d (.int .i64 a0.Vector.Age)], .agg [.d (.int .i64 a1.Link), .d (.int .i64 a1.End), .d (.int .i64 a1.Vector.Root), .d (.int .i64 a1.Vector.Cost), .d (.int .i64 a1.Vector.Age)]] (.d (.bool r)) [] := by
  refine pureC_m tOk (fn := Try.f104) (c := codeOf Try.f104) rfl rfl (by kernel_rfl) rfl rfl (by simp) (by simp) (ids_of rfl) ?_
  unfold laws_eqTreeWord_m at h
  conv => whnf
  refine seq_in tOk ?_
  conv => whnf
  refine And.intro (fun e => ?_) (fun e => ?_)
  · replace h := ite_t h e; clear e
    conv => whnf
    obtain rfl := Option.some.inj h
    exact ⟨_, LE.refl _, And.intro rfl trivial⟩
  · replace h := ite_f h e; clear e
    conv => whnf
    refine seq_in tOk ?_
    conv => whnf
    refine And.intro (fun e => ?_) (fun e => ?_)
    · replace h := ite_t h e; clear e
      conv => whnf
      obtain rfl := Option.some.inj h
      exact ⟨_, LE.refl _, And.intro rfl trivial⟩
    · replace h := ite_f h e; clear e
      conv => whnf
      refine seq_in tOk ?_
      conv => whnf
      obtain ⟨x1, hx1, h⟩ := bd_some h
      refine callC 0 (laws_eqTreeVector_c hx1) (by kernel_rfl) (by kernel_rfl) ?_
      clear hx1
      conv => whnf
      refine And.intro (fun e => ?_) (fun e => ?_)
      · replace h := ite_t h e; clear e
        conv => whnf
        obtain rfl := Option.some.inj h
        exact ⟨_, LE.refl _, And.intro rfl trivial⟩
      · replace h := ite_f h e; clear e
        conv => whnf
        obtain rfl := Option.some.inj h
        exact ⟨_, LE.refl _, And.intro rfl trivial⟩

noncomputable def laws_eqTreeWordS_m (a0 : (List TreeWord)) (a1 : (List TreeWord)) : Option (Bool) :=
(if (((a0.length : Nat) : Int) != ((a1.length : Nat) : Int)) = true then
 some false
else
 bd (lp (σ := Int) (β := (Unit ⊕ Unit)) (fun s1 =>
(if (decide (s1 < ((a0.length : Nat) : Int))) = true then
 gd ((0 : Int) ≤ s1 ∧ s1 < ((a0.length : Nat) : Int)) <|
 gd ((0 : Int) ≤ s1 ∧ s1 < ((a1.length : Nat) : Int)) <|
 bd (laws_eqTreeWord_m ({ (a0.getD s1.toNat default) with Vector := ((a0.getD s1.toNat default).Vector) }) ({ (a1.getD s1.toNat default) with Vector := ((a1.getD s1.toNat default).Vector) })) fun x7 =>
(if (!x7) = true then
 some (.inr (.inl ()))
else
 some (.inl (IntKind.i64.wrap (s1 + 1))))
else
 some (.inr (.inr ())))) 0) fun x4 =>
(match x4 with
| .inl d8 =>
 some false
| .inr d9 =>
 some true))

theorem laws_eqTreeWordS_c {a0 : (List TreeWord)} {a1 : (List TreeWord)} {r : Bool} (h : laws_eqTreeWordS_m a0 a1 = some r) : PureC Try.prog 68 [.d (slD TreeWord.enc a0), .d (slD TreeWord.enc a1)] (.d (.bool r)) [] := by
  refine pureC_m tOk (fn := Try.f68) (c := codeOf Try.f68) rfl rfl (by kernel_rfl) rfl rfl (by simp) (by simp) (ids_of rfl) ?_
  unfold laws_eqTreeWordS_m at h
  conv => whnf
  refine seq_in tOk ?_
  conv => whnf
  refine And.intro (fun e => ?_) (fun e => ?_)
  · replace h := ite_t h e; clear e
    conv => whnf
    obtain rfl := Option.some.inj h
    exact ⟨_, LE.refl _, And.intro rfl trivial⟩
  · replace h := ite_f h e; clear e
    conv => whnf
    refine seq_in tOk ?_
    conv => whnf
    obtain ⟨x4, hx4, h⟩ := bd_some h
    refine loop_m tOk hx4 (fun s1 => ⟨0, 27, [(0, .d (slD TreeWord.enc a0)), (1, .d (slD TreeWord.enc a1)), (5, .d (.int .i64 s1))], [], [], []⟩) ?_ ?_
    · refine le_mk ?_ ?_ ?_ <;> (repeat' first | exact trivial | exact rfl | refine And.intro ?_ ?_ | exact BLe.refl _ | exact VLe.refl _ | exact VLe.any _ | exact VLe.nil_osl rfl | exact VLe.nil_sl rfl | exact VLe.built rfl rfl | (refine VLe.osl rfl ?_; (first | rfl | (simp; done) | assumption | (simp [dsub_eq] <;> omega) | omega)) | exact VLe.rows (by first | rfl | (simp; done) | assumption | (simp [dsub_eq] <;> omega) | omega) (fun _ _ => rfl) | exact VLe.rows (by simp [dsub_eq] <;> omega) rows_take | exact VLe.rows (by simp [dsub_eq] <;> omega) rows_dt | exact VLe.rows (by simp [dsub_eq] <;> omega) rows_vt | exact VLe.rows (by simp) (fun i _ => by simp [viewRow_eq, Nat.add_comm]) | refine VLe.aggL ?_ | (refine BLe.rows rfl ?_ fun _ _ => rfl; (first | rfl | (simp; done) | assumption | (simp [dsub_eq] <;> omega) | omega)) | (refine BLe.rows rfl rfl ?_; first | exact rows_take) | refine BLe.box ?_)
    · clear hx4
      intro s1 y2 g3 hy2
      conv => whnf
      refine seq_in tOk ?_
      conv => whnf
      refine And.intro (fun e => ?_) (fun e => ?_)
      · replace g3 := ite_t g3 e; clear e
        conv => whnf
        refine seq_in tOk ?_
        conv => whnf
        obtain ⟨g5, g3⟩ := gd_some g3
        obtain ⟨g6, g3⟩ := gd_some g3
        obtain ⟨x7, hx7, g3⟩ := bd_some g3
        refine draw_k tOk (by kernel_rfl) (fun j => match j with | 8 => some (.pure 0 (.d (.bool x7)) []) | _ => none) 10 [] [[], [], [true, true], [true, true, true], [], [], [false, false, false, false, true, true], [false, false, false, false, true, true, true], [true, true, true, true, true, true, true, true], [true, true, true, true, true, true, true, true, true]] [] (by decide) (by kernel_rfl) (by kernel_rfl) ?_
        conv => whnf
        refine And.intro g5 ?_
        clear g5
        conv => whnf
        refine And.intro g6 ?_
        clear g6
        conv => whnf
        refine And.intro (callD_any (laws_eqTreeWord_c hx7) (by kernel_rfl)) ?_
        conv => whnf
        refine And.intro (by kernel_rfl) ?_
        conv => whnf
        refine And.intro (fun e => ?_) (fun e => ?_)
        · replace g3 := ite_t g3 e; clear e
          conv => whnf
          obtain rfl := Option.some.inj g3
          obtain rfl := hy2 _ rfl
          obtain rfl := Option.some.inj h
          exact ⟨_, LE.refl _, And.intro rfl trivial⟩
        · replace g3 := ite_f g3 e; clear e
          conv => whnf
          obtain rfl := Option.some.inj g3
          refine ⟨_, rfl, le_mk ?_ ?_ ?_⟩ <;> (repeat' first | exact trivial | exact rfl | refine And.intro ?_ ?_ | exact BLe.refl _ | exact VLe.refl _ | exact VLe.any _ | exact VLe.nil_osl rfl | exact VLe.nil_sl rfl | exact VLe.built rfl rfl | (refine VLe.osl rfl ?_; (first | rfl | (simp; done) | assumption | (simp [dsub_eq] <;> omega) | omega)) | exact VLe.rows (by first | rfl | (simp; done) | assumption | (simp [dsub_eq] <;> omega) | omega) (fun _ _ => rfl) | exact VLe.rows (by simp [dsub_eq] <;> omega) rows_take | exact VLe.rows (by simp [dsub_eq] <;> omega) rows_dt | exact VLe.rows (by simp [dsub_eq] <;> omega) rows_vt | exact VLe.rows (by simp) (fun i _ => by simp [viewRow_eq, Nat.add_comm]) | refine VLe.aggL ?_ | (refine BLe.rows rfl ?_ fun _ _ => rfl; (first | rfl | (simp; done) | assumption | (simp [dsub_eq] <;> omega) | omega)) | (refine BLe.rows rfl rfl ?_; first | exact rows_take) | refine BLe.box ?_)
      · replace g3 := ite_f g3 e; clear e
        conv => whnf
        obtain rfl := Option.some.inj g3
        obtain rfl := hy2 _ rfl
        obtain rfl := Option.some.inj h
        exact ⟨_, LE.refl _, And.intro rfl trivial⟩

noncomputable def laws_eqTreeWorld_m (a0 : TreeWorld) (a1 : TreeWorld) : Option (Bool) :=
 bd (laws_eqTreeBridgeS_m a0.Bridges a1.Bridges) fun x1 =>
(if (!x1) = true then
 some false
else
 bd (laws_eqTreeLinkS_m a0.Links a1.Links) fun x2 =>
(if (!x2) = true then
 some false
else
 bd (laws_eqIntS_m a0.Down a1.Down) fun x3 =>
(if (!x3) = true then
 some false
else
 bd (laws_eqTreeSlotS_m a0.AtA a1.AtA) fun x4 =>
(if (!x4) = true then
 some false
else
 bd (laws_eqTreeSlotS_m a0.AtB a1.AtB) fun x5 =>
(if (!x5) = true then
 some false
else
 bd (laws_eqTreeWordS_m a0.Radio a1.Radio) fun x6 =>
(if (!x6) = true then
 some false
else
 some true))))))

theorem laws_eqTreeWorld_c {a0 : TreeWorld} {a1 : TreeWorld} {r : Bool} (h : laws_eqTreeWorld_m a0 a1 = some r) : PureC Try.prog 19 [.agg [.d (slD TreeBridge.enc a0.Bridges), .d (slD TreeLink.enc a0.Links), .d (slD encInt a0.Down), .d (slD TreeSlot.enc a0.AtA), .d (slD TreeSlot.enc a0.AtB), .d (slD TreeWord.enc a0.Radio)], .agg [.d (slD TreeBridge.enc a1.Bridges), .d (slD TreeLink.enc a1.Links), .d (slD encInt a1.Down), .d (slD TreeSlot.enc a1.AtA), .d (slD TreeSlot.enc a1.AtB), .d (slD TreeWord.enc a1.Radio)]] (.d (.bool r)) [] := by
  refine pureC_m tOk (fn := Try.f19) (c := codeOf Try.f19) rfl rfl (by kernel_rfl) rfl rfl (by simp) (by simp) (ids_of rfl) ?_
  unfold laws_eqTreeWorld_m at h
  conv => whnf
  refine seq_in tOk ?_
  conv => whnf
  obtain ⟨x1, hx1, h⟩ := bd_some h
  refine callC 0 (laws_eqTreeBridgeS_c hx1) (by kernel_rfl) (by kernel_rfl) ?_
  clear hx1
  conv => whnf
  refine And.intro (fun e => ?_) (fun e => ?_)
  · replace h := ite_t h e; clear e
    conv => whnf
    obtain rfl := Option.some.inj h
    exact ⟨_, LE.refl _, And.intro rfl trivial⟩
  · replace h := ite_f h e; clear e
    conv => whnf
    refine seq_in tOk ?_
    conv => whnf
    obtain ⟨x2, hx2, h⟩ := bd_some h
    refine callC 0 (laws_eqTreeLinkS_c hx2) (by kernel_rfl) (by kernel_rfl) ?_
    clear hx2
    conv => whnf
    refine And.intro (fun e => ?_) (fun e => ?_)
    · replace h := ite_t h e; clear e
      conv => whnf
      obtain rfl := Option.some.inj h
      exact ⟨_, LE.refl _, And.intro rfl trivial⟩
    · replace h := ite_f h e; clear e
      conv => whnf
      refine seq_in tOk ?_
      conv => whnf
      obtain ⟨x3, hx3, h⟩ := bd_some h
      refine callC 0 (laws_eqIntS_c hx3) (by kernel_rfl) (by kernel_rfl) ?_
      clear hx3
      conv => whnf
      refine And.intro (fun e => ?_) (fun e => ?_)
      · replace h := ite_t h e; clear e
        conv => whnf
        obtain rfl := Option.some.inj h
        exact ⟨_, LE.refl _, And.intro rfl trivial⟩
      · replace h := ite_f h e; clear e
        conv => whnf
        refine seq_in tOk ?_
        conv => whnf
        obtain ⟨x4, hx4, h⟩ := bd_some h
        refine callC 0 (laws_eqTreeSlotS_c hx4) (by kernel_rfl) (by kernel_rfl) ?_
        clear hx4
        conv => whnf
        refine And.intro (fun e => ?_) (fun e => ?_)
        · replace h := ite_t h e; clear e
          conv => whnf
          obtain rfl := Option.some.inj h
          exact ⟨_, LE.refl _, And.intro rfl trivial⟩
        · replace h := ite_f h e; clear e
          conv => whnf
          refine seq_in tOk ?_
          conv => whnf
          obtain ⟨x5, hx5, h⟩ := bd_some h
          refine callC 0 (laws_eqTreeSlotS_c hx5) (by kernel_rfl) (by kernel_rfl) ?_
          clear hx5
          conv => whnf
          refine And.intro (fun e => ?_) (fun e => ?_)
          · replace h := ite_t h e; clear e
            conv => whnf
            obtain rfl := Option.some.inj h
            exact ⟨_, LE.refl _, And.intro rfl trivial⟩
          · replace h := ite_f h e; clear e
            conv => whnf
            refine seq_in tOk ?_
            conv => whnf
            obtain ⟨x6, hx6, h⟩ := bd_some h
            refine callC 0 (laws_eqTreeWordS_c hx6) (by kernel_rfl) (by kernel_rfl) ?_
            clear hx6
            conv => whnf
            refine And.intro (fun e => ?_) (fun e => ?_)
            · replace h := ite_t h e; clear e
              conv => whnf
              obtain rfl := Option.some.inj h
              exact ⟨_, LE.refl _, And.intro rfl trivial⟩
            · replace h := ite_f h e; clear e
              conv => whnf
              obtain rfl := Option.some.inj h
              exact ⟨_, LE.refl _, And.intro rfl trivial⟩

noncomputable def laws_FnExactTreeWorldOk_m (a0 : TreeWorld) : Option (Bool) :=
 bd (laws_szTreeWorld_m a0 1048576) fun x1 =>
(if (decide (x1 < 0)) = true then
 some true
else
 bd (laws_toTreeWorld_m a0) fun x2 =>
 bd (spec_TreeWorldOk_m x2) fun x3 =>
 bd (laws_toTreeWorld_m a0) fun x4 =>
 bd (impl_TreeWorldOk_m x4) fun x5 =>
(if (!(x5 == x3)) = true then
 some false
else
 bd (laws_toTreeWorld_m a0) fun x6 =>
 bd (laws_eqTreeWorld_m x4 x6) fun x7 =>
(if (!x7) = true then
 some false
else
 some true)))

theorem laws_FnExactTreeWorldOk_c {a0 : TreeWorld} {r : Bool} (h : laws_FnExactTreeWorldOk_m a0 = some r) : PureC Try.prog 4 [.agg [.d (slD TreeBridge.enc a0.Bridges), .d (slD TreeLink.enc a0.Links), .d (slD encInt a0.Down), .d (slD TreeSlot.enc a0.AtA), .d (slD TreeSlot.enc a0.AtB), .d (slD TreeWord.enc a0.Radio)]] (.d (.bool r)) [] := by
  refine pureC_m tOk (fn := Try.f4) (c := codeOf Try.f4) rfl rfl (by kernel_rfl) rfl rfl (by simp) (by simp) (ids_of rfl) ?_
  unfold laws_FnExactTreeWorldOk_m at h
  conv => whnf
  obtain ⟨x1, hx1, h⟩ := bd_some h
  refine callC 0 (laws_szTreeWorld_c hx1) (by kernel_rfl) (by kernel_rfl) ?_
  clear hx1
  conv => whnf
  refine seq_in tOk ?_
  conv => whnf
  refine And.intro (fun e => ?_) (fun e => ?_)
  · replace h := ite_t h e; clear e
    conv => whnf
    obtain rfl := Option.some.inj h
    exact ⟨_, LE.refl _, And.intro rfl trivial⟩
  · replace h := ite_f h e; clear e
    conv => whnf
    obtain ⟨x2, hx2, h⟩ := bd_some h
    refine callC 1000 (laws_toTreeWorld_c hx2) (by kernel_rfl) (by kernel_rfl) ?_
    clear hx2
    conv => whnf
    obtain ⟨x3, hx3, h⟩ := bd_some h
    refine callC 0 (spec_TreeWorldOk_c hx3) (by kernel_rfl) (by kernel_rfl) ?_
    clear hx3
    conv => whnf
    obtain ⟨x4, hx4, h⟩ := bd_some h
    refine callC 2000 (laws_toTreeWorld_c hx4) (by kernel_rfl) (by kernel_rfl) ?_
    clear hx4
    conv => whnf
    obtain ⟨x5, hx5, h⟩ := bd_some h
    refine callC 0 (impl_TreeWorldOk_c hx5) (by kernel_rfl) (by kernel_rfl) ?_
    clear hx5
    conv => whnf
    refine seq_in tOk ?_
    conv => whnf
    refine And.intro (fun e => ?_) (fun e => ?_)
    · replace h := ite_t h e; clear e
      conv => whnf
      obtain rfl := Option.some.inj h
      exact ⟨_, LE.refl _, And.intro rfl trivial⟩
    · replace h := ite_f h e; clear e
      conv => whnf
      refine seq_in tOk ?_
      conv => whnf
      obtain ⟨x6, hx6, h⟩ := bd_some h
      obtain ⟨x7, hx7, h⟩ := bd_some h
      refine draw_k tOk (by kernel_rfl) (fun j => match j with | 2 => some (.pure 3000 (.agg [.osl 5001 0 x6.Bridges.length, .osl 5002 0 x6.Links.length, .osl 5003 0 x6.Down.length, .osl 5004 0 x6.AtA.length, .osl 5005 0 x6.AtB.length, .osl 5006 0 x6.Radio.length]) [⟨5001, 74, 6, x6.Bridges.length, rows TreeBridge.enc x6.Bridges⟩, ⟨5002, 70, 3, x6.Links.length, rows TreeLink.enc x6.Links⟩, ⟨5003, 3, 1, x6.Down.length, rows encInt x6.Down⟩, ⟨5004, 112, 4, x6.AtA.length, rows TreeSlot.enc x6.AtA⟩, ⟨5005, 112, 4, x6.AtB.length, rows TreeSlot.enc x6.AtB⟩, ⟨5006, 78, 5, x6.Radio.length, rows TreeWord.enc x6.Radio⟩]) | 3 => some (.pure 0 (.d (.bool x7)) []) | _ => none) 5 [] [[], [], [false, true], [true, true, true], [true, true, true, true]] [] (by decide) (by kernel_rfl) (by kernel_rfl) ?_
      conv => whnf
      refine And.intro (callD_any (laws_toTreeWorld_c hx6) (by kernel_rfl)) ?_
      conv => whnf
      refine And.intro (callD_any (laws_eqTreeWorld_c hx7) (by kernel_rfl)) ?_
      conv => whnf
      refine And.intro (by kernel_rfl) ?_
      conv => whnf
      refine And.intro (fun e => ?_) (fun e => ?_)
      · replace h := ite_t h e; clear e
        conv => whnf
        obtain rfl := Option.some.inj h
        exact ⟨_, LE.refl _, And.intro rfl trivial⟩
      · replace h := ite_f h e; clear e
        conv => whnf
        obtain rfl := Option.some.inj h
        exact ⟨_, LE.refl _, And.intro rfl trivial⟩

noncomputable def impl_TreeWorld_isUp_m (a0 : TreeWorld) (a1 : Int) : Option (Bool) :=
 bd (impl_within_m a1 0 (IntKind.i64.wrap (((a0.Bridges.length : Nat) : Int) - 1))) fun x1 =>
 gd (x1 = true → ((0 : Int) ≤ a1 ∧ a1 < ((a0.Bridges.length : Nat) : Int))) <|
 some (x1 && (a0.Bridges.getD a1.toNat default).Up)

theorem impl_TreeWorld_isUp_c {a0 : TreeWorld} {a1 : Int} {r : Bool} (h : impl_TreeWorld_isUp_m a0 a1 = some r) : PureC Try.prog 71 [.rp [slD TreeBridge.enc a0.Bridges, slD TreeLink.enc a0.Links, slD encInt a0.Down, slD TreeSlot.enc a0.AtA, slD TreeSlot.enc a0.AtB, slD TreeWord.enc a0.Radio], .d (.int .i64 a1)] (.d (.bool r)) [] := by
  refine pureC_m tOk (fn := Try.f71) (c := codeOf Try.f71) rfl rfl (by kernel_rfl) rfl rfl (by simp) (by simp) (ids_of rfl) ?_
  unfold impl_TreeWorld_isUp_m at h
  conv => whnf
  obtain ⟨x1, hx1, h⟩ := bd_some h
  refine callC 0 (impl_within_c hx1) (by kernel_rfl) (by kernel_rfl) ?_
  clear hx1
  conv => whnf
  obtain ⟨g2, h⟩ := gd_some h
  refine And.intro g2 ?_
  clear g2
  conv => whnf
  obtain rfl := Option.some.inj h
  exact ⟨_, LE.refl _, And.intro rfl trivial⟩

noncomputable def impl_selfMind_m (a0 : Int) : Option (TreeMind) :=
 some (⟨(⟨a0, 0, 0⟩ : TreeVector), -1⟩ : TreeMind)

theorem impl_selfMind_c {a0 : Int} {r : TreeMind} (h : impl_selfMind_m a0 = some r) : PureC Try.prog 41 [.d (.int .i64 a0)] (.agg [.d (.int .i64 r.Vector.Root), .d (.int .i64 r.Vector.Cost), .d (.int .i64 r.Vector.Age), .d (.int .i64 r.Link)]) [] := by
  refine pureC_m tOk (fn := Try.f41) (c := codeOf Try.f41) rfl rfl (by kernel_rfl) rfl rfl (by simp) (by simp) (ids_of rfl) ?_
  unfold impl_selfMind_m at h
  conv => whnf
  obtain rfl := Option.some.inj h
  exact ⟨_, LE.refl _, And.intro rfl trivial⟩

noncomputable def impl_TreeVector_compare_m (a0 : TreeVector) (a1 : TreeVector) : Option (Int) :=
(if (a0.Root != a1.Root) = true then
 some (IntKind.i64.wrap (a0.Root - a1.Root))
else
 some (IntKind.i64.wrap (a0.Cost - a1.Cost)))

theorem impl_TreeVector_compare_c {a0 : TreeVector} {a1 : TreeVector} {r : Int} (h : impl_TreeVector_compare_m a0 a1 = some r) : PureC Try.prog 108 [.agg [.d (.int .i64 a0.Root), .d (.int .i64 a0.Cost), .d (.int .i64 a0.Age)], .agg [.d (.int .i64 a1.Root), .d (.int .i64 a1.Cost), .d (.int .i64 a1.Age)]] (.d (.int .i64 r)) [] := by
  refine pureC_m tOk (fn := Try.f108) (c := codeOf Try.f108) rfl rfl (by kernel_rfl) rfl rfl (by simp) (by simp) (ids_of rfl) ?_
  unfold impl_TreeVector_compare_m at h
  conv => whnf
  refine seq_in tOk ?_
  conv => whnf
  refine And.intro (fun e => ?_) (fun e => ?_)
  · replace h := ite_t h e; clear e
    conv => whnf
    obtain rfl := Option.some.inj h
    exact ⟨_, LE.refl _, And.intro rfl trivial⟩
  · replace h := ite_f h e; clear e
    conv => whnf
    obtain rfl := Option.some.inj h
    exact ⟨_, LE.refl _, And.intro rfl trivial⟩

noncomputable def impl_TreeWorld_think_m (a0 : TreeWorld) (a1 : Int) : Option (TreeMind) :=
 gd ((0 : Int) ≤ a1 ∧ a1 < ((a0.Bridges.length : Nat) : Int)) <|
 bd (impl_selfMind_m ((a0.Bridges.getD a1.toNat default).Id)) fun x2 =>
 bd (lp (σ := Int × Int × Int × Int × Int × Int) (β := (Int × Int × Int × Int)) (fun s3 =>
(if (decide (s3.2.2.2.2.1 < ((a0.Links.length : Nat) : Int))) = true then
 gd ((0 : Int) ≤ s3.2.2.2.2.1 ∧ s3.2.2.2.2.1 < ((a0.Links.length : Nat) : Int)) <|
 bd (lp (σ := Int × Int × Int × Int × Int × Int) (β := (Int × Int × Int × Int × Int)) (fun s8 =>
(if (decide (s8.2.2.2.2.1 < 2)) = true then
 bd (impl_TreeWorld_slot_m a0 s3.2.2.2.2.1 s8.2.2.2.2.1) fun x12 =>
 bd (impl_TreeWorld_bridgeAt_m a0 s3.2.2.2.2.1 s8.2.2.2.2.1) fun x13 =>
 bd (gcall ((x13 != a1) = false) (impl_TreeVector_nothing_m x12.Vector)) fun x14 =>
(if ((((x13 != a1) || x14) || (decide (x12.Vector.Age ≥ 10))) || (decide ((IntKind.i64.wrap (x12.Vector.Cost + ((a0.Links.getD s3.2.2.2.2.1.toNat default).Cost))) > 1000))) = true then
 some (.inl (s8.1, s8.2.1, s8.2.2.1, s8.2.2.2.1, IntKind.i64.wrap (s8.2.2.2.2.1 + 1), s8.2.2.2.2.2))
else
 bd (impl_TreeWorld_bridgeAt_m a0 s3.2.2.2.2.1 (IntKind.i64.wrap (1 - s8.2.2.2.2.1))) fun x15 =>
 gd ((0 : Int) ≤ x15 ∧ x15 < ((a0.Bridges.length : Nat) : Int)) <|
 bd (impl_TreeVector_compare_m (⟨x12.Vector.Root, IntKind.i64.wrap (x12.Vector.Cost + ((a0.Links.getD s3.2.2.2.2.1.toNat default).Cost)), IntKind.i64.wrap (x12.Vector.Age + 1)⟩ : TreeVector) (⟨s8.1, s8.2.1, s8.2.2.1⟩ : TreeVector)) fun x17 =>
(if ((decide (x17 < 0)) || ((x17 == 0) && (decide (((a0.Bridges.getD x15.toNat default).Id) < s8.2.2.2.2.2)))) = true then
 some (.inl (x12.Vector.Root, IntKind.i64.wrap (x12.Vector.Cost + ((a0.Links.getD s3.2.2.2.2.1.toNat default).Cost)), IntKind.i64.wrap (x12.Vector.Age + 1), s3.2.2.2.2.1, IntKind.i64.wrap (s8.2.2.2.2.1 + 1), (a0.Bridges.getD x15.toNat default).Id))
else
 some (.inl (s8.1, s8.2.1, s8.2.2.1, s8.2.2.2.1, IntKind.i64.wrap (s8.2.2.2.2.1 + 1), s8.2.2.2.2.2))))
else
 some (.inr (s8.2.2.2.2.2, s8.1, s8.2.1, s8.2.2.1, s8.2.2.2.1)))) (s3.1, s3.2.1, s3.2.2.1, s3.2.2.2.1, 0, s3.2.2.2.2.2)) fun x11 =>
 some (.inl (x11.2.1, x11.2.2.1, x11.2.2.2.1, x11.2.2.2.2, IntKind.i64.wrap (s3.2.2.2.2.1 + 1), x11.1))
else
 some (.inr (s3.1, s3.2.1, s3.2.2.1, s3.2.2.2.1)))) (x2.Vector.Root, x2.Vector.Cost, x2.Vector.Age, x2.Link, 0, 0)) fun x6 =>
 some (⟨(⟨x6.1, x6.2.1, x6.2.2.1⟩ : TreeVector), x6.2.2.2⟩ : TreeMind)

theorem impl_TreeWorld_think_c {a0 : TreeWorld} {a1 : Int} {r : TreeMind} (h : impl_TreeWorld_think_m a0 a1 = some r) : PureC Try.prog 72 [.rp [slD TreeBridge.enc a0.Bridges, slD TreeLink.enc a0.Links, slD encInt a0.Down, slD TreeSlot.enc a0.AtA, slD TreeSlot.enc a0.AtB, slD TreeWord.enc a0.Radio], .d (.int .i64 a1)] (.agg [.d (.int .i64 r.Vector.Root), .d (.int .i64 r.Vector.Cost), .d (.int .i64 r.Vector.Age), .d (.int .i64 r.Link)]) [] := by
  refine pureC_m tOk (fn := Try.f72) (c := codeOf Try.f72) rfl rfl (by kernel_rfl) rfl rfl (by simp) (by simp) (ids_of rfl) ?_
  unfold impl_TreeWorld_think_m at h
  conv => whnf
  obtain ⟨g1, h⟩ := gd_some h
  refine And.intro g1 ?_
  clear g1
  conv => whnf
  obtain ⟨x2, hx2, h⟩ := bd_some h
  refine callC 0 (impl_selfMind_c hx2) (by kernel_rfl) (by kernel_rfl) ?_
  clear hx2
  conv => whnf
  refine seq_in tOk ?_
  conv => whnf
  obtain ⟨x6, hx6, h⟩ := bd_some h
  refine loop_m tOk hx6 (fun s3 => ⟨0, 110, [(0, .rp [slD TreeBridge.enc a0.Bridges, slD TreeLink.enc a0.Links, slD encInt a0.Down, slD TreeSlot.enc a0.AtA, slD TreeSlot.enc a0.AtB, slD TreeWord.enc a0.Radio]), (1, .d (.int .i64 a1)), (4, .ref 4 0 0), (5, .ref 5 0 0), (6, .d (.int .i64 s3.2.2.2.2.2)), (25, .d (slD TreeLink.enc a0.Links)), (26, .d (.int .i64 ((a0.Links.length : Nat) : Int))), (27, .d (.int .i64 s3.2.2.2.2.1))], [], [(5, .box 51 [.d (.int .i64 s3.1), .d (.int .i64 s3.2.1), .d (.int .i64 s3.2.2.1), .d (.int .i64 s3.2.2.2.1)]), (4, .box 51 [.d (.int .i64 0), .d (.int .i64 0), .d (.int .i64 0), .d (.int .i64 0)])], []⟩) ?_ ?_
  · refine le_mk ?_ ?_ ?_ <;> (repeat' first | exact trivial | exact rfl | refine And.intro ?_ ?_ | exact BLe.refl _ | exact VLe.refl _ | exact VLe.any _ | exact VLe.nil_osl rfl | exact VLe.nil_sl rfl | exact VLe.built rfl rfl | (refine VLe.osl rfl ?_; (first | rfl | (simp; done) | assumption | (simp [dsub_eq] <;> omega) | omega)) | exact VLe.rows (by first | rfl | (simp; done) | assumption | (simp [dsub_eq] <;> omega) | omega) (fun _ _ => rfl) | exact VLe.rows (by simp [dsub_eq] <;> omega) rows_take | exact VLe.rows (by simp [dsub_eq] <;> omega) rows_dt | exact VLe.rows (by simp [dsub_eq] <;> omega) rows_vt | exact VLe.rows (by simp) (fun i _ => by simp [viewRow_eq, Nat.add_comm]) | refine VLe.aggL ?_ | (refine BLe.rows rfl ?_ fun _ _ => rfl; (first | rfl | (simp; done) | assumption | (simp [dsub_eq] <;> omega) | omega)) | (refine BLe.rows rfl rfl ?_; first | exact rows_take) | refine BLe.box ?_)
  · clear hx6
    intro s3 y4 g5 hy4
    conv => whnf
    refine seq_in tOk ?_
    conv => whnf
    refine And.intro (fun e => ?_) (fun e => ?_)
    · replace g5 := ite_t g5 e; clear e
      conv => whnf
      refine seq_in tOk ?_
      conv => whnf
      obtain ⟨g7, g5⟩ := gd_some g5
      refine And.intro g7 ?_
      clear g7
      conv => whnf
      obtain ⟨x11, hx11, g5⟩ := bd_some g5
      refine loop_m tOk hx11 (fun s8 => ⟨0, 110, [(0, .rp [slD TreeBridge.enc a0.Bridges, slD TreeLink.enc a0.Links, slD encInt a0.Down, slD TreeSlot.enc a0.AtA, slD TreeSlot.enc a0.AtB, slD TreeWord.enc a0.Radio]), (1, .d (.int .i64 a1)), (4, .ref 4 0 0), (5, .ref 5 0 0), (6, .d (.int .i64 s8.2.2.2.2.2)), (7, .d (.int .i64 s3.2.2.2.2.1)), (8, .ref 8 0 0), (25, .d (slD TreeLink.enc a0.Links)), (26, .d (.int .i64 ((a0.Links.length : Nat) : Int))), (27, .d (.int .i64 s3.2.2.2.2.1)), (32, .d (.int .i64 s8.2.2.2.2.1))], [], [(8, .box 70 [.d (.int .i64 ((a0.Links.getD s3.2.2.2.2.1.toNat default).A)), .d (.int .i64 ((a0.Links.getD s3.2.2.2.2.1.toNat default).B)), .d (.int .i64 ((a0.Links.getD s3.2.2.2.2.1.toNat default).Cost))]), (5, .box 51 [.d (.int .i64 s8.1), .d (.int .i64 s8.2.1), .d (.int .i64 s8.2.2.1), .d (.int .i64 s8.2.2.2.1)]), (4, .box 51 [.d (.int .i64 0), .d (.int .i64 0), .d (.int .i64 0), .d (.int .i64 0)])], []⟩) ?_ ?_
      · refine le_mk ?_ ?_ ?_ <;> (repeat' first | exact trivial | exact rfl | refine And.intro ?_ ?_ | exact BLe.refl _ | exact VLe.refl _ | exact VLe.any _ | exact VLe.nil_osl rfl | exact VLe.nil_sl rfl | exact VLe.built rfl rfl | (refine VLe.osl rfl ?_; (first | rfl | (simp; done) | assumption | (simp [dsub_eq] <;> omega) | omega)) | exact VLe.rows (by first | rfl | (simp; done) | assumption | (simp [dsub_eq] <;> omega) | omega) (fun _ _ => rfl) | exact VLe.rows (by simp [dsub_eq] <;> omega) rows_take | exact VLe.rows (by simp [dsub_eq] <;> omega) rows_dt | exact VLe.rows (by simp [dsub_eq] <;> omega) rows_vt | exact VLe.rows (by simp) (fun i _ => by simp [viewRow_eq, Nat.add_comm]) | refine VLe.aggL ?_ | (refine BLe.rows rfl ?_ fun _ _ => rfl; (first | rfl | (simp; done) | assumption | (simp [dsub_eq] <;> omega) | omega)) | (refine BLe.rows rfl rfl ?_; first | exact rows_take) | refine BLe.box ?_)
      · clear hx11
        intro s8 y9 g10 hy9
        conv => whnf
        refine seq_in tOk ?_
        conv => whnf
        refine And.intro (fun e => ?_) (fun e => ?_)
        · replace g10 := ite_t g10 e; clear e
          conv => whnf
          refine seq_in tOk ?_
          conv => whnf
          obtain ⟨x12, hx12, g10⟩ := bd_some g10
          refine callE [] 0 (impl_TreeWorld_slot_c hx12) (by (repeat' first | exact trivial | refine And.intro ?_ ?_ | exact VLe.refl _ | exact VLe.any _ | exact VLe.nil_osl rfl | exact VLe.nil_sl rfl | exact VLe.built rfl rfl | (refine VLe.osl rfl ?_; (first | rfl | (simp; done) | assumption | (simp [dsub_eq] <;> omega) | omega)) | exact VLe.rows (by first | rfl | (simp; done) | assumption | (simp [dsub_eq] <;> omega) | omega) (fun _ _ => rfl) | exact VLe.rows (by simp [dsub_eq] <;> omega) rows_take | exact VLe.rows (by simp [dsub_eq] <;> omega) rows_dt | exact VLe.rows (by simp [dsub_eq] <;> omega) rows_vt | exact VLe.rows (by simp) (fun i _ => by simp [viewRow_eq, Nat.add_comm]) | refine VLe.aggL ?_)) (by (repeat' first | exact trivial | exact rfl | refine And.intro ?_ ?_ | exact BLe.refl _ | exact VLe.refl _ | exact VLe.any _ | exact VLe.nil_osl rfl | exact VLe.nil_sl rfl | exact VLe.built rfl rfl | (refine VLe.osl rfl ?_; (first | rfl | (simp; done) | assumption | (simp [dsub_eq] <;> omega) | omega)) | exact VLe.rows (by first | rfl | (simp; done) | assumption | (simp [dsub_eq] <;> omega) | omega) (fun _ _ => rfl) | exact VLe.rows (by simp [dsub_eq] <;> omega) rows_take | exact VLe.rows (by simp [dsub_eq] <;> omega) rows_dt | exact VLe.rows (by simp [dsub_eq] <;> omega) rows_vt | exact VLe.rows (by simp) (fun i _ => by simp [viewRow_eq, Nat.add_comm]) | refine VLe.aggL ?_ | (refine BLe.rows rfl ?_ fun _ _ => rfl; (first | rfl | (simp; done) | assumption | (simp [dsub_eq] <;> omega) | omega)) | refine BLe.box ?_ | (simp; done))) rfl rfl ?_
          conv => whnf
          refine seq_in tOk ?_
          conv => whnf
          obtain ⟨x13, hx13, g10⟩ := bd_some g10
          refine callC 0 (impl_TreeWorld_bridgeAt_c hx13) (by kernel_rfl) (by kernel_rfl) ?_
          clear hx13
          conv => whnf
          obtain ⟨x14, hx14, g10⟩ := bd_some g10
          refine callG_m rfl rfl rfl rfl rfl rfl (by intro c0; exact impl_TreeVector_nothing_c (gcall_some hx14 c0)) ?_
          conv => whnf
          refine And.intro (fun e => ?_) (fun e => ?_)
          · replace g10 := ite_t g10 e; clear e
            conv => whnf
            obtain rfl := Option.some.inj g10
            refine ⟨_, rfl, le_mk ?_ ?_ ?_⟩ <;> (repeat' first | exact trivial | exact rfl | refine And.intro ?_ ?_ | exact BLe.refl _ | exact VLe.refl _ | exact VLe.any _ | exact VLe.nil_osl rfl | exact VLe.nil_sl rfl | exact VLe.built rfl rfl | (refine VLe.osl rfl ?_; (first | rfl | (simp; done) | assumption | (simp [dsub_eq] <;> omega) | omega)) | exact VLe.rows (by first | rfl | (simp; done) | assumption | (simp [dsub_eq] <;> omega) | omega) (fun _ _ => rfl) | exact VLe.rows (by simp [dsub_eq] <;> omega) rows_take | exact VLe.rows (by simp [dsub_eq] <;> omega) rows_dt | exact VLe.rows (by simp [dsub_eq] <;> omega) rows_vt | exact VLe.rows (by simp) (fun i _ => by simp [viewRow_eq, Nat.add_comm]) | refine VLe.aggL ?_ | (refine BLe.rows rfl ?_ fun _ _ => rfl; (first | rfl | (simp; done) | assumption | (simp [dsub_eq] <;> omega) | omega)) | (refine BLe.rows rfl rfl ?_; first | exact rows_take) | refine BLe.box ?_)
          · replace g10 := ite_f g10 e; clear e
            conv => whnf
            obtain ⟨x15, hx15, g10⟩ := bd_some g10
            obtain ⟨g16, g10⟩ := gd_some g10
            refine draw_k tOk (by kernel_rfl) (fun j => match j with | 8 => some (.pure 0 (.d (.int .i64 x15)) []) | _ => none) 13 [] [[], [true], [true, true], [true, true, true], [], [], [], [false, false, false, false, false, false, true], [false, false, false, false, true, true, true, true], [true, true, true, true, true, true, true, true, true], [true, true, true, true, true, true, true, true, true, true], [true, true, true, true, true, true, true, true, true, true, true], [true, true, true, true, true, true, true, true, true, true, true, true]] [] (by decide) (by kernel_rfl) (by kernel_rfl) ?_
            conv => whnf
            refine And.intro (callD_any (impl_TreeWorld_bridgeAt_c hx15) (by kernel_rfl)) ?_
            conv => whnf
            refine And.intro g16 ?_
            clear g16
            conv => whnf
            refine And.intro (by kernel_rfl) ?_
            conv => whnf
            obtain ⟨x17, hx17, g10⟩ := bd_some g10
            refine callC 0 (impl_TreeVector_compare_c hx17) (by kernel_rfl) (by kernel_rfl) ?_
            clear hx17
            conv => whnf
            refine And.intro (fun e => ?_) (fun e => ?_)
            · replace g10 := ite_t g10 e; clear e
              conv => whnf
              obtain rfl := Option.some.inj g10
              refine ⟨_, rfl, le_mk ?_ ?_ ?_⟩ <;> (repeat' first | exact trivial | exact rfl | refine And.intro ?_ ?_ | exact BLe.refl _ | exact VLe.refl _ | exact VLe.any _ | exact VLe.nil_osl rfl | exact VLe.nil_sl rfl | exact VLe.built rfl rfl | (refine VLe.osl rfl ?_; (first | rfl | (simp; done) | assumption | (simp [dsub_eq] <;> omega) | omega)) | exact VLe.rows (by first | rfl | (simp; done) | assumption | (simp [dsub_eq] <;> omega) | omega) (fun _ _ => rfl) | exact VLe.rows (by simp [dsub_eq] <;> omega) rows_take | exact VLe.rows (by simp [dsub_eq] <;> omega) rows_dt | exact VLe.rows (by simp [dsub_eq] <;> omega) rows_vt | exact VLe.rows (by simp) (fun i _ => by simp [viewRow_eq, Nat.add_comm]) | refine VLe.aggL ?_ | (refine BLe.rows rfl ?_ fun _ _ => rfl; (first | rfl | (simp; done) | assumption | (simp [dsub_eq] <;> omega) | omega)) | (refine BLe.rows rfl rfl ?_; first | exact rows_take) | refine BLe.box ?_)
            · replace g10 := ite_f g10 e; clear e
              conv => whnf
              obtain rfl := Option.some.inj g10
              refine ⟨_, rfl, le_mk ?_ ?_ ?_⟩ <;> (repeat' first | exact trivial | exact rfl | refine And.intro ?_ ?_ | exact BLe.refl _ | exact VLe.refl _ | exact VLe.any _ | exact VLe.nil_osl rfl | exact VLe.nil_sl rfl | exact VLe.built rfl rfl | (refine VLe.osl rfl ?_; (first | rfl | (simp; done) | assumption | (simp [dsub_eq] <;> omega) | omega)) | exact VLe.rows (by first | rfl | (simp; done) | assumption | (simp [dsub_eq] <;> omega) | omega) (fun _ _ => rfl) | exact VLe.rows (by simp [dsub_eq] <;> omega) rows_take | exact VLe.rows (by simp [dsub_eq] <;> omega) rows_dt | exact VLe.rows (by simp [dsub_eq] <;> omega) rows_vt | exact VLe.rows (by simp) (fun i _ => by simp [viewRow_eq, Nat.add_comm]) | refine VLe.aggL ?_ | (refine BLe.rows rfl ?_ fun _ _ => rfl; (first | rfl | (simp; done) | assumption | (simp [dsub_eq] <;> omega) | omega)) | (refine BLe.rows rfl rfl ?_; first | exact rows_take) | refine BLe.box ?_)
        · replace g10 := ite_f g10 e; clear e
          conv => whnf
          obtain rfl := Option.some.inj g10
          obtain rfl := hy9 _ rfl
          obtain rfl := Option.some.inj g5
          refine ⟨_, rfl, le_mk ?_ ?_ ?_⟩ <;> (repeat' first | exact trivial | exact rfl | refine And.intro ?_ ?_ | exact BLe.refl _ | exact VLe.refl _ | exact VLe.any _ | exact VLe.nil_osl rfl | exact VLe.nil_sl rfl | exact VLe.built rfl rfl | (refine VLe.osl rfl ?_; (first | rfl | (simp; done) | assumption | (simp [dsub_eq] <;> omega) | omega)) | exact VLe.rows (by first | rfl | (simp; done) | assumption | (simp [dsub_eq] <;> omega) | omega) (fun _ _ => rfl) | exact VLe.rows (by simp [dsub_eq] <;> omega) rows_take | exact VLe.rows (by simp [dsub_eq] <;> omega) rows_dt | exact VLe.rows (by simp [dsub_eq] <;> omega) rows_vt | exact VLe.rows (by simp) (fun i _ => by simp [viewRow_eq, Nat.add_comm]) | refine VLe.aggL ?_ | (refine BLe.rows rfl ?_ fun _ _ => rfl; (first | rfl | (simp; done) | assumption | (simp [dsub_eq] <;> omega) | omega)) | (refine BLe.rows rfl rfl ?_; first | exact rows_take) | refine BLe.box ?_)
    · replace g5 := ite_f g5 e; clear e
      conv => whnf
      obtain rfl := Option.some.inj g5
      obtain rfl := hy4 _ rfl
      obtain rfl := Option.some.inj h
      exact ⟨_, LE.refl _, And.intro rfl trivial⟩

noncomputable def impl_TreeThink_m (a0 : TreeWorld) (a1 : Int) : Option (TreeMind) :=
 bd (impl_TreeWorldOk_m a0) fun x1 =>
 bd (gcall ((!x1) = false) (impl_TreeWorld_isUp_m a0 a1)) fun x2 =>
(if ((!x1) || (!x2)) = true then
 some (⟨(⟨0, 0, 0⟩ : TreeVector), 0⟩ : TreeMind)
else
 bd (impl_TreeWorld_think_m a0 a1) fun x3 =>
 some x3)

theorem impl_TreeThink_c {a0 : TreeWorld} {a1 : Int} {r : TreeMind} (h : impl_TreeThink_m a0 a1 = some r) : PureC Try.prog 21 [.agg [.d (slD TreeBridge.enc a0.Bridges), .d (slD TreeLink.enc a0.Links), .d (slD encInt a0.Down), .d (slD TreeSlot.enc a0.AtA), .d (slD TreeSlot.enc a0.AtB), .d (slD TreeWord.enc a0.Radio)], .d (.int .i64 a1)] (.agg [.d (.int .i64 r.Vector.Root), .d (.int .i64 r.Vector.Cost), .d (.int .i64 r.Vector.Age), .d (.int .i64 r.Link)]) [] := by
  refine pureC_m tOk (fn := Try.f21) (c := codeOf Try.f21) rfl rfl (by kernel_rfl) rfl rfl (by simp) (by simp) (ids_of rfl) ?_
  unfold impl_TreeThink_m at h
  conv => whnf
  refine seq_in tOk ?_
  conv => whnf
  obtain ⟨x1, hx1, h⟩ := bd_some h
  refine callC 0 (impl_TreeWorldOk_c hx1) (by kernel_rfl) (by kernel_rfl) ?_
  clear hx1
  conv => whnf
  obtain ⟨x2, hx2, h⟩ := bd_some h
  refine callG_m rfl rfl rfl rfl rfl rfl (by intro c0; exact impl_TreeWorld_isUp_c (gcall_some hx2 c0)) ?_
  conv => whnf
  refine And.intro (fun e => ?_) (fun e => ?_)
  · replace h := ite_t h e; clear e
    conv => whnf
    obtain rfl := Option.some.inj h
    exact ⟨_, LE.refl _, And.intro rfl trivial⟩
  · replace h := ite_f h e; clear e
    conv => whnf
    obtain ⟨x3, hx3, h⟩ := bd_some h
    refine callC 0 (impl_TreeWorld_think_c hx3) (by kernel_rfl) (by kernel_rfl) ?_
    clear hx3
    conv => whnf
    obtain rfl := Option.some.inj h
    exact ⟨_, LE.refl _, And.intro rfl trivial⟩

noncomputable def spec_l82Self_m (a0 : Int) : Option (TreeMind) :=
 some (⟨(⟨a0, 0, 0⟩ : TreeVector), -1⟩ : TreeMind)

theorem spec_l82Self_c {a0 : Int} {r : TreeMind} (h : spec_l82Self_m a0 = some r) : PureC Try.prog 43 [.d (.int .i64 a0)] (.agg [.d (.int .i64 r.Vector.Root), .d (.int .i64 r.Vector.Cost), .d (.int .i64 r.Vector.Age), .d (.int .i64 r.Link)]) [] := by
  refine pureC_m tOk (fn := Try.f43) (c := codeOf Try.f43) rfl rfl (by kernel_rfl) rfl rfl (by simp) (by simp) (ids_of rfl) ?_
  unfold spec_l82Self_m at h
  conv => whnf
  obtain rfl := Option.some.inj h
  exact ⟨_, LE.refl _, And.intro rfl trivial⟩

noncomputable def spec_l82At_m (a0 : TreeWorld) (a1 : Int) (a2 : Int) : Option (TreeVector × Int) :=
 gd ((0 : Int) ≤ a2 ∧ a2 < ((a0.Links.length : Nat) : Int)) <|
(if (a1 == ((a0.Links.getD a2.toNat default).A)) = true then
 gd ((0 : Int) ≤ a2 ∧ a2 < ((a0.AtA.length : Nat) : Int)) <|
 some (((a0.AtA.getD a2.toNat default).Vector), (a0.Links.getD a2.toNat default).B)
else
(if (a1 == ((a0.Links.getD a2.toNat default).B)) = true then
 gd ((0 : Int) ≤ a2 ∧ a2 < ((a0.AtB.length : Nat) : Int)) <|
 some (((a0.AtB.getD a2.toNat default).Vector), (a0.Links.getD a2.toNat default).A)
else
 some ((⟨0, 0, 0⟩ : TreeVector), -1)))

theorem spec_l82At_c {a0 : TreeWorld} {a1 : Int} {a2 : Int} {r : TreeVector × Int} (h : spec_l82At_m a0 a1 a2 = some r) : PureC Try.prog 105 [.agg [.d (slD TreeBridge.enc a0.Bridges), .d (slD TreeLink.enc a0.Links), .d (slD encInt a0.Down), .d (slD TreeSlot.enc a0.AtA), .d (slD TreeSlot.enc a0.AtB), .d (slD TreeWord.enc a0.Radio)], .d (.int .i64 a1), .d (.int .i64 a2)] (.tup [.agg [.d (.int .i64 r.1.Root), .d (.int .i64 r.1.Cost), .d (.int .i64 r.1.Age)], .d (.int .i64 r.2)]) [] := by
  refine pureC_m tOk (fn := Try.f105) (c := codeOf Try.f105) rfl rfl (by kernel_rfl) rfl rfl (by simp) (by simp) (ids_of rfl) ?_
  unfold spec_l82At_m at h
  conv => whnf
  obtain ⟨g1, h⟩ := gd_some h
  refine And.intro g1 ?_
  clear g1
  conv => whnf
  refine seq_in tOk ?_
  conv => whnf
  refine And.intro (fun e => ?_) (fun e => ?_)
  · replace h := ite_t h e; clear e
    conv => whnf
    obtain ⟨g2, h⟩ := gd_some h
    refine draw_ek tOk (by kernel_rfl) (fun j => match j with | 8 => some (.app [(6, .box 49 [.d (.int .i64 0), .d (.int .i64 0), .d (.int .i64 0)])] (.any) [(6, .box 49 [.d (.int .i64 (((a0.AtA.getD a2.toNat default).Vector).Root)), .d (.int .i64 (((a0.AtA.getD a2.toNat default).Vector).Cost)), .d (.int .i64 (((a0.AtA.getD a2.toNat default).Vector).Age))])]) | _ => none) 10 [] [[], [true], [], [true, true, true], [true, true, true, true], [true, true, true, true, true], [], [false, false, false, false, false, false, true], [true, true, true, true, true, true], [true, true, true, true, true, true, true, true, true]] [] [6] (by decide) (by kernel_rfl) (chain_pure rfl (chain_app rfl rfl (chain_pure rfl (chain_pure rfl (chain_pure rfl (chain_pure rfl (chain_pure rfl (chain_pure rfl (chain_pure rfl (chain_pure rfl (chain_nil))))))))))) (by kernel_rfl) ?_
    conv => whnf
    refine And.intro g2 ?_
    clear g2
    conv => whnf
    refine And.intro (by (conv => whnf); exact ⟨rfl, rfl⟩) ?_
    conv => whnf
    refine And.intro (by kernel_rfl) ?_
    conv => whnf
    obtain rfl := Option.some.inj h
    exact ⟨_, LE.refl _, And.intro rfl trivial⟩
  · replace h := ite_f h e; clear e
    conv => whnf
    refine And.intro (fun e => ?_) (fun e => ?_)
    · replace h := ite_t h e; clear e
      conv => whnf
      obtain ⟨g3, h⟩ := gd_some h
      refine draw_ek tOk (by kernel_rfl) (fun j => match j with | 8 => some (.app [(6, .box 49 [.d (.int .i64 0), .d (.int .i64 0), .d (.int .i64 0)])] (.any) [(6, .box 49 [.d (.int .i64 (((a0.AtB.getD a2.toNat default).Vector).Root)), .d (.int .i64 (((a0.AtB.getD a2.toNat default).Vector).Cost)), .d (.int .i64 (((a0.AtB.getD a2.toNat default).Vector).Age))])]) | _ => none) 10 [] [[], [true], [], [true, true, true], [true, true, true, true], [true, true, true, true, true], [], [false, false, false, false, false, false, true], [true, true, true, true, true, true], [true, true, true, true, true, true, true, true, true]] [] [6] (by decide) (by kernel_rfl) (chain_pure rfl (chain_app rfl rfl (chain_pure rfl (chain_pure rfl (chain_pure rfl (chain_pure rfl (chain_pure rfl (chain_pure rfl (chain_pure rfl (chain_pure rfl (chain_nil))))))))))) (by kernel_rfl) ?_
      conv => whnf
      refine And.intro g3 ?_
      clear g3
      conv => whnf
      refine And.intro (by (conv => whnf); exact ⟨rfl, rfl⟩) ?_
      conv => whnf
      refine And.intro (by kernel_rfl) ?_
      conv => whnf
      obtain rfl := Option.some.inj h
      exact ⟨_, LE.refl _, And.intro rfl trivial⟩
    · replace h := ite_f h e; clear e
      conv => whnf
      obtain rfl := Option.some.inj h
      exact ⟨_, LE.refl _, And.intro rfl trivial⟩

noncomputable def spec_l82Far_m (a0 : TreeVector) (a1 : Int) : Option (TreeVector) :=
(if (((a0.Root == 0) || (a0.Age == 10)) || (decide ((IntKind.i64.wrap (a0.Cost + a1)) > 1000))) = true then
 some (⟨0, 0, 0⟩ : TreeVector)
else
 some (⟨a0.Root, IntKind.i64.wrap (a0.Cost + a1), IntKind.i64.wrap (a0.Age + 1)⟩ : TreeVector))

theorem spec_l82Far_c {a0 : TreeVector} {a1 : Int} {r : TreeVector} (h : spec_l82Far_m a0 a1 = some r) : PureC Try.prog 106 [.agg [.d (.int .i64 a0.Root), .d (.int .i64 a0.Cost), .d (.int .i64 a0.Age)], .d (.int .i64 a1)] (.agg [.d (.int .i64 r.Root), .d (.int .i64 r.Cost), .d (.int .i64 r.Age)]) [] := by
  refine pureC_m tOk (fn := Try.f106) (c := codeOf Try.f106) rfl rfl (by kernel_rfl) rfl rfl (by simp) (by simp) (ids_of rfl) ?_
  unfold spec_l82Far_m at h
  conv => whnf
  refine seq_in tOk ?_
  conv => whnf
  refine And.intro (fun e => ?_) (fun e => ?_)
  · replace h := ite_t h e; clear e
    conv => whnf
    obtain rfl := Option.some.inj h
    exact ⟨_, LE.refl _, And.intro rfl trivial⟩
  · replace h := ite_f h e; clear e
    conv => whnf
    obtain rfl := Option.some.inj h
    exact ⟨_, LE.refl _, And.intro rfl trivial⟩

noncomputable def spec_l82Better_m (a0 : TreeVector) (a1 : Int) (a2 : TreeVector) (a3 : Int) : Option (Bool) :=
(if (a0.Root != a2.Root) = true then
 some (decide (a0.Root < a2.Root))
else
(if (a0.Cost != a2.Cost) = true then
 some (decide (a0.Cost < a2.Cost))
else
 some (decide (a1 < a3))))

theorem spec_l82Better_c {a0 : TreeVector} {a1 : Int} {a2 : TreeVector} {a3 : Int} {r : Bool} (h : spec_l82Better_m a0 a1 a2 a3 = some r) : PureC Try.prog 107 [.agg [.d (.int .i64 a0.Root), .d (.int .i64 a0.Cost), .d (.int .i64 a0.Age)], .d (.int .i64 a1), .agg [.d (.int .i64 a2.Root), .d (.int .i64 a2.Cost), .d (.int .i64 a2.Age)], .d (.int .i64 a3)] (.d (.bool r)) [] := by
  refine pureC_m tOk (fn := Try.f107) (c := codeOf Try.f107) rfl rfl (by kernel_rfl) rfl rfl (by simp) (by simp) (ids_of rfl) ?_
  unfold spec_l82Better_m at h
  conv => whnf
  refine seq_in tOk ?_
  conv => whnf
  refine And.intro (fun e => ?_) (fun e => ?_)
  · replace h := ite_t h e; clear e
    conv => whnf
    obtain rfl := Option.some.inj h
    exact ⟨_, LE.refl _, And.intro rfl trivial⟩
  · replace h := ite_f h e; clear e
    conv => whnf
    refine seq_in tOk ?_
    conv => whnf
    refine And.intro (fun e => ?_) (fun e => ?_)
    · replace h := ite_t h e; clear e
      conv => whnf
      obtain rfl := Option.some.inj h
      exact ⟨_, LE.refl _, And.intro rfl trivial⟩
    · replace h := ite_f h e; clear e
      conv => whnf
      obtain rfl := Option.some.inj h
      exact ⟨_, LE.refl _, And.intro rfl trivial⟩

noncomputable def spec_l82Think_m (a0 : TreeWorld) (a1 : Int) : Option (TreeMind) :=
 gd ((0 : Int) ≤ a1 ∧ a1 < ((a0.Bridges.length : Nat) : Int)) <|
 bd (spec_l82Self_m ((a0.Bridges.getD a1.toNat default).Id)) fun x2 =>
 bd (lp (σ := Int × Int × Int × Int × Int × Int) (β := (Int × Int × Int × Int)) (fun s3 =>
(if (decide (s3.2.2.2.2.2 < ((a0.Links.length : Nat) : Int))) = true then
 bd (spec_l82At_m a0 a1 s3.2.2.2.2.2) fun x7 =>
(if (decide (x7.2 < 0)) = true then
 some (.inl (s3.1, s3.2.1, s3.2.2.1, s3.2.2.2.1, s3.2.2.2.2.1, IntKind.i64.wrap (s3.2.2.2.2.2 + 1)))
else
 gd ((0 : Int) ≤ s3.2.2.2.2.2 ∧ s3.2.2.2.2.2 < ((a0.Links.length : Nat) : Int)) <|
 bd (spec_l82Far_m x7.1 ((a0.Links.getD s3.2.2.2.2.2.toNat default).Cost)) fun x9 =>
 gd ((decide (x9.Root > 0)) = true → ((0 : Int) ≤ x7.2 ∧ x7.2 < ((a0.Bridges.length : Nat) : Int))) <|
 bd (gcall ((decide (x9.Root > 0)) = true) (spec_l82Better_m x9 ((a0.Bridges.getD x7.2.toNat default).Id) (⟨s3.1, s3.2.1, s3.2.2.1⟩ : TreeVector) s3.2.2.2.2.1)) fun x11 =>
(if ((decide (x9.Root > 0)) && x11) = true then
 gd ((0 : Int) ≤ x7.2 ∧ x7.2 < ((a0.Bridges.length : Nat) : Int)) <|
 some (.inl (x9.Root, x9.Cost, x9.Age, s3.2.2.2.2.2, (a0.Bridges.getD x7.2.toNat default).Id, IntKind.i64.wrap (s3.2.2.2.2.2 + 1)))
else
 some (.inl (s3.1, s3.2.1, s3.2.2.1, s3.2.2.2.1, s3.2.2.2.2.1, IntKind.i64.wrap (s3.2.2.2.2.2 + 1)))))
else
 some (.inr (s3.1, s3.2.1, s3.2.2.1, s3.2.2.2.1)))) (x2.Vector.Root, x2.Vector.Cost, x2.Vector.Age, x2.Link, 0, 0)) fun x6 =>
 some (⟨(⟨x6.1, x6.2.1, x6.2.2.1⟩ : TreeVector), x6.2.2.2⟩ : TreeMind)

theorem spec_l82Think_c {a0 : TreeWorld} {a1 : Int} {r : TreeMind} (h : spec_l82Think_m a0 a1 = some r) : PureC Try.prog 70 [.agg [.d (slD TreeBridge.enc a0.Bridges), .d (slD TreeLink.enc a0.Links), .d (slD encInt a0.Down), .d (slD TreeSlot.enc a0.AtA), .d (slD TreeSlot.enc a0.AtB), .d (slD TreeWord.enc a0.Radio)], .d (.int .i64 a1)] (.agg [.d (.int .i64 r.Vector.Root), .d (.int .i64 r.Vector.Cost), .d (.int .i64 r.Vector.Age), .d (.int .i64 r.Link)]) [] := by
  refine pureC_m tOk (fn := Try.f70) (c := codeOf Try.f70) rfl rfl (by kernel_rfl) rfl rfl (by simp) (by simp) (ids_of rfl) ?_
  unfold spec_l82Think_m at h
  conv => whnf
  obtain ⟨g1, h⟩ := gd_some h
  refine And.intro g1 ?_
  clear g1
  conv => whnf
  obtain ⟨x2, hx2, h⟩ := bd_some h
  refine callC 0 (spec_l82Self_c hx2) (by kernel_rfl) (by kernel_rfl) ?_
  clear hx2
  conv => whnf
  refine seq_in tOk ?_
  conv => whnf
  obtain ⟨x6, hx6, h⟩ := bd_some h
  refine loop_m tOk hx6 (fun s3 => ⟨0, 68, [(1, .d (.int .i64 a1)), (2, .ref 2 0 0), (4, .ref 4 0 0), (5, .ref 5 0 0), (6, .d (.int .i64 s3.2.2.2.2.1)), (7, .d (.int .i64 s3.2.2.2.2.2))], [], [(5, .box 51 [.d (.int .i64 s3.1), .d (.int .i64 s3.2.1), .d (.int .i64 s3.2.2.1), .d (.int .i64 s3.2.2.2.1)]), (4, .box 51 [.d (.int .i64 0), .d (.int .i64 0), .d (.int .i64 0), .d (.int .i64 0)]), (2, .box 31 [.d (slD TreeBridge.enc a0.Bridges), .d (slD TreeLink.enc a0.Links), .d (slD encInt a0.Down), .d (slD TreeSlot.enc a0.AtA), .d (slD TreeSlot.enc a0.AtB), .d (slD TreeWord.enc a0.Radio)])], []⟩) ?_ ?_
  · refine le_mk ?_ ?_ ?_ <;> (repeat' first | exact trivial | exact rfl | refine And.intro ?_ ?_ | exact BLe.refl _ | exact VLe.refl _ | exact VLe.any _ | exact VLe.nil_osl rfl | exact VLe.nil_sl rfl | exact VLe.built rfl rfl | (refine VLe.osl rfl ?_; (first | rfl | (simp; done) | assumption | (simp [dsub_eq] <;> omega) | omega)) | exact VLe.rows (by first | rfl | (simp; done) | assumption | (simp [dsub_eq] <;> omega) | omega) (fun _ _ => rfl) | exact VLe.rows (by simp [dsub_eq] <;> omega) rows_take | exact VLe.rows (by simp [dsub_eq] <;> omega) rows_dt | exact VLe.rows (by simp [dsub_eq] <;> omega) rows_vt | exact VLe.rows (by simp) (fun i _ => by simp [viewRow_eq, Nat.add_comm]) | refine VLe.aggL ?_ | (refine BLe.rows rfl ?_ fun _ _ => rfl; (first | rfl | (simp; done) | assumption | (simp [dsub_eq] <;> omega) | omega)) | (refine BLe.rows rfl rfl ?_; first | exact rows_take) | refine BLe.box ?_)
  · clear hx6
    intro s3 y4 g5 hy4
    conv => whnf
    refine seq_in tOk ?_
    conv => whnf
    refine And.intro (fun e => ?_) (fun e => ?_)
    · replace g5 := ite_t g5 e; clear e
      conv => whnf
      refine seq_in tOk ?_
      conv => whnf
      obtain ⟨x7, hx7, g5⟩ := bd_some g5
      refine callC 0 (spec_l82At_c hx7) (by kernel_rfl) (by kernel_rfl) ?_
      clear hx7
      conv => whnf
      refine seq_in tOk ?_
      conv => whnf
      refine And.intro (fun e => ?_) (fun e => ?_)
      · replace g5 := ite_t g5 e; clear e
        conv => whnf
        obtain rfl := Option.some.inj g5
        refine ⟨_, rfl, le_mk ?_ ?_ ?_⟩ <;> (repeat' first | exact trivial | exact rfl | refine And.intro ?_ ?_ | exact BLe.refl _ | exact VLe.refl _ | exact VLe.any _ | exact VLe.nil_osl rfl | exact VLe.nil_sl rfl | exact VLe.built rfl rfl | (refine VLe.osl rfl ?_; (first | rfl | (simp; done) | assumption | (simp [dsub_eq] <;> omega) | omega)) | exact VLe.rows (by first | rfl | (simp; done) | assumption | (simp [dsub_eq] <;> omega) | omega) (fun _ _ => rfl) | exact VLe.rows (by simp [dsub_eq] <;> omega) rows_take | exact VLe.rows (by simp [dsub_eq] <;> omega) rows_dt | exact VLe.rows (by simp [dsub_eq] <;> omega) rows_vt | exact VLe.rows (by simp) (fun i _ => by simp [viewRow_eq, Nat.add_comm]) | refine VLe.aggL ?_ | (refine BLe.rows rfl ?_ fun _ _ => rfl; (first | rfl | (simp; done) | assumption | (simp [dsub_eq] <;> omega) | omega)) | (refine BLe.rows rfl rfl ?_; first | exact rows_take) | refine BLe.box ?_)
      · replace g5 := ite_f g5 e; clear e
        conv => whnf
        obtain ⟨g8, g5⟩ := gd_some g5
        obtain ⟨x9, hx9, g5⟩ := bd_some g5
        refine draw_k tOk (by kernel_rfl) (fun j => match j with | 7 => some (.pure 0 (.agg [.d (.int .i64 x9.Root), .d (.int .i64 x9.Cost), .d (.int .i64 x9.Age)]) []) | _ => none) 9 [] [[], [], [false, true], [], [false, true, true, true], [false, true, true, true, true], [false, true, true, true, true, true], [true, true, true, true, true, true, true], []] [[true, true, true, true, true, true, true, true, true]] (by decide) (by kernel_rfl) (by kernel_rfl) ?_
        conv => whnf
        refine And.intro g8 ?_
        clear g8
        conv => whnf
        refine And.intro (callD_any (spec_l82Far_c hx9) (by kernel_rfl)) ?_
        conv => whnf
        refine And.intro (by kernel_rfl) ?_
        conv => whnf
        obtain ⟨g10, g5⟩ := gd_some g5
        obtain ⟨x11, hx11, g5⟩ := bd_some g5
        refine draw_k tOk (by kernel_rfl) (fun j => match j with | 14 => some (.pure 0 (.d (.bool x11)) []) | _ => none) 16 [] [[], [true], [true, true], [true, true, true], [true, true, true, true], [true, true, true, true], [true, true, true, true, false, true], [true, true, true, true], [true, true, true, true, false, true, true, true], [true, true, true, true, false, true, true, true, true], [true, true, true, true, false, true, true, true, true, true], [true, true, true, true], [true, true, true, true, false, false, false, false, false, false, false, true], [true, true, true, true], [true, true, true, true, true, true, true, true, true, true, true, true, true, true], [true, true, true, true, true, true, true, true, true, true, true, true, true, true, true]] [] (by decide) (by kernel_rfl) (by kernel_rfl) ?_
        conv => whnf
        refine And.intro g10 ?_
        clear g10
        conv => whnf
        refine And.intro (callDG_if rfl rfl rfl rfl (by intro c0; exact spec_l82Better_c (gcall_some hx11 c0))) ?_
        conv => whnf
        refine And.intro (by kernel_rfl) ?_
        conv => whnf
        refine And.intro (fun e => ?_) (fun e => ?_)
        · replace g5 := ite_t g5 e; clear e
          conv => whnf
          obtain ⟨g12, g5⟩ := gd_some g5
          refine And.intro g12 ?_
          clear g12
          conv => whnf
          obtain rfl := Option.some.inj g5
          refine ⟨_, rfl, le_mk ?_ ?_ ?_⟩ <;> (repeat' first | exact trivial | exact rfl | refine And.intro ?_ ?_ | exact BLe.refl _ | exact VLe.refl _ | exact VLe.any _ | exact VLe.nil_osl rfl | exact VLe.nil_sl rfl | exact VLe.built rfl rfl | (refine VLe.osl rfl ?_; (first | rfl | (simp; done) | assumption | (simp [dsub_eq] <;> omega) | omega)) | exact VLe.rows (by first | rfl | (simp; done) | assumption | (simp [dsub_eq] <;> omega) | omega) (fun _ _ => rfl) | exact VLe.rows (by simp [dsub_eq] <;> omega) rows_take | exact VLe.rows (by simp [dsub_eq] <;> omega) rows_dt | exact VLe.rows (by simp [dsub_eq] <;> omega) rows_vt | exact VLe.rows (by simp) (fun i _ => by simp [viewRow_eq, Nat.add_comm]) | refine VLe.aggL ?_ | (refine BLe.rows rfl ?_ fun _ _ => rfl; (first | rfl | (simp; done) | assumption | (simp [dsub_eq] <;> omega) | omega)) | (refine BLe.rows rfl rfl ?_; first | exact rows_take) | refine BLe.box ?_)
        · replace g5 := ite_f g5 e; clear e
          conv => whnf
          obtain rfl := Option.some.inj g5
          refine ⟨_, rfl, le_mk ?_ ?_ ?_⟩ <;> (repeat' first | exact trivial | exact rfl | refine And.intro ?_ ?_ | exact BLe.refl _ | exact VLe.refl _ | exact VLe.any _ | exact VLe.nil_osl rfl | exact VLe.nil_sl rfl | exact VLe.built rfl rfl | (refine VLe.osl rfl ?_; (first | rfl | (simp; done) | assumption | (simp [dsub_eq] <;> omega) | omega)) | exact VLe.rows (by first | rfl | (simp; done) | assumption | (simp [dsub_eq] <;> omega) | omega) (fun _ _ => rfl) | exact VLe.rows (by simp [dsub_eq] <;> omega) rows_take | exact VLe.rows (by simp [dsub_eq] <;> omega) rows_dt | exact VLe.rows (by simp [dsub_eq] <;> omega) rows_vt | exact VLe.rows (by simp) (fun i _ => by simp [viewRow_eq, Nat.add_comm]) | refine VLe.aggL ?_ | (refine BLe.rows rfl ?_ fun _ _ => rfl; (first | rfl | (simp; done) | assumption | (simp [dsub_eq] <;> omega) | omega)) | (refine BLe.rows rfl rfl ?_; first | exact rows_take) | refine BLe.box ?_)
    · replace g5 := ite_f g5 e; clear e
      conv => whnf
      obtain rfl := Option.some.inj g5
      obtain rfl := hy4 _ rfl
      obtain rfl := Option.some.inj h
      exact ⟨_, LE.refl _, And.intro rfl trivial⟩

noncomputable def spec_TreeThink_m (a0 : TreeWorld) (a1 : Int) : Option (TreeMind) :=
 bd (spec_TreeWorldOk_m a0) fun x1 =>
 bd (gcall ((!x1) = false) (spec_l81In_m a1 0 (IntKind.i64.wrap (((a0.Bridges.length : Nat) : Int) - 1)))) fun x2 =>
 gd (((!x1) || (!x2)) = false → ((0 : Int) ≤ a1 ∧ a1 < ((a0.Bridges.length : Nat) : Int))) <|
(if (((!x1) || (!x2)) || (!((a0.Bridges.getD a1.toNat default).Up))) = true then
 some (⟨(⟨0, 0, 0⟩ : TreeVector), 0⟩ : TreeMind)
else
 bd (spec_l82Think_m a0 a1) fun x4 =>
 some x4)

theorem spec_TreeThink_c {a0 : TreeWorld} {a1 : Int} {r : TreeMind} (h : spec_TreeThink_m a0 a1 = some r) : PureC Try.prog 20 [.agg [.d (slD TreeBridge.enc a0.Bridges), .d (slD TreeLink.enc a0.Links), .d (slD encInt a0.Down), .d (slD TreeSlot.enc a0.AtA), .d (slD TreeSlot.enc a0.AtB), .d (slD TreeWord.enc a0.Radio)], .d (.int .i64 a1)] (.agg [.d (.int .i64 r.Vector.Root), .d (.int .i64 r.Vector.Cost), .d (.int .i64 r.Vector.Age), .d (.int .i64 r.Link)]) [] := by
  refine pureC_m tOk (fn := Try.f20) (c := codeOf Try.f20) rfl rfl (by kernel_rfl) rfl rfl (by simp) (by simp) (ids_of rfl) ?_
  unfold spec_TreeThink_m at h
  conv => whnf
  refine seq_in tOk ?_
  conv => whnf
  obtain ⟨x1, hx1, h⟩ := bd_some h
  refine callC 0 (spec_TreeWorldOk_c hx1) (by kernel_rfl) (by kernel_rfl) ?_
  clear hx1
  conv => whnf
  obtain ⟨x2, hx2, h⟩ := bd_some h
  refine callG_m rfl rfl rfl rfl rfl rfl (by intro c0; exact spec_l81In_c (gcall_some hx2 c0)) ?_
  conv => whnf
  obtain ⟨g3, h⟩ := gd_some h
  refine And.intro g3 ?_
  clear g3
  conv => whnf
  refine And.intro (fun e => ?_) (fun e => ?_)
  · replace h := ite_t h e; clear e
    conv => whnf
    obtain rfl := Option.some.inj h
    exact ⟨_, LE.refl _, And.intro rfl trivial⟩
  · replace h := ite_f h e; clear e
    conv => whnf
    obtain ⟨x4, hx4, h⟩ := bd_some h
    refine callC 0 (spec_l82Think_c hx4) (by kernel_rfl) (by kernel_rfl) ?_
    clear hx4
    conv => whnf
    obtain rfl := Option.some.inj h
    exact ⟨_, LE.refl _, And.intro rfl trivial⟩

end Go.Proofs.Ytbolhcpkpncmfaa
