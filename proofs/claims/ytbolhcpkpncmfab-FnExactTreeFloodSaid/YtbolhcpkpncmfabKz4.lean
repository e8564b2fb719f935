/-
  What some of the program's functions compute: their models, and that the functions compute these; no condition.
-/
import Derived.Test.YtbolhcpkpncmfabTyz
import Derived.Test.YtbolhcpkpncmfabTbz
import Derived.Test.YtbolhcpkpncmfabKz3
set_option linter.all false
namespace Go.Proofs.Ytbolhcpkpncmfab
open Go Go.Ab
set_option maxRecDepth 100000
set_option maxHeartbeats 4000000
noncomputable def laws_eqTreeSlot_m (a0 : TreeSlot) (a1 : TreeSlot) : Option (Bool) :=
 bd (laws_eqTreeVector_m a0.Vector a1.Vector) fun x1 =>
(if (!x1) = true then
 some false
else
(if (a0.Left != a1.Left) = true then
 some false
else
 some true))

theorem laws_eqTreeSlot_c {a0 : TreeSlot} {a1 : TreeSlot} {r : Bool} (h : laws_eqTreeSlot_m a0 a1 = some r) : PureC Try.prog 108 [.agg [.d (.int .i64 a0.Vector.Root), .d (.int .i64 a0.Vector.Cost), .d (.int .i64 a0.Vector.Age), .d (.int .i64 a0.Left)], .agg [.d (.int .i64 a1.Vector.Root), .d (.int .i64 a1.Vector.Cost), .d (.int .i64 a1.Vector.Age), .d (.int .i64 a1.Left)]] (.d (.bool r)) [] := by
  refine pureC_m tOk (fn := Try.f108) (c := codeOf Try.f108) rfl rfl (by kernel_rfl) rfl rfl (by simp) (by simp) (ids_of rfl) ?_
  unfold laws_eqTreeSlot_m at h
  conv => whnf
  refine seq_in tOk ?_
  conv => whnf
  obtain ⟨x1, hx1, h⟩ := bd_some h
  refine callC 0 (laws_eqTreeVector_c hx1) (by kernel_rfl) (by kernel_rfl) ?_
  clear hx1
  conv => whnf
  refine And.intro (fun e => ?_) (fun e => ?_)
  · replace h := ite_t h e; clear e
    conv => whnf
    obtain rfl := Option.some.inj h
    exact ⟨_, LE.refl _, And.intro rfl trivial⟩
  · replace h := ite_f h e; clear e
    conv => whnf
    refine seq_in tOk ?_
    conv => whnf
    refine And.intro (fun e => ?_) (fun e => ?_)
    · replace h := ite_t h e; clear e
      conv => whnf
      obtain rfl := Option.some.inj h
      exact ⟨_, LE.refl _, And.intro rfl trivial⟩
    · replace h := ite_f h e; clear e
      conv => whnf
      obtain rfl := Option.some.inj h
      exact ⟨_, LE.refl _, And.intro rfl trivial⟩

noncomputable def laws_eqTreeSlotS_m (a0 : (List TreeSlot)) (a1 : (List TreeSlot)) : Option (Bool) :=
(if (((a0.length : Nat) : Int) != ((a1.length : Nat) : Int)) = true then
 some false
else
 bd (lp (σ := Int) (β := (Unit ⊕ Unit)) (fun s1 =>
(if (decide (s1 < ((a0.length : Nat) : Int))) = true then
 gd ((0 : Int) ≤ s1 ∧ s1 < ((a0.length : Nat) : Int)) <|
 gd ((0 : Int) ≤ s1 ∧ s1 < ((a1.length : Nat) : Int)) <|
 bd (laws_eqTreeSlot_m (⟨((a0.getD s1.toNat default).Vector), (a0.getD s1.toNat default).Left⟩ : TreeSlot) (⟨((a1.getD s1.toNat default).Vector), (a1.getD s1.toNat default).Left⟩ : TreeSlot)) fun x7 =>
(if (!x7) = true then
 some (.inr (.inl ()))
else
 some (.inl (IntKind.i64.wrap (s1 + 1))))
else
 some (.inr (.inr ())))) 0) fun x4 =>
(match x4 with
| .inl d8 =>
 some false
| .inr d9 =>
 some true))

theorem laws_eqTreeSlotS_c {a0 : (List TreeSlot)} {a1 : (List TreeSlot)} {r : Bool} (h : laws_eqTreeSlotS_m a0 a1 = some r) : PureC Try.prog 60 [.d (slD TreeSlot.enc a0), .d (slD TreeSlot.enc a1)] (.d (.bool r)) [] := by
  refine pureC_m tOk (fn := Try.f60) (c := codeOf Try.f60) rfl rfl (by kernel_rfl) rfl rfl (by simp) (by simp) (ids_of rfl) ?_
  unfold laws_eqTreeSlotS_m at h
  conv => whnf
  refine seq_in tOk ?_
  conv => whnf
  refine And.intro (fun e => ?_) (fun e => ?_)
  · replace h := ite_t h e; clear e
    conv => whnf
    obtain rfl := Option.some.inj h
    exact ⟨_, LE.refl _, And.intro rfl trivial⟩
  · replace h := ite_f h e; clear e
    conv => whnf
    refine seq_in tOk ?_
    conv => whnf
    obtain ⟨x4, hx4, h⟩ := bd_some h
    refine loop_m tOk hx4 (fun s1 => ⟨0, 27, [(0, .d (slD TreeSlot.enc a0)), (1, .d (slD TreeSlot.enc a1)), (5, .d (.int .i64 s1))], [], [], []⟩) ?_ ?_
    · refine le_mk ?_ ?_ ?_ <;> (repeat' first | ((conv => whnf); first | exact trivial | refine And.intro ?_ ?_ | exact BLe.refl _ | exact VLe.refl _) | exact trivial | exact rfl | refine And.intro ?_ ?_ | exact BLe.refl _ | exact VLe.refl _ | exact VLe.any _ | exact VLe.nil_osl rfl | exact VLe.nil_sl rfl | exact VLe.built rfl rfl | (refine VLe.osl rfl ?_; (first | rfl | (simp; done) | assumption | (simp [dsub_eq] <;> omega) | omega)) | exact VLe.rows (by first | rfl | (simp; done) | assumption | (simp [dsub_eq] <;> omega) | omega) (fun _ _ => rfl) | exact VLe.rows (by simp [dsub_eq] <;> omega) rows_take | exact VLe.rows (by simp [dsub_eq] <;> omega) rows_dt | exact VLe.rows (by simp [dsub_eq] <;> omega) rows_vt | exact VLe.rows (by simp) (fun i _ => by simp [viewRow_eq, Nat.add_comm]) | refine VLe.aggL ?_ | (refine BLe.rows rfl ?_ fun _ _ => rfl; (first | rfl | (simp; done) | assumption | (simp [dsub_eq] <;> omega) | omega)) | (refine BLe.rows rfl rfl ?_; first | exact rows_take) | refine BLe.box ?_)
    · clear hx4
      intro s1 y2 g3 hy2
      conv => whnf
      refine seq_in tOk ?_
      conv => whnf
      refine And.intro (fun e => ?_) (fun e => ?_)
      · replace g3 := ite_t g3 e; clear e
        conv => whnf
        refine seq_in tOk ?_
        conv => whnf
        obtain ⟨g5, g3⟩ := gd_some g3
        obtain ⟨g6, g3⟩ := gd_some g3
        obtain ⟨x7, hx7, g3⟩ := bd_some g3
        refine draw_k tOk (by kernel_rfl) (fun j => match j with | 8 => some (.pure 0 (.d (.bool x7)) []) | _ => none) 10 [] [[], [], [true, true], [true, true, true], [], [], [false, false, false, false, true, true], [false, false, false, false, true, true, true], [true, true, true, true, true, true, true, true], [true, true, true, true, true, true, true, true, true]] [] (by decide) (by kernel_rfl) (by kernel_rfl) ?_
        conv => whnf
        refine And.intro g5 ?_
        clear g5
        conv => whnf
        refine And.intro g6 ?_
        clear g6
        conv => whnf
        refine And.intro (callD_any (laws_eqTreeSlot_c hx7) (by kernel_rfl)) ?_
        conv => whnf
        refine And.intro (by kernel_rfl) ?_
        conv => whnf
        refine And.intro (fun e => ?_) (fun e => ?_)
        · replace g3 := ite_t g3 e; clear e
          conv => whnf
          obtain rfl := Option.some.inj g3
          obtain rfl := hy2 _ rfl
          obtain rfl := Option.some.inj h
          exact ⟨_, LE.refl _, And.intro rfl trivial⟩
        · replace g3 := ite_f g3 e; clear e
          conv => whnf
          obtain rfl := Option.some.inj g3
          refine ⟨_, rfl, le_mk ?_ ?_ ?_⟩ <;> (repeat' first | ((conv => whnf); first | exact trivial | refine And.intro ?_ ?_ | exact BLe.refl _ | exact VLe.refl _) | exact trivial | exact rfl | refine And.intro ?_ ?_ | exact BLe.refl _ | exact VLe.refl _ | exact VLe.any _ | exact VLe.nil_osl rfl | exact VLe.nil_sl rfl | exact VLe.built rfl rfl | (refine VLe.osl rfl ?_; (first | rfl | (simp; done) | assumption | (simp [dsub_eq] <;> omega) | omega)) | exact VLe.rows (by first | rfl | (simp; done) | assumption | (simp [dsub_eq] <;> omega) | omega) (fun _ _ => rfl) | exact VLe.rows (by simp [dsub_eq] <;> omega) rows_take | exact VLe.rows (by simp [dsub_eq] <;> omega) rows_dt | exact VLe.rows (by simp [dsub_eq] <;> omega) rows_vt | exact VLe.rows (by simp) (fun i _ => by simp [viewRow_eq, Nat.add_comm]) | refine VLe.aggL ?_ | (refine BLe.rows rfl ?_ fun _ _ => rfl; (first | rfl | (simp; done) | assumption | (simp [dsub_eq] <;> omega) | omega)) | (refine BLe.rows rfl rfl ?_; first | exact rows_take) | refine BLe.box ?_)
      · replace g3 := ite_f g3 e; clear e
        conv => whnf
        obtain rfl := Option.some.inj g3
        obtain rfl := hy2 _ rfl
        obtain rfl := Option.some.inj h
        exact ⟨_, LE.refl _, And.intro rfl trivial⟩

noncomputable def laws_eqTreeWord_m (a0 : TreeWord) (a1 : TreeWord) : Option (Bool) :=
(if (a0.Link != a1.Link) = true then
 some false
else
(if (a0.End != a1.End) = true then
 some false
else
 bd (laws_eqTreeVector_m a0.Vector a1.Vector) fun x1 =>
(if (!x1) = true then
 some false
else
 some true)))

theorem laws_eqTreeWord_c {a0 : TreeWord} {a1 : TreeWord} {r : Bool} (h : laws_eqTreeWord_m a0 a1 = some r) : PureC Try.prog 109 [.agg [.d (.int .i64 a0.Link), .d (.int .i64 a0.End), .d (.int .i64 a0.Vector.Root), .d (.int .i64 a0.Vector.Cost), .d (.int .i64 a0.Vector.Age)], .agg [.d (.int .i64 a1.Link), .d (.int .i64 a1.End), .d (.int .i64 a1.Vector.Root), .d (.int .i64 a1.Vector.Cost), .d (.int .i64 a1.Vector.Age)]] (.d (.bool r)) [] := by
  refine pureC_m tOk (fn := Try.f109) (c := codeOf Try.f109) rfl rfl (by kernel_rfl) rfl rfl (by simp) (by simp) (ids_of rfl) ?_
  unfold laws_eqTreeWord_m at h
  conv => whnf
  refine seq_in tOk ?_
  conv => whnf
  refine And.intro (fun e => ?_) (fun e => ?_)
  · replace h := ite_t h e; clear e
    conv => whnf
    obtain rfl := Option.some.inj h
    exact ⟨_, LE.refl _, And.intro rfl trivial⟩
  · replace h := ite_f h e; clear e
    conv => whnf
    refine seq_in tOk ?_
    conv => whnf
    refine And.intro (fun e => ?_) (fun e => ?_)
    · replace h := ite_t h e; clear e
      conv => whnf
      obtain rfl := Option.some.inj h
      exact ⟨_, LE.refl _, And.intro rfl trivial⟩
    · replace h := ite_f h e; clear e
      conv => whnf
      refine seq_in tOk ?_
      conv => whnf
      obtain ⟨x1, hx1, h⟩ := bd_some h
      refine callC 0 (laws_eqTreeVector_c hx1) (by kernel_rfl) (by kernel_rfl) ?_
      clear hx1
      conv => whnf
      refine And.intro (fun e => ?_) (fun e => ?_)
      · replace h := ite_t h e; clear e
        conv => whnf
        obtain rfl := Option.some.inj h
        exact ⟨_, LE.refl _, And.intro rfl trivial⟩
      · replace h := ite_f h e; clear e
        conv => whnf
        obtain rfl := Option.some.inj h
        exact ⟨_, LE.refl _, And.intro rfl trivial⟩

noncomputable def laws_eqTreeWordS_m (a0 : (List TreeWord)) (a1 : (List TreeWord)) : Option (Bool) :=
(if (((a0.length : Nat) : Int) != ((a1.length : Nat) : Int)) = true then
 some false
else
 bd (lp (σ := Int) (β := (Unit ⊕ Unit)) (fun s1 =>
(if (decide (s1 < ((a0.length : Nat) : Int))) = true then
 gd ((0 : Int) ≤ s1 ∧ s1 < ((a0.length : Nat) : Int)) <|
 gd ((0 : Int) ≤ s1 ∧ s1 < ((a1.length : Nat) : Int)) <|
 bd (laws_eqTreeWord_m ({ (a0.getD s1.toNat default) with Vector := ((a0.getD s1.toNat default).Vector) }) ({ (a1.getD s1.toNat default) with Vector := ((a1.getD s1.toNat default).Vector) })) fun x7 =>
(if (!x7) = true then
 some (.inr (.inl ()))
else
 some (.inl (IntKind.i64.wrap (s1 + 1))))
else
 some (.inr (.inr ())))) 0) fun x4 =>
(match x4 with
| .inl d8 =>
 some false
| .inr d9 =>
 some true))

theorem laws_eqTreeWordS_c {a0 : (List TreeWord)} {a1 : (List TreeWord)} {r : Bool} (h : laws_eqTreeWordS_m a0 a1 = some r) : PureC Try.prog 61 [.d (slD TreeWord.enc a0), .d (slD TreeWord.enc a1)] (.d (.bool r)) [] := by
  refine pureC_m tOk (fn := Try.f61) (c := codeOf Try.f61) rfl rfl (by kernel_rfl) rfl rfl (by simp) (by simp) (ids_of rfl) ?_
  unfold laws_eqTreeWordS_m at h
  conv => whnf
  refine seq_in tOk ?_
  conv => whnf
  refine And.intro (fun e => ?_) (fun e => ?_)
  · replace h := ite_t h e; clear e
    conv => whnf
    obtain rfl := Option.some.inj h
    exact ⟨_, LE.refl _, And.intro rfl trivial⟩
  · replace h := ite_f h e; clear e
    conv => whnf
    refine seq_in tOk ?_
    conv => whnf
    obtain ⟨x4, hx4, h⟩ := bd_some h
    refine loop_m tOk hx4 (fun s1 => ⟨0, 27, [(0, .d (slD TreeWord.enc a0)), (1, .d (slD TreeWord.enc a1)), (5, .d (.int .i64 s1))], [], [], []⟩) ?_ ?_
    · refine le_mk ?_ ?_ ?_ <;> (repeat' first | ((conv => whnf); first | exact trivial | refine And.intro ?_ ?_ | exact BLe.refl _ | exact VLe.refl _) | exact trivial | exact rfl | refine And.intro ?_ ?_ | exact BLe.refl _ | exact VLe.refl _ | exact VLe.any _ | exact VLe.nil_osl rfl | exact VLe.nil_sl rfl | exact VLe.built rfl rfl | (refine VLe.osl rfl ?_; (first | rfl | (simp; done) | assumption | (simp [dsub_eq] <;> omega) | omega)) | exact VLe.rows (by first | rfl | (simp; done) | assumption | (simp [dsub_eq] <;> omega) | omega) (fun _ _ => rfl) | exact VLe.rows (by simp [dsub_eq] <;> omega) rows_take | exact VLe.rows (by simp [dsub_eq] <;> omega) rows_dt | exact VLe.rows (by simp [dsub_eq] <;> omega) rows_vt | exact VLe.rows (by simp) (fun i _ => by simp [viewRow_eq, Nat.add_comm]) | refine VLe.aggL ?_ | (refine BLe.rows rfl ?_ fun _ _ => rfl; (first | rfl | (simp; done) | assumption | (simp [dsub_eq] <;> omega) | omega)) | (refine BLe.rows rfl rfl ?_; first | exact rows_take) | refine BLe.box ?_)
    · clear hx4
      intro s1 y2 g3 hy2
      conv => whnf
      refine seq_in tOk ?_
      conv => whnf
      refine And.intro (fun e => ?_) (fun e => ?_)
      · replace g3 := ite_t g3 e; clear e
        conv => whnf
        refine seq_in tOk ?_
        conv => whnf
        obtain ⟨g5, g3⟩ := gd_some g3
        obtain ⟨g6, g3⟩ := gd_some g3
        obtain ⟨x7, hx7, g3⟩ := bd_some g3
        refine draw_k tOk (by kernel_rfl) (fun j => match j with | 8 => some (.pure 0 (.d (.bool x7)) []) | _ => none) 10 [] [[], [], [true, true], [true, true, true], [], [], [false, false, false, false, true, true], [false, false, false, false, true, true, true], [true, true, true, true, true, true, true, true], [true, true, true, true, true, true, true, true, true]] [] (by decide) (by kernel_rfl) (by kernel_rfl) ?_
        conv => whnf
        refine And.intro g5 ?_
        clear g5
        conv => whnf
        refine And.intro g6 ?_
        clear g6
        conv => whnf
        refine And.intro (callD_any (laws_eqTreeWord_c hx7) (by kernel_rfl)) ?_
        conv => whnf
        refine And.intro (by kernel_rfl) ?_
        conv => whnf
        refine And.intro (fun e => ?_) (fun e => ?_)
        · replace g3 := ite_t g3 e; clear e
          conv => whnf
          obtain rfl := Option.some.inj g3
          obtain rfl := hy2 _ rfl
          obtain rfl := Option.some.inj h
          exact ⟨_, LE.refl _, And.intro rfl trivial⟩
        · replace g3 := ite_f g3 e; clear e
          conv => whnf
          obtain rfl := Option.some.inj g3
          refine ⟨_, rfl, le_mk ?_ ?_ ?_⟩ <;> (repeat' first | ((conv => whnf); first | exact trivial | refine And.intro ?_ ?_ | exact BLe.refl _ | exact VLe.refl _) | exact trivial | exact rfl | refine And.intro ?_ ?_ | exact BLe.refl _ | exact VLe.refl _ | exact VLe.any _ | exact VLe.nil_osl rfl | exact VLe.nil_sl rfl | exact VLe.built rfl rfl | (refine VLe.osl rfl ?_; (first | rfl | (simp; done) | assumption | (simp [dsub_eq] <;> omega) | omega)) | exact VLe.rows (by first | rfl | (simp; done) | assumption | (simp [dsub_eq] <;> omega) | omega) (fun _ _ => rfl) | exact VLe.rows (by simp [dsub_eq] <;> omega) rows_take | exact VLe.rows (by simp [dsub_eq] <;> omega) rows_dt | exact VLe.rows (by simp [dsub_eq] <;> omega) rows_vt | exact VLe.rows (by simp) (fun i _ => by simp [viewRow_eq, Nat.add_comm]) | refine VLe.aggL ?_ | (refine BLe.rows rfl ?_ fun _ _ => rfl; (first | rfl | (simp; done) | assumption | (simp [dsub_eq] <;> omega) | omega)) | (refine BLe.rows rfl rfl ?_; first | exact rows_take) | refine BLe.box ?_)
      · replace g3 := ite_f g3 e; clear e
        conv => whnf
        obtain rfl := Option.some.inj g3
        obtain rfl := hy2 _ rfl
        obtain rfl := Option.some.inj h
        exact ⟨_, LE.refl _, And.intro rfl trivial⟩

noncomputable def laws_eqTreeWorld_m (a0 : TreeWorld) (a1 : TreeWorld) : Option (Bool) :=
 bd (laws_eqTreeBridgeS_m a0.Bridges a1.Bridges) fun x1 =>
(if (!x1) = true then
 some false
else
 bd (laws_eqTreeLinkS_m a0.Links a1.Links) fun x2 =>
(if (!x2) = true then
 some false
else
 bd (laws_eqIntS_m a0.Down a1.Down) fun x3 =>
(if (!x3) = true then
 some false
else
 bd (laws_eqTreeSlotS_m a0.AtA a1.AtA) fun x4 =>
(if (!x4) = true then
 some false
else
 bd (laws_eqTreeSlotS_m a0.AtB a1.AtB) fun x5 =>
(if (!x5) = true then
 some false
else
 bd (laws_eqTreeWordS_m a0.Radio a1.Radio) fun x6 =>
(if (!x6) = true then
 some false
else
 some true))))))

theorem laws_eqTreeWorld_c {a0 : TreeWorld} {a1 : TreeWorld} {r : Bool} (h : laws_eqTreeWorld_m a0 a1 = some r) : PureC Try.prog 14 [.agg [.d (slD TreeBridge.enc a0.Bridges), .d (slD TreeLink.enc a0.Links), .d (slD encInt a0.Down), .d (slD TreeSlot.enc a0.AtA), .d (slD TreeSlot.enc a0.AtB), .d (slD TreeWord.enc a0.Radio)], .agg [.d (slD TreeBridge.enc a1.Bridges), .d (slD TreeLink.enc a1.Links), .d (slD encInt a1.Down), .d (slD TreeSlot.enc a1.AtA), .d (slD TreeSlot.enc a1.AtB), .d (slD TreeWord.enc a1.Radio)]] (.d (.bool r)) [] := by
  refine pureC_m tOk (fn := Try.f14) (c := codeOf Try.f14) rfl rfl (by kernel_rfl) rfl rfl (by simp) (by simp) (ids_of rfl) ?_
  unfold laws_eqTreeWorld_m at h
  conv => whnf
  refine seq_in tOk ?_
  conv => whnf
  obtain ⟨x1, hx1, h⟩ := bd_some h
  refine callC 0 (laws_eqTreeBridgeS_c hx1) (by kernel_rfl) (by kernel_rfl) ?_
  clear hx1
  conv => whnf
  refine And.intro (fun e => ?_) (fun e => ?_)
  · replace h := ite_t h e; clear e
    conv => whnf
    obtain rfl := Option.some.inj h
    exact ⟨_, LE.refl _, And.intro rfl trivial⟩
  · replace h := ite_f h e; clear e
    conv => whnf
    refine seq_in tOk ?_
    conv => whnf
    obtain ⟨x2, hx2, h⟩ := bd_some h
    refine callC 0 (laws_eqTreeLinkS_c hx2) (by kernel_rfl) (by kernel_rfl) ?_
    clear hx2
    conv => whnf
    refine And.intro (fun e => ?_) (fun e => ?_)
    · replace h := ite_t h e; clear e
      conv => whnf
      obtain rfl := Option.some.inj h
      exact ⟨_, LE.refl _, And.intro rfl trivial⟩
    · replace h := ite_f h e; clear e
      conv => whnf
      refine seq_in tOk ?_
      conv => whnf
      obtain ⟨x3, hx3, h⟩ := bd_some h
      refine callC 0 (laws_eqIntS_c hx3) (by kernel_rfl) (by kernel_rfl) ?_
      clear hx3
      conv => whnf
      refine And.intro (fun e => ?_) (fun e => ?_)
      · replace h := ite_t h e; clear e
        conv => whnf
        obtain rfl := Option.some.inj h
        exact ⟨_, LE.refl _, And.intro rfl trivial⟩
      · replace h := ite_f h e; clear e
        conv => whnf
        refine seq_in tOk ?_
        conv => whnf
        obtain ⟨x4, hx4, h⟩ := bd_some h
        refine callC 0 (laws_eqTreeSlotS_c hx4) (by kernel_rfl) (by kernel_rfl) ?_
        clear hx4
        conv => whnf
        refine And.intro (fun e => ?_) (fun e => ?_)
        · replace h := ite_t h e; clear e
          conv => whnf
          obtain rfl := Option.some.inj h
          exact ⟨_, LE.refl _, And.intro rfl trivial⟩
        · replace h := ite_f h e; clear e
          conv => whnf
          refine seq_in tOk ?_
          conv => whnf
          obtain ⟨x5, hx5, h⟩ := bd_some h
          refine callC 0 (laws_eqTreeSlotS_c hx5) (by kernel_rfl) (by kernel_rfl) ?_
          clear hx5
          conv => whnf
          refine And.intro (fun e => ?_) (fun e => ?_)
          · replace h := ite_t h e; clear e
            conv => whnf
            obtain rfl := Option.some.inj h
            exact ⟨_, LE.refl _, And.intro rfl trivial⟩
          · replace h := ite_f h e; clear e
            conv => whnf
            refine seq_in tOk ?_
            conv => whnf
            obtain ⟨x6, hx6, h⟩ := bd_some h
            refine callC 0 (laws_eqTreeWordS_c hx6) (by kernel_rfl) (by kernel_rfl) ?_
            clear hx6
            conv => whnf
            refine And.intro (fun e => ?_) (fun e => ?_)
            · replace h := ite_t h e; clear e
              conv => whnf
              obtain rfl := Option.some.inj h
              exact ⟨_, LE.refl _, And.intro rfl trivial⟩
            · replace h := ite_f h e; clear e
              conv => whnf
              obtain rfl := Option.some.inj h
              exact ⟨_, LE.refl _, And.intro rfl trivial⟩

noncomputable def laws_markTreeBridgeS_m (a0 : (List TreeBridge)) (a1 : Int) : Option (Int × (List TreeBridge)) :=
 bd (lp (σ := List TreeBridge × Int × Int) (β := (Int × (List TreeBridge) × Nat)) (fun s1 =>
(if (decide (s1.2.2 < ((s1.1.length : Nat) : Int))) = true then
 gd ((0 : Int) ≤ s1.2.2 ∧ s1.2.2 < ((s1.1.length : Nat) : Int)) <|
 bd (some (s1.1.set s1.2.2.toNat (⟨s1.2.1, (s1.1.getD s1.2.2.toNat default).Up, (⟨(((s1.1.getD s1.2.2.toNat default).Mind).Vector), ((s1.1.getD s1.2.2.toNat default).Mind).Link⟩ : TreeMind)⟩ : TreeBridge))) fun x6 =>
 gd ((3 : Int) ≠ 0) <|
 gd ((0 : Int) ≤ s1.2.2 ∧ s1.2.2 < ((s1.1.length : Nat) : Int)) <|
 bd (some (x6.set s1.2.2.toNat (⟨(x6.getD s1.2.2.toNat default).Id, (((IntKind.i64.wrap (s1.2.1 + 1) : Int).tmod 3) == 0), (⟨(((x6.getD s1.2.2.toNat default).Mind).Vector), ((x6.getD s1.2.2.toNat default).Mind).Link⟩ : TreeMind)⟩ : TreeBridge))) fun x9 =>
 gd ((0 : Int) ≤ s1.2.2 ∧ s1.2.2 < ((s1.1.length : Nat) : Int)) <|
 bd (some (x9.set s1.2.2.toNat ({ (x9.getD s1.2.2.toNat default) with Mind := (⟨{ (((x9.getD s1.2.2.toNat default).Mind).Vector) with Root := IntKind.i64.wrap ((IntKind.i64.wrap (s1.2.1 + 1)) + 1) }, ((x9.getD s1.2.2.toNat default).Mind).Link⟩ : TreeMind) }))) fun x11 =>
 gd ((0 : Int) ≤ s1.2.2 ∧ s1.2.2 < ((s1.1.length : Nat) : Int)) <|
 bd (some (x11.set s1.2.2.toNat ({ (x11.getD s1.2.2.toNat default) with Mind := (⟨{ (((x11.getD s1.2.2.toNat default).Mind).Vector) with Cost := IntKind.i64.wrap ((IntKind.i64.wrap ((IntKind.i64.wrap (s1.2.1 + 1)) + 1)) + 1) }, ((x11.getD s1.2.2.toNat default).Mind).Link⟩ : TreeMind) }))) fun x13 =>
 gd ((0 : Int) ≤ s1.2.2 ∧ s1.2.2 < ((s1.1.length : Nat) : Int)) <|
 bd (some (x13.set s1.2.2.toNat ({ (x13.getD s1.2.2.toNat default) with Mind := (⟨{ (((x13.getD s1.2.2.toNat default).Mind).Vector) with Age := IntKind.i64.wrap ((IntKind.i64.wrap ((IntKind.i64.wrap ((IntKind.i64.wrap (s1.2.1 + 1)) + 1)) + 1)) + 1) }, ((x13.getD s1.2.2.toNat default).Mind).Link⟩ : TreeMind) }))) fun x15 =>
 gd ((0 : Int) ≤ s1.2.2 ∧ s1.2.2 < ((s1.1.length : Nat) : Int)) <|
 bd (some (x15.set s1.2.2.toNat ({ (x15.getD s1.2.2.toNat default) with Mind := (⟨(((x15.getD s1.2.2.toNat default).Mind).Vector), IntKind.i64.wrap ((IntKind.i64.wrap ((IntKind.i64.wrap ((IntKind.i64.wrap ((IntKind.i64.wrap (s1.2.1 + 1)) + 1)) + 1)) + 1)) + 1)⟩ : TreeMind) }))) fun x17 =>
 some (.inl (x17, IntKind.i64.wrap ((IntKind.i64.wrap ((IntKind.i64.wrap ((IntKind.i64.wrap ((IntKind.i64.wrap ((IntKind.i64.wrap (s1.2.1 + 1)) + 1)) + 1)) + 1)) + 1)) + 1), IntKind.i64.wrap (s1.2.2 + 1)))
else
 some (.inr (s1.2.1, s1.1, s1.1.length)))) (a0, a1, 0)) fun x4 =>
 gd (x4.2.2 = a0.length) <|
 some (x4.1, x4.2.1)

theorem laws_markTreeBridgeS_c {a0 : (List TreeBridge)} {a1 : Int} {r : Int × (List TreeBridge)} (h : laws_markTreeBridgeS_m a0 a1 = some r) : EffC Try.prog 62 [.osl 9000 0 a0.length, .d (.int .i64 a1)] [(9000, .arr 58 6 a0.length (rows TreeBridge.enc a0))] (.d (.int .i64 r.1)) [(9000, .arr 58 6 a0.length (rows TreeBridge.enc r.2))] := by
  refine effC_m tOk (fn := Try.f62) (c := codeOf Try.f62) rfl rfl (by kernel_rfl) rfl rfl rfl rfl ?_
  unfold laws_markTreeBridgeS_m at h
  conv => whnf
  refine seq_in tOk ?_
  conv => whnf
  obtain ⟨x4, hx4, h⟩ := bd_some h
  refine loop_m tOk hx4 (fun s1 => ⟨0, 64, [(0, .osl 9000 0 s1.1.length), (1, .d (.int .i64 s1.2.1)), (5, .d (.int .i64 s1.2.2))], [], [(9000, .arr 58 6 s1.1.length (rows TreeBridge.enc s1.1))], [⟨[(0, .osl 9000 0 s1.1.length)], []⟩]⟩) ?_ ?_
  · refine le_mk ?_ ?_ ?_ <;> (repeat' first | ((conv => whnf); first | exact trivial | refine And.intro ?_ ?_ | exact BLe.refl _ | exact VLe.refl _) | exact trivial | exact rfl | refine And.intro ?_ ?_ | exact BLe.refl _ | exact VLe.refl _ | exact VLe.any _ | exact VLe.nil_osl rfl | exact VLe.nil_sl rfl | exact VLe.built rfl rfl | (refine VLe.osl rfl ?_; (first | rfl | (simp; done) | assumption | (simp [dsub_eq] <;> omega) | omega)) | exact VLe.rows (by first | rfl | (simp; done) | assumption | (simp [dsub_eq] <;> omega) | omega) (fun _ _ => rfl) | exact VLe.rows (by simp [dsub_eq] <;> omega) rows_take | exact VLe.rows (by simp [dsub_eq] <;> omega) rows_dt | exact VLe.rows (by simp [dsub_eq] <;> omega) rows_vt | exact VLe.rows (by simp) (fun i _ => by simp [viewRow_eq, Nat.add_comm]) | refine VLe.aggL ?_ | (refine BLe.rows rfl ?_ fun _ _ => rfl; (first | rfl | (simp; done) | assumption | (simp [dsub_eq] <;> omega) | omega)) | (refine BLe.rows rfl rfl ?_; first | exact rows_take) | refine BLe.box ?_)
  · clear hx4
    intro s1 y2 g3 hy2
    conv => whnf
    refine seq_in tOk ?_
    conv => whnf
    refine And.intro (fun e => ?_) (fun e => ?_)
    · replace g3 := ite_t g3 e; clear e
      conv => whnf
      refine seq_in tOk ?_
      conv => whnf
      obtain ⟨g5, g3⟩ := gd_some g3
      refine And.intro g5 ?_
      clear g5
      conv => whnf
      obtain ⟨x6, hx6, g3⟩ := bd_some g3
      replace hx6 := Option.some.inj hx6
      have hlx6 := set_len hx6
      try simp only [List.length_set] at hlx6
      refine ⟨rows TreeBridge.enc x6, store_rows2 hx6 ((by first | rfl | (simp; done) | assumption | (simp [dsub_eq] <;> omega) | omega)) rfl, ?_⟩
      conv => whnf
      obtain ⟨g7, g3⟩ := gd_some g3
      refine And.intro g7 ?_
      clear g7
      conv => whnf
      obtain ⟨g8, g3⟩ := gd_some g3
      refine And.intro g8 ?_
      clear g8
      conv => whnf
      obtain ⟨x9, hx9, g3⟩ := bd_some g3
      replace hx9 := Option.some.inj hx9
      have hlx9 := set_len hx9
      try simp only [List.length_set] at hlx9
      refine ⟨rows TreeBridge.enc x9, store_rows2 hx9 ((by first | rfl | (simp; done) | assumption | (simp [dsub_eq] <;> omega) | omega)) rfl, ?_⟩
      conv => whnf
      obtain ⟨g10, g3⟩ := gd_some g3
      refine And.intro g10 ?_
      clear g10
      conv => whnf
      obtain ⟨x11, hx11, g3⟩ := bd_some g3
      replace hx11 := Option.some.inj hx11
      have hlx11 := set_len hx11
      try simp only [List.length_set] at hlx11
      refine ⟨rows TreeBridge.enc x11, store_rows2 hx11 ((by first | rfl | (simp; done) | assumption | (simp [dsub_eq] <;> omega) | omega)) rfl, ?_⟩
      conv => whnf
      obtain ⟨g12, g3⟩ := gd_some g3
      refine And.intro g12 ?_
      clear g12
      conv => whnf
      obtain ⟨x13, hx13, g3⟩ := bd_some g3
      replace hx13 := Option.some.inj hx13
      have hlx13 := set_len hx13
      try simp only [List.length_set] at hlx13
      refine ⟨rows TreeBridge.enc x13, store_rows2 hx13 ((by first | rfl | (simp; done) | assumption | (simp [dsub_eq] <;> omega) | omega)) rfl, ?_⟩
      conv => whnf
      obtain ⟨g14, g3⟩ := gd_some g3
      refine And.intro g14 ?_
      clear g14
      conv => whnf
      obtain ⟨x15, hx15, g3⟩ := bd_some g3
      replace hx15 := Option.some.inj hx15
      have hlx15 := set_len hx15
      try simp only [List.length_set] at hlx15
      refine ⟨rows TreeBridge.enc x15, store_rows2 hx15 ((by first | rfl | (simp; done) | assumption | (simp [dsub_eq] <;> omega) | omega)) rfl, ?_⟩
      conv => whnf
      obtain ⟨g16, g3⟩ := gd_some g3
      refine And.intro g16 ?_
      clear g16
      conv => whnf
      obtain ⟨x17, hx17, g3⟩ := bd_some g3
      replace hx17 := Option.some.inj hx17
      have hlx17 := set_len hx17
      try simp only [List.length_set] at hlx17
      refine ⟨rows TreeBridge.enc x17, store_rows2 hx17 ((by first | rfl | (simp; done) | assumption | (simp [dsub_eq] <;> omega) | omega)) rfl, ?_⟩
      conv => whnf
      obtain rfl := Option.some.inj g3
      refine ⟨_, rfl, le_mk ?_ ?_ ?_⟩ <;> (repeat' first | ((conv => whnf); first | exact trivial | refine And.intro ?_ ?_ | exact BLe.refl _ | exact VLe.refl _) | exact trivial | exact rfl | refine And.intro ?_ ?_ | exact BLe.refl _ | exact VLe.refl _ | exact VLe.any _ | exact VLe.nil_osl rfl | exact VLe.nil_sl rfl | exact VLe.built rfl rfl | (refine VLe.osl rfl ?_; (first | rfl | (simp; done) | assumption | (simp [dsub_eq] <;> omega) | omega)) | exact VLe.rows (by first | rfl | (simp; done) | assumption | (simp [dsub_eq] <;> omega) | omega) (fun _ _ => rfl) | exact VLe.rows (by simp [dsub_eq] <;> omega) rows_take | exact VLe.rows (by simp [dsub_eq] <;> omega) rows_dt | exact VLe.rows (by simp [dsub_eq] <;> omega) rows_vt | exact VLe.rows (by simp) (fun i _ => by simp [viewRow_eq, Nat.add_comm]) | refine VLe.aggL ?_ | (refine BLe.rows rfl ?_ fun _ _ => rfl; (first | rfl | (simp; done) | assumption | (simp [dsub_eq] <;> omega) | omega)) | (refine BLe.rows rfl rfl ?_; first | exact rows_take) | refine BLe.box ?_)
    · replace g3 := ite_f g3 e; clear e
      conv => whnf
      obtain rfl := Option.some.inj g3
      obtain rfl := hy2 _ rfl
      obtain ⟨g19, h⟩ := gd_some h
      obtain rfl := Option.some.inj h
      refine ⟨⟨0, 64, [(4, .d (.int .i64 (s1.2.1, s1.1, s1.1.length).1))], [], [(9000, .arr 58 6 a0.length (rows TreeBridge.enc (s1.2.1, s1.1, s1.1.length).2.1))], [⟨[(0, .osl 9000 0 a0.length)], []⟩]⟩, ?_, And.intro rfl (And.intro ?_ ?_)⟩
      · refine LE.trans (S' := ⟨0, 64, [(4, .d (.int .i64 (s1.2.1, s1.1, s1.1.length).1))], [], [(9000, .arr 58 6 (s1.2.1, s1.1, s1.1.length).2.2 (rows TreeBridge.enc (s1.2.1, s1.1, s1.1.length).2.1))], [⟨[(0, .osl 9000 0 (s1.2.1, s1.1, s1.1.length).2.2)], []⟩]⟩) (le_mk ?_ ?_ ?_) (le_mk ?_ ?_ ?_) <;> (repeat' first | ((conv => whnf); first | exact trivial | refine And.intro ?_ ?_ | exact BLe.refl _ | exact VLe.refl _) | exact trivial | exact rfl | refine And.intro ?_ ?_ | exact BLe.refl _ | exact VLe.refl _ | exact VLe.any _ | exact VLe.nil_osl rfl | exact VLe.nil_sl rfl | exact VLe.built rfl rfl | (refine VLe.osl rfl ?_; (first | rfl | (simp; done) | assumption | (simp [dsub_eq] <;> omega) | omega)) | exact VLe.rows (by first | rfl | (simp; done) | assumption | (simp [dsub_eq] <;> omega) | omega) (fun _ _ => rfl) | exact VLe.rows (by simp [dsub_eq] <;> omega) rows_take | exact VLe.rows (by simp [dsub_eq] <;> omega) rows_dt | exact VLe.rows (by simp [dsub_eq] <;> omega) rows_vt | exact VLe.rows (by simp) (fun i _ => by simp [viewRow_eq, Nat.add_comm]) | refine VLe.aggL ?_ | (refine BLe.rows rfl ?_ fun _ _ => rfl; (first | rfl | (simp; done) | assumption | (simp [dsub_eq] <;> omega) | omega)) | (refine BLe.rows rfl rfl ?_; first | exact rows_take) | refine BLe.box ?_)
      · (repeat' first | ((conv => whnf); first | exact trivial | refine And.intro ?_ ?_ | exact BLe.refl _ | exact VLe.refl _) | exact trivial | exact rfl | refine And.intro ?_ ?_ | exact BLe.refl _ | exact VLe.refl _ | exact VLe.any _ | exact VLe.nil_osl rfl | exact VLe.nil_sl rfl | exact VLe.built rfl rfl | (refine VLe.osl rfl ?_; (first | rfl | (simp; done) | assumption | (simp [dsub_eq] <;> omega) | omega)) | exact VLe.rows (by first | rfl | (simp; done) | assumption | (simp [dsub_eq] <;> omega) | omega) (fun _ _ => rfl) | exact VLe.rows (by simp [dsub_eq] <;> omega) rows_take | exact VLe.rows (by simp [dsub_eq] <;> omega) rows_dt | exact VLe.rows (by simp [dsub_eq] <;> omega) rows_vt | exact VLe.rows (by simp) (fun i _ => by simp [viewRow_eq, Nat.add_comm]) | refine VLe.aggL ?_ | (refine BLe.rows rfl ?_ fun _ _ => rfl; (first | rfl | (simp; done) | assumption | (simp [dsub_eq] <;> omega) | omega)) | refine BLe.box ?_ | (simp; done))
      · (repeat' first | ((conv => whnf); first | exact trivial | refine And.intro ?_ ?_ | exact BLe.refl _ | exact VLe.refl _) | exact trivial | exact rfl | refine And.intro ?_ ?_ | exact BLe.refl _ | exact VLe.refl _ | exact VLe.any _ | exact VLe.nil_osl rfl | exact VLe.nil_sl rfl | exact VLe.built rfl rfl | (refine VLe.osl rfl ?_; (first | rfl | (simp; done) | assumption | (simp [dsub_eq] <;> omega) | omega)) | exact VLe.rows (by first | rfl | (simp; done) | assumption | (simp [dsub_eq] <;> omega) | omega) (fun _ _ => rfl) | exact VLe.rows (by simp [dsub_eq] <;> omega) rows_take | exact VLe.rows (by simp [dsub_eq] <;> omega) rows_dt | exact VLe.rows (by simp [dsub_eq] <;> omega) rows_vt | exact VLe.rows (by simp) (fun i _ => by simp [viewRow_eq, Nat.add_comm]) | refine VLe.aggL ?_ | (refine BLe.rows rfl ?_ fun _ _ => rfl; (first | rfl | (simp; done) | assumption | (simp [dsub_eq] <;> omega) | omega)) | refine BLe.box ?_ | (simp; done))

noncomputable def laws_markTreeLinkS_m (a0 : (List TreeLink)) (a1 : Int) : Option (Int × (List TreeLink)) :=
 bd (lp (σ := List TreeLink × Int × Int) (β := (Int × (List TreeLink) × Nat)) (fun s1 =>
(if (decide (s1.2.2 < ((s1.1.length : Nat) : Int))) = true then
 gd ((0 : Int) ≤ s1.2.2 ∧ s1.2.2 < ((s1.1.length : Nat) : Int)) <|
 gd ((0 : Int) ≤ s1.2.2 ∧ s1.2.2 < ((s1.1.length : Nat) : Int)) <|
 bd (some ((s1.1.set s1.2.2.toNat ({ (s1.1.getD s1.2.2.toNat default) with A := s1.2.1 })).set s1.2.2.toNat ({ ((s1.1.set s1.2.2.toNat ({ (s1.1.getD s1.2.2.toNat default) with A := s1.2.1 })).getD s1.2.2.toNat default) with B := IntKind.i64.wrap (s1.2.1 + 1) }))) fun x7 =>
 gd ((0 : Int) ≤ s1.2.2 ∧ s1.2.2 < ((s1.1.length : Nat) : Int)) <|
 bd (some (x7.set s1.2.2.toNat ({ (x7.getD s1.2.2.toNat default) with Cost := IntKind.i64.wrap ((IntKind.i64.wrap (s1.2.1 + 1)) + 1) }))) fun x9 =>
 some (.inl (x9, IntKind.i64.wrap ((IntKind.i64.wrap ((IntKind.i64.wrap (s1.2.1 + 1)) + 1)) + 1), IntKind.i64.wrap (s1.2.2 + 1)))
else
 some (.inr (s1.2.1, s1.1, s1.1.length)))) (a0, a1, 0)) fun x4 =>
 gd (x4.2.2 = a0.length) <|
 some (x4.1, x4.2.1)

theorem laws_markTreeLinkS_c {a0 : (List TreeLink)} {a1 : Int} {r : Int × (List TreeLink)} (h : laws_markTreeLinkS_m a0 a1 = some r) : EffC Try.prog 63 [.osl 9000 0 a0.length, .d (.int .i64 a1)] [(9000, .arr 61 3 a0.length (rows TreeLink.enc a0))] (.d (.int .i64 r.1)) [(9000, .arr 61 3 a0.length (rows TreeLink.enc r.2))] := by
  refine effC_m tOk (fn := Try.f63) (c := codeOf Try.f63) rfl rfl (by kernel_rfl) rfl rfl rfl rfl ?_
  unfold laws_markTreeLinkS_m at h
  conv => whnf
  refine seq_in tOk ?_
  conv => whnf
  obtain ⟨x4, hx4, h⟩ := bd_some h
  refine loop_m tOk hx4 (fun s1 => ⟨0, 34, [(0, .osl 9000 0 s1.1.length), (1, .d (.int .i64 s1.2.1)), (5, .d (.int .i64 s1.2.2))], [], [(9000, .arr 61 3 s1.1.length (rows TreeLink.enc s1.1))], [⟨[(0, .osl 9000 0 s1.1.length)], []⟩]⟩) ?_ ?_
  · refine le_mk ?_ ?_ ?_ <;> (repeat' first | ((conv => whnf); first | exact trivial | refine And.intro ?_ ?_ | exact BLe.refl _ | exact VLe.refl _) | exact trivial | exact rfl | refine And.intro ?_ ?_ | exact BLe.refl _ | exact VLe.refl _ | exact VLe.any _ | exact VLe.nil_osl rfl | exact VLe.nil_sl rfl | exact VLe.built rfl rfl | (refine VLe.osl rfl ?_; (first | rfl | (simp; done) | assumption | (simp [dsub_eq] <;> omega) | omega)) | exact VLe.rows (by first | rfl | (simp; done) | assumption | (simp [dsub_eq] <;> omega) | omega) (fun _ _ => rfl) | exact VLe.rows (by simp [dsub_eq] <;> omega) rows_take | exact VLe.rows (by simp [dsub_eq] <;> omega) rows_dt | exact VLe.rows (by simp [dsub_eq] <;> omega) rows_vt | exact VLe.rows (by simp) (fun i _ => by simp [viewRow_eq, Nat.add_comm]) | refine VLe.aggL ?_ | (refine BLe.rows rfl ?_ fun _ _ => rfl; (first | rfl | (simp; done) | assumption | (simp [dsub_eq] <;> omega) | omega)) | (refine BLe.rows rfl rfl ?_; first | exact rows_take) | refine BLe.box ?_)
  · clear hx4
    intro s1 y2 g3 hy2
    conv => whnf
    refine seq_in tOk ?_
    conv => whnf
    refine And.intro (fun e => ?_) (fun e => ?_)
    · replace g3 := ite_t g3 e; clear e
      conv => whnf
      refine seq_in tOk ?_
      conv => whnf
      obtain ⟨g5, g3⟩ := gd_some g3
      refine And.intro g5 ?_
      clear g5
      conv => whnf
      refine ⟨rows TreeLink.enc (s1.1.set s1.2.2.toNat ({ (s1.1.getD s1.2.2.toNat default) with A := s1.2.1 })), store_rows' ((by first | rfl | (simp; done) | assumption | (simp [dsub_eq] <;> omega) | omega)) rfl, ?_⟩
      conv => whnf
      obtain ⟨g6, g3⟩ := gd_some g3
      refine And.intro g6 ?_
      clear g6
      conv => whnf
      obtain ⟨x7, hx7, g3⟩ := bd_some g3
      replace hx7 := Option.some.inj hx7
      have hlx7 := set_len hx7
      try simp only [List.length_set] at hlx7
      refine ⟨rows TreeLink.enc x7, store_rows2 hx7 ((by first | rfl | (simp; done) | assumption | (simp [dsub_eq] <;> omega) | omega)) rfl, ?_⟩
      conv => whnf
      obtain ⟨g8, g3⟩ := gd_some g3
      refine And.intro g8 ?_
      clear g8
      conv => whnf
      obtain ⟨x9, hx9, g3⟩ := bd_some g3
      replace hx9 := Option.some.inj hx9
      have hlx9 := set_len hx9
      try simp only [List.length_set] at hlx9
      refine ⟨rows TreeLink.enc x9, store_rows2 hx9 ((by first | rfl | (simp; done) | assumption | (simp [dsub_eq] <;> omega) | omega)) rfl, ?_⟩
      conv => whnf
      obtain rfl := Option.some.inj g3
      refine ⟨_, rfl, le_mk ?_ ?_ ?_⟩ <;> (repeat' first | ((conv => whnf); first | exact trivial | refine And.intro ?_ ?_ | exact BLe.refl _ | exact VLe.refl _) | exact trivial | exact rfl | refine And.intro ?_ ?_ | exact BLe.refl _ | exact VLe.refl _ | exact VLe.any _ | exact VLe.nil_osl rfl | exact VLe.nil_sl rfl | exact VLe.built rfl rfl | (refine VLe.osl rfl ?_; (first | rfl | (simp; done) | assumption | (simp [dsub_eq] <;> omega) | omega)) | exact VLe.rows (by first | rfl | (simp; done) | assumption | (simp [dsub_eq] <;> omega) | omega) (fun _ _ => rfl) | exact VLe.rows (by simp [dsub_eq] <;> omega) rows_take | exact VLe.rows (by simp [dsub_eq] <;> omega) rows_dt | exact VLe.rows (by simp [dsub_eq] <;> omega) rows_vt | exact VLe.rows (by simp) (fun i _ => by simp [viewRow_eq, Nat.add_comm]) | refine VLe.aggL ?_ | (refine BLe.rows rfl ?_ fun _ _ => rfl; (first | rfl | (simp; done) | assumption | (simp [dsub_eq] <;> omega) | omega)) | (refine BLe.rows rfl rfl ?_; first | exact rows_take) | refine BLe.box ?_)
    · replace g3 := ite_f g3 e; clear e
      conv => whnf
      obtain rfl := Option.some.inj g3
      obtain rfl := hy2 _ rfl
      obtain ⟨g11, h⟩ := gd_some h
      obtain rfl := Option.some.inj h
      refine ⟨⟨0, 34, [(4, .d (.int .i64 (s1.2.1, s1.1, s1.1.length).1))], [], [(9000, .arr 61 3 a0.length (rows TreeLink.enc (s1.2.1, s1.1, s1.1.length).2.1))], [⟨[(0, .osl 9000 0 a0.length)], []⟩]⟩, ?_, And.intro rfl (And.intro ?_ ?_)⟩
      · refine LE.trans (S' := ⟨0, 34, [(4, .d (.int .i64 (s1.2.1, s1.1, s1.1.length).1))], [], [(9000, .arr 61 3 (s1.2.1, s1.1, s1.1.length).2.2 (rows TreeLink.enc (s1.2.1, s1.1, s1.1.length).2.1))], [⟨[(0, .osl 9000 0 (s1.2.1, s1.1, s1.1.length).2.2)], []⟩]⟩) (le_mk ?_ ?_ ?_) (le_mk ?_ ?_ ?_) <;> (repeat' first | ((conv => whnf); first | exact trivial | refine And.intro ?_ ?_ | exact BLe.refl _ | exact VLe.refl _) | exact trivial | exact rfl | refine And.intro ?_ ?_ | exact BLe.refl _ | exact VLe.refl _ | exact VLe.any _ | exact VLe.nil_osl rfl | exact VLe.nil_sl rfl | exact VLe.built rfl rfl | (refine VLe.osl rfl ?_; (first | rfl | (simp; done) | assumption | (simp [dsub_eq] <;> omega) | omega)) | exact VLe.rows (by first | rfl | (simp; done) | assumption | (simp [dsub_eq] <;> omega) | omega) (fun _ _ => rfl) | exact VLe.rows (by simp [dsub_eq] <;> omega) rows_take | exact VLe.rows (by simp [dsub_eq] <;> omega) rows_dt | exact VLe.rows (by simp [dsub_eq] <;> omega) rows_vt | exact VLe.rows (by simp) (fun i _ => by simp [viewRow_eq, Nat.add_comm]) | refine VLe.aggL ?_ | (refine BLe.rows rfl ?_ fun _ _ => rfl; (first | rfl | (simp; done) | assumption | (simp [dsub_eq] <;> omega) | omega)) | (refine BLe.rows rfl rfl ?_; first | exact rows_take) | refine BLe.box ?_)
      · (repeat' first | ((conv => whnf); first | exact trivial | refine And.intro ?_ ?_ | exact BLe.refl _ | exact VLe.refl _) | exact trivial | exact rfl | refine And.intro ?_ ?_ | exact BLe.refl _ | exact VLe.refl _ | exact VLe.any _ | exact VLe.nil_osl rfl | exact VLe.nil_sl rfl | exact VLe.built rfl rfl | (refine VLe.osl rfl ?_; (first | rfl | (simp; done) | assumption | (simp [dsub_eq] <;> omega) | omega)) | exact VLe.rows (by first | rfl | (simp; done) | assumption | (simp [dsub_eq] <;> omega) | omega) (fun _ _ => rfl) | exact VLe.rows (by simp [dsub_eq] <;> omega) rows_take | exact VLe.rows (by simp [dsub_eq] <;> omega) rows_dt | exact VLe.rows (by simp [dsub_eq] <;> omega) rows_vt | exact VLe.rows (by simp) (fun i _ => by simp [viewRow_eq, Nat.add_comm]) | refine VLe.aggL ?_ | (refine BLe.rows rfl ?_ fun _ _ => rfl; (first | rfl | (simp; done) | assumption | (simp [dsub_eq] <;> omega) | omega)) | refine BLe.box ?_ | (simp; done))
      · (repeat' first | ((conv => whnf); first | exact trivial | refine And.intro ?_ ?_ | exact BLe.refl _ | exact VLe.refl _) | exact trivial | exact rfl | refine And.intro ?_ ?_ | exact BLe.refl _ | exact VLe.refl _ | exact VLe.any _ | exact VLe.nil_osl rfl | exact VLe.nil_sl rfl | exact VLe.built rfl rfl | (refine VLe.osl rfl ?_; (first | rfl | (simp; done) | assumption | (simp [dsub_eq] <;> omega) | omega)) | exact VLe.rows (by first | rfl | (simp; done) | assumption | (simp [dsub_eq] <;> omega) | omega) (fun _ _ => rfl) | exact VLe.rows (by simp [dsub_eq] <;> omega) rows_take | exact VLe.rows (by simp [dsub_eq] <;> omega) rows_dt | exact VLe.rows (by simp [dsub_eq] <;> omega) rows_vt | exact VLe.rows (by simp) (fun i _ => by simp [viewRow_eq, Nat.add_comm]) | refine VLe.aggL ?_ | (refine BLe.rows rfl ?_ fun _ _ => rfl; (first | rfl | (simp; done) | assumption | (simp [dsub_eq] <;> omega) | omega)) | refine BLe.box ?_ | (simp; done))

noncomputable def laws_markIntS_m (a0 : (List Int)) (a1 : Int) : Option (Int × (List Int)) :=
 bd (lp (σ := List Int × Int × Int) (β := (Int × (List Int) × Nat)) (fun s1 =>
(if (decide (s1.2.2 < ((s1.1.length : Nat) : Int))) = true then
 gd ((0 : Int) ≤ s1.2.2 ∧ s1.2.2 < ((s1.1.length : Nat) : Int)) <|
 some (.inl (s1.1.set s1.2.2.toNat s1.2.1, IntKind.i64.wrap (s1.2.1 + 1), IntKind.i64.wrap (s1.2.2 + 1)))
else
 some (.inr (s1.2.1, s1.1, s1.1.length)))) (a0, a1, 0)) fun x4 =>
 gd (x4.2.2 = a0.length) <|
 some (x4.1, x4.2.1)

theorem laws_markIntS_c {a0 : (List Int)} {a1 : Int} {r : Int × (List Int)} (h : laws_markIntS_m a0 a1 = some r) : EffC Try.prog 16 [.osl 9000 0 a0.length, .d (.int .i64 a1)] [(9000, .arr 3 1 a0.length (rows encInt a0))] (.d (.int .i64 r.1)) [(9000, .arr 3 1 a0.length (rows encInt r.2))] := by
  refine effC_m tOk (fn := Try.f16) (c := codeOf Try.f16) rfl rfl (by kernel_rfl) rfl rfl rfl rfl ?_
  unfold laws_markIntS_m at h
  conv => whnf
  refine seq_in tOk ?_
  conv => whnf
  obtain ⟨x4, hx4, h⟩ := bd_some h
  refine loop_m tOk hx4 (fun s1 => ⟨0, 19, [(0, .osl 9000 0 s1.1.length), (1, .d (.int .i64 s1.2.1)), (5, .d (.int .i64 s1.2.2))], [], [(9000, .arr 3 1 s1.1.length (rows encInt s1.1))], [⟨[(0, .osl 9000 0 s1.1.length)], []⟩]⟩) ?_ ?_
  · refine le_mk ?_ ?_ ?_ <;> (repeat' first | ((conv => whnf); first | exact trivial | refine And.intro ?_ ?_ | exact BLe.refl _ | exact VLe.refl _) | exact trivial | exact rfl | refine And.intro ?_ ?_ | exact BLe.refl _ | exact VLe.refl _ | exact VLe.any _ | exact VLe.nil_osl rfl | exact VLe.nil_sl rfl | exact VLe.built rfl rfl | (refine VLe.osl rfl ?_; (first | rfl | (simp; done) | assumption | (simp [dsub_eq] <;> omega) | omega)) | exact VLe.rows (by first | rfl | (simp; done) | assumption | (simp [dsub_eq] <;> omega) | omega) (fun _ _ => rfl) | exact VLe.rows (by simp [dsub_eq] <;> omega) rows_take | exact VLe.rows (by simp [dsub_eq] <;> omega) rows_dt | exact VLe.rows (by simp [dsub_eq] <;> omega) rows_vt | exact VLe.rows (by simp) (fun i _ => by simp [viewRow_eq, Nat.add_comm]) | refine VLe.aggL ?_ | (refine BLe.rows rfl ?_ fun _ _ => rfl; (first | rfl | (simp; done) | assumption | (simp [dsub_eq] <;> omega) | omega)) | (refine BLe.rows rfl rfl ?_; first | exact rows_take) | refine BLe.box ?_)
  · clear hx4
    intro s1 y2 g3 hy2
    conv => whnf
    refine seq_in tOk ?_
    conv => whnf
    refine And.intro (fun e => ?_) (fun e => ?_)
    · replace g3 := ite_t g3 e; clear e
      conv => whnf
      refine seq_in tOk ?_
      conv => whnf
      obtain ⟨g5, g3⟩ := gd_some g3
      refine And.intro g5 ?_
      clear g5
      conv => whnf
      refine ⟨rows encInt (s1.1.set s1.2.2.toNat s1.2.1), store_rows' ((by first | rfl | (simp; done) | assumption | (simp [dsub_eq] <;> omega) | omega)) rfl, ?_⟩
      conv => whnf
      obtain rfl := Option.some.inj g3
      refine ⟨_, rfl, le_mk ?_ ?_ ?_⟩ <;> (repeat' first | ((conv => whnf); first | exact trivial | refine And.intro ?_ ?_ | exact BLe.refl _ | exact VLe.refl _) | exact trivial | exact rfl | refine And.intro ?_ ?_ | exact BLe.refl _ | exact VLe.refl _ | exact VLe.any _ | exact VLe.nil_osl rfl | exact VLe.nil_sl rfl | exact VLe.built rfl rfl | (refine VLe.osl rfl ?_; (first | rfl | (simp; done) | assumption | (simp [dsub_eq] <;> omega) | omega)) | exact VLe.rows (by first | rfl | (simp; done) | assumption | (simp [dsub_eq] <;> omega) | omega) (fun _ _ => rfl) | exact VLe.rows (by simp [dsub_eq] <;> omega) rows_take | exact VLe.rows (by simp [dsub_eq] <;> omega) rows_dt | exact VLe.rows (by simp [dsub_eq] <;> omega) rows_vt | exact VLe.rows (by simp) (fun i _ => by simp [viewRow_eq, Nat.add_comm]) | refine VLe.aggL ?_ | (refine BLe.rows rfl ?_ fun _ _ => rfl; (first | rfl | (simp; done) | assumption | (simp [dsub_eq] <;> omega) | omega)) | (refine BLe.rows rfl rfl ?_; first | exact rows_take) | refine BLe.box ?_)
    · replace g3 := ite_f g3 e; clear e
      conv => whnf
      obtain rfl := Option.some.inj g3
      obtain rfl := hy2 _ rfl
      obtain ⟨g7, h⟩ := gd_some h
      obtain rfl := Option.some.inj h
      refine ⟨⟨0, 19, [(4, .d (.int .i64 (s1.2.1, s1.1, s1.1.length).1))], [], [(9000, .arr 3 1 a0.length (rows encInt (s1.2.1, s1.1, s1.1.length).2.1))], [⟨[(0, .osl 9000 0 a0.length)], []⟩]⟩, ?_, And.intro rfl (And.intro ?_ ?_)⟩
      · refine LE.trans (S' := ⟨0, 19, [(4, .d (.int .i64 (s1.2.1, s1.1, s1.1.length).1))], [], [(9000, .arr 3 1 (s1.2.1, s1.1, s1.1.length).2.2 (rows encInt (s1.2.1, s1.1, s1.1.length).2.1))], [⟨[(0, .osl 9000 0 (s1.2.1, s1.1, s1.1.length).2.2)], []⟩]⟩) (le_mk ?_ ?_ ?_) (le_mk ?_ ?_ ?_) <;> (repeat' first | ((conv => whnf); first | exact trivial | refine And.intro ?_ ?_ | exact BLe.refl _ | exact VLe.refl _) | exact trivial | exact rfl | refine And.intro ?_ ?_ | exact BLe.refl _ | exact VLe.refl _ | exact VLe.any _ | exact VLe.nil_osl rfl | exact VLe.nil_sl rfl | exact VLe.built rfl rfl | (refine VLe.osl rfl ?_; (first | rfl | (simp; done) | assumption | (simp [dsub_eq] <;> omega) | omega)) | exact VLe.rows (by first | rfl | (simp; done) | assumption | (simp [dsub_eq] <;> omega) | omega) (fun _ _ => rfl) | exact VLe.rows (by simp [dsub_eq] <;> omega) rows_take | exact VLe.rows (by simp [dsub_eq] <;> omega) rows_dt | exact VLe.rows (by simp [dsub_eq] <;> omega) rows_vt | exact VLe.rows (by simp) (fun i _ => by simp [viewRow_eq, Nat.add_comm]) | refine VLe.aggL ?_ | (refine BLe.rows rfl ?_ fun _ _ => rfl; (first | rfl | (simp; done) | assumption | (simp [dsub_eq] <;> omega) | omega)) | (refine BLe.rows rfl rfl ?_; first | exact rows_take) | refine BLe.box ?_)
      · (repeat' first | ((conv => whnf); first | exact trivial | refine And.intro ?_ ?_ | exact BLe.refl _ | exact VLe.refl _) | exact trivial | exact rfl | refine And.intro ?_ ?_ | exact BLe.refl _ | exact VLe.refl _ | exact VLe.any _ | exact VLe.nil_osl rfl | exact VLe.nil_sl rfl | exact VLe.built rfl rfl | (refine VLe.osl rfl ?_; (first | rfl | (simp; done) | assumption | (simp [dsub_eq] <;> omega) | omega)) | exact VLe.rows (by first | rfl | (simp; done) | assumption | (simp [dsub_eq] <;> omega) | omega) (fun _ _ => rfl) | exact VLe.rows (by simp [dsub_eq] <;> omega) rows_take | exact VLe.rows (by simp [dsub_eq] <;> omega) rows_dt | exact VLe.rows (by simp [dsub_eq] <;> omega) rows_vt | exact VLe.rows (by simp) (fun i _ => by simp [viewRow_eq, Nat.add_comm]) | refine VLe.aggL ?_ | (refine BLe.rows rfl ?_ fun _ _ => rfl; (first | rfl | (simp; done) | assumption | (simp [dsub_eq] <;> omega) | omega)) | refine BLe.box ?_ | (simp; done))
      · (repeat' first | ((conv => whnf); first | exact trivial | refine And.intro ?_ ?_ | exact BLe.refl _ | exact VLe.refl _) | exact trivial | exact rfl | refine And.intro ?_ ?_ | exact BLe.refl _ | exact VLe.refl _ | exact VLe.any _ | exact VLe.nil_osl rfl | exact VLe.nil_sl rfl | exact VLe.built rfl rfl | (refine VLe.osl rfl ?_; (first | rfl | (simp; done) | assumption | (simp [dsub_eq] <;> omega) | omega)) | exact VLe.rows (by first | rfl | (simp; done) | assumption | (simp [dsub_eq] <;> omega) | omega) (fun _ _ => rfl) | exact VLe.rows (by simp [dsub_eq] <;> omega) rows_take | exact VLe.rows (by simp [dsub_eq] <;> omega) rows_dt | exact VLe.rows (by simp [dsub_eq] <;> omega) rows_vt | exact VLe.rows (by simp) (fun i _ => by simp [viewRow_eq, Nat.add_comm]) | refine VLe.aggL ?_ | (refine BLe.rows rfl ?_ fun _ _ => rfl; (first | rfl | (simp; done) | assumption | (simp [dsub_eq] <;> omega) | omega)) | refine BLe.box ?_ | (simp; done))

noncomputable def laws_markTreeSlotS_m (a0 : (List TreeSlot)) (a1 : Int) : Option (Int × (List TreeSlot)) :=
 bd (lp (σ := List TreeSlot × Int × Int) (β := (Int × (List TreeSlot) × Nat)) (fun s1 =>
(if (decide (s1.2.2 < ((s1.1.length : Nat) : Int))) = true then
 gd ((0 : Int) ≤ s1.2.2 ∧ s1.2.2 < ((s1.1.length : Nat) : Int)) <|
 bd (some (s1.1.set s1.2.2.toNat (⟨{ ((s1.1.getD s1.2.2.toNat default).Vector) with Root := s1.2.1 }, (s1.1.getD s1.2.2.toNat default).Left⟩ : TreeSlot))) fun x6 =>
 gd ((0 : Int) ≤ s1.2.2 ∧ s1.2.2 < ((s1.1.length : Nat) : Int)) <|
 bd (some (x6.set s1.2.2.toNat (⟨{ ((x6.getD s1.2.2.toNat default).Vector) with Cost := IntKind.i64.wrap (s1.2.1 + 1) }, (x6.getD s1.2.2.toNat default).Left⟩ : TreeSlot))) fun x8 =>
 gd ((0 : Int) ≤ s1.2.2 ∧ s1.2.2 < ((s1.1.length : Nat) : Int)) <|
 bd (some (x8.set s1.2.2.toNat (⟨{ ((x8.getD s1.2.2.toNat default).Vector) with Age := IntKind.i64.wrap ((IntKind.i64.wrap (s1.2.1 + 1)) + 1) }, (x8.getD s1.2.2.toNat default).Left⟩ : TreeSlot))) fun x10 =>
 gd ((0 : Int) ≤ s1.2.2 ∧ s1.2.2 < ((s1.1.length : Nat) : Int)) <|
 bd (some (x10.set s1.2.2.toNat (⟨((x10.getD s1.2.2.toNat default).Vector), IntKind.i64.wrap ((IntKind.i64.wrap ((IntKind.i64.wrap (s1.2.1 + 1)) + 1)) + 1)⟩ : TreeSlot))) fun x12 =>
 some (.inl (x12, IntKind.i64.wrap ((IntKind.i64.wrap ((IntKind.i64.wrap ((IntKind.i64.wrap (s1.2.1 + 1)) + 1)) + 1)) + 1), IntKind.i64.wrap (s1.2.2 + 1)))
else
 some (.inr (s1.2.1, s1.1, s1.1.length)))) (a0, a1, 0)) fun x4 =>
 gd (x4.2.2 = a0.length) <|
 some (x4.1, x4.2.1)

theorem laws_markTreeSlotS_c {a0 : (List TreeSlot)} {a1 : Int} {r : Int × (List TreeSlot)} (h : laws_markTreeSlotS_m a0 a1 = some r) : EffC Try.prog 64 [.osl 9000 0 a0.length, .d (.int .i64 a1)] [(9000, .arr 63 4 a0.length (rows TreeSlot.enc a0))] (.d (.int .i64 r.1)) [(9000, .arr 63 4 a0.length (rows TreeSlot.enc r.2))] := by
  refine effC_m tOk (fn := Try.f64) (c := codeOf Try.f64) rfl rfl (by kernel_rfl) rfl rfl rfl rfl ?_
  unfold laws_markTreeSlotS_m at h
  conv => whnf
  refine seq_in tOk ?_
  conv => whnf
  obtain ⟨x4, hx4, h⟩ := bd_some h
  refine loop_m tOk hx4 (fun s1 => ⟨0, 44, [(0, .osl 9000 0 s1.1.length), (1, .d (.int .i64 s1.2.1)), (5, .d (.int .i64 s1.2.2))], [], [(9000, .arr 63 4 s1.1.length (rows TreeSlot.enc s1.1))], [⟨[(0, .osl 9000 0 s1.1.length)], []⟩]⟩) ?_ ?_
  · refine le_mk ?_ ?_ ?_ <;> (repeat' first | ((conv => whnf); first | exact trivial | refine And.intro ?_ ?_ | exact BLe.refl _ | exact VLe.refl _) | exact trivial | exact rfl | refine And.intro ?_ ?_ | exact BLe.refl _ | exact VLe.refl _ | exact VLe.any _ | exact VLe.nil_osl rfl | exact VLe.nil_sl rfl | exact VLe.built rfl rfl | (refine VLe.osl rfl ?_; (first | rfl | (simp; done) | assumption | (simp [dsub_eq] <;> omega) | omega)) | exact VLe.rows (by first | rfl | (simp; done) | assumption | (simp [dsub_eq] <;> omega) | omega) (fun _ _ => rfl) | exact VLe.rows (by simp [dsub_eq] <;> omega) rows_take | exact VLe.rows (by simp [dsub_eq] <;> omega) rows_dt | exact VLe.rows (by simp [dsub_eq] <;> omega) rows_vt | exact VLe.rows (by simp) (fun i _ => by simp [viewRow_eq, Nat.add_comm]) | refine VLe.aggL ?_ | (refine BLe.rows rfl ?_ fun _ _ => rfl; (first | rfl | (simp; done) | assumption | (simp [dsub_eq] <;> omega) | omega)) | (refine BLe.rows rfl rfl ?_; first | exact rows_take) | refine BLe.box ?_)
  · clear hx4
    intro s1 y2 g3 hy2
    conv => whnf
    refine seq_in tOk ?_
    conv => whnf
    refine And.intro (fun e => ?_) (fun e => ?_)
    · replace g3 := ite_t g3 e; clear e
      conv => whnf
      refine seq_in tOk ?_
      conv => whnf
      obtain ⟨g5, g3⟩ := gd_some g3
      refine And.intro g5 ?_
      clear g5
      conv => whnf
      obtain ⟨x6, hx6, g3⟩ := bd_some g3
      replace hx6 := Option.some.inj hx6
      have hlx6 := set_len hx6
      try simp only [List.length_set] at hlx6
      refine ⟨rows TreeSlot.enc x6, store_rows2 hx6 ((by first | rfl | (simp; done) | assumption | (simp [dsub_eq] <;> omega) | omega)) rfl, ?_⟩
      conv => whnf
      obtain ⟨g7, g3⟩ := gd_some g3
      refine And.intro g7 ?_
      clear g7
      conv => whnf
      obtain ⟨x8, hx8, g3⟩ := bd_some g3
      replace hx8 := Option.some.inj hx8
      have hlx8 := set_len hx8
      try simp only [List.length_set] at hlx8
      refine ⟨rows TreeSlot.enc x8, store_rows2 hx8 ((by first | rfl | (simp; done) | assumption | (simp [dsub_eq] <;> omega) | omega)) rfl, ?_⟩
      conv => whnf
      obtain ⟨g9, g3⟩ := gd_some g3
      refine And.intro g9 ?_
      clear g9
      conv => whnf
      obtain ⟨x10, hx10, g3⟩ := bd_some g3
      replace hx10 := Option.some.inj hx10
      have hlx10 := set_len hx10
      try simp only [List.length_set] at hlx10
      refine ⟨rows TreeSlot.enc x10, store_rows2 hx10 ((by first | rfl | (simp; done) | assumption | (simp [dsub_eq] <;> omega) | omega)) rfl, ?_⟩
      conv => whnf
      obtain ⟨g11, g3⟩ := gd_some g3
      refine And.intro g11 ?_
      clear g11
      conv => whnf
      obtain ⟨x12, hx12, g3⟩ := bd_some g3
      replace hx12 := Option.some.inj hx12
      have hlx12 := set_len hx12
      try simp only [List.length_set] at hlx12
      refine ⟨rows TreeSlot.enc x12, store_rows2 hx12 ((by first | rfl | (simp; done) | assumption | (simp [dsub_eq] <;> omega) | omega)) rfl, ?_⟩
      conv => whnf
      obtain rfl := Option.some.inj g3
      refine ⟨_, rfl, le_mk ?_ ?_ ?_⟩ <;> (repeat' first | ((conv => whnf); first | exact trivial | refine And.intro ?_ ?_ | exact BLe.refl _ | exact VLe.refl _) | exact trivial | exact rfl | refine And.intro ?_ ?_ | exact BLe.refl _ | exact VLe.refl _ | exact VLe.any _ | exact VLe.nil_osl rfl | exact VLe.nil_sl rfl | exact VLe.built rfl rfl | (refine VLe.osl rfl ?_; (first | rfl | (simp; done) | assumption | (simp [dsub_eq] <;> omega) | omega)) | exact VLe.rows (by first | rfl | (simp; done) | assumption | (simp [dsub_eq] <;> omega) | omega) (fun _ _ => rfl) | exact VLe.rows (by simp [dsub_eq] <;> omega) rows_take | exact VLe.rows (by simp [dsub_eq] <;> omega) rows_dt | exact VLe.rows (by simp [dsub_eq] <;> omega) rows_vt | exact VLe.rows (by simp) (fun i _ => by simp [viewRow_eq, Nat.add_comm]) | refine VLe.aggL ?_ | (refine BLe.rows rfl ?_ fun _ _ => rfl; (first | rfl | (simp; done) | assumption | (simp [dsub_eq] <;> omega) | omega)) | (refine BLe.rows rfl rfl ?_; first | exact rows_take) | refine BLe.box ?_)
    · replace g3 := ite_f g3 e; clear e
      conv => whnf
      obtain rfl := Option.some.inj g3
      obtain rfl := hy2 _ rfl
      obtain ⟨g14, h⟩ := gd_some h
      obtain rfl := Option.some.inj h
      refine ⟨⟨0, 44, [(4, .d (.int .i64 (s1.2.1, s1.1, s1.1.length).1))], [], [(9000, .arr 63 4 a0.length (rows TreeSlot.enc (s1.2.1, s1.1, s1.1.length).2.1))], [⟨[(0, .osl 9000 0 a0.length)], []⟩]⟩, ?_, And.intro rfl (And.intro ?_ ?_)⟩
      · refine LE.trans (S' := ⟨0, 44, [(4, .d (.int .i64 (s1.2.1, s1.1, s1.1.length).1))], [], [(9000, .arr 63 4 (s1.2.1, s1.1, s1.1.length).2.2 (rows TreeSlot.enc (s1.2.1, s1.1, s1.1.length).2.1))], [⟨[(0, .osl 9000 0 (s1.2.1, s1.1, s1.1.length).2.2)], []⟩]⟩) (le_mk ?_ ?_ ?_) (le_mk ?_ ?_ ?_) <;> (repeat' first | ((conv => whnf); first | exact trivial | refine And.intro ?_ ?_ | exact BLe.refl _ | exact VLe.refl _) | exact trivial | exact rfl | refine And.intro ?_ ?_ | exact BLe.refl _ | exact VLe.refl _ | exact VLe.any _ | exact VLe.nil_osl rfl | exact VLe.nil_sl rfl | exact VLe.built rfl rfl | (refine VLe.osl rfl ?_; (first | rfl | (simp; done) | assumption | (simp [dsub_eq] <;> omega) | omega)) | exact VLe.rows (by first | rfl | (simp; done) | assumption | (simp [dsub_eq] <;> omega) | omega) (fun _ _ => rfl) | exact VLe.rows (by simp [dsub_eq] <;> omega) rows_take | exact VLe.rows (by simp [dsub_eq] <;> omega) rows_dt | exact VLe.rows (by simp [dsub_eq] <;> omega) rows_vt | exact VLe.rows (by simp) (fun i _ => by simp [viewRow_eq, Nat.add_comm]) | refine VLe.aggL ?_ | (refine BLe.rows rfl ?_ fun _ _ => rfl; (first | rfl | (simp; done) | assumption | (simp [dsub_eq] <;> omega) | omega)) | (refine BLe.rows rfl rfl ?_; first | exact rows_take) | refine BLe.box ?_)
      · (repeat' first | ((conv => whnf); first | exact trivial | refine And.intro ?_ ?_ | exact BLe.refl _ | exact VLe.refl _) | exact trivial | exact rfl | refine And.intro ?_ ?_ | exact BLe.refl _ | exact VLe.refl _ | exact VLe.any _ | exact VLe.nil_osl rfl | exact VLe.nil_sl rfl | exact VLe.built rfl rfl | (refine VLe.osl rfl ?_; (first | rfl | (simp; done) | assumption | (simp [dsub_eq] <;> omega) | omega)) | exact VLe.rows (by first | rfl | (simp; done) | assumption | (simp [dsub_eq] <;> omega) | omega) (fun _ _ => rfl) | exact VLe.rows (by simp [dsub_eq] <;> omega) rows_take | exact VLe.rows (by simp [dsub_eq] <;> omega) rows_dt | exact VLe.rows (by simp [dsub_eq] <;> omega) rows_vt | exact VLe.rows (by simp) (fun i _ => by simp [viewRow_eq, Nat.add_comm]) | refine VLe.aggL ?_ | (refine BLe.rows rfl ?_ fun _ _ => rfl; (first | rfl | (simp; done) | assumption | (simp [dsub_eq] <;> omega) | omega)) | refine BLe.box ?_ | (simp; done))
      · (repeat' first | ((conv => whnf); first | exact trivial | refine And.intro ?_ ?_ | exact BLe.refl _ | exact VLe.refl _) | exact trivial | exact rfl | refine And.intro ?_ ?_ | exact BLe.refl _ | exact VLe.refl _ | exact VLe.any _ | exact VLe.nil_osl rfl | exact VLe.nil_sl rfl | exact VLe.built rfl rfl | (refine VLe.osl rfl ?_; (first | rfl | (simp; done) | assumption | (simp [dsub_eq] <;> omega) | omega)) | exact VLe.rows (by first | rfl | (simp; done) | assumption | (simp [dsub_eq] <;> omega) | omega) (fun _ _ => rfl) | exact VLe.rows (by simp [dsub_eq] <;> omega) rows_take | exact VLe.rows (by simp [dsub_eq] <;> omega) rows_dt | exact VLe.rows (by simp [dsub_eq] <;> omega) rows_vt | exact VLe.rows (by simp) (fun i _ => by simp [viewRow_eq, Nat.add_comm]) | refine VLe.aggL ?_ | (refine BLe.rows rfl ?_ fun _ _ => rfl; (first | rfl | (simp; done) | assumption | (simp [dsub_eq] <;> omega) | omega)) | refine BLe.box ?_ | (simp; done))

noncomputable def laws_markTreeWordS_m (a0 : (List TreeWord)) (a1 : Int) : Option (Int × (List TreeWord)) :=
 bd (lp (σ := List TreeWord × Int × Int) (β := (Int × (List TreeWord) × Nat)) (fun s1 =>
(if (decide (s1.2.2 < ((s1.1.length : Nat) : Int))) = true then
 gd ((0 : Int) ≤ s1.2.2 ∧ s1.2.2 < ((s1.1.length : Nat) : Int)) <|
 bd (some (s1.1.set s1.2.2.toNat (⟨s1.2.1, (s1.1.getD s1.2.2.toNat default).End, ((s1.1.getD s1.2.2.toNat default).Vector)⟩ : TreeWord))) fun x6 =>
 gd ((0 : Int) ≤ s1.2.2 ∧ s1.2.2 < ((s1.1.length : Nat) : Int)) <|
 bd (some (x6.set s1.2.2.toNat (⟨(x6.getD s1.2.2.toNat default).Link, IntKind.i64.wrap (s1.2.1 + 1), ((x6.getD s1.2.2.toNat default).Vector)⟩ : TreeWord))) fun x8 =>
 gd ((0 : Int) ≤ s1.2.2 ∧ s1.2.2 < ((s1.1.length : Nat) : Int)) <|
 bd (some (x8.set s1.2.2.toNat ({ (x8.getD s1.2.2.toNat default) with Vector := { ((x8.getD s1.2.2.toNat default).Vector) with Root := IntKind.i64.wrap ((IntKind.i64.wrap (s1.2.1 + 1)) + 1) } }))) fun x10 =>
 gd ((0 : Int) ≤ s1.2.2 ∧ s1.2.2 < ((s1.1.length : Nat) : Int)) <|
 bd (some (x10.set s1.2.2.toNat ({ (x10.getD s1.2.2.toNat default) with Vector := { ((x10.getD s1.2.2.toNat default).Vector) with Cost := IntKind.i64.wrap ((IntKind.i64.wrap ((IntKind.i64.wrap (s1.2.1 + 1)) + 1)) + 1) } }))) fun x12 =>
 gd ((0 : Int) ≤ s1.2.2 ∧ s1.2.2 < ((s1.1.length : Nat) : Int)) <|
 bd (some (x12.set s1.2.2.toNat ({ (x12.getD s1.2.2.toNat default) with Vector := { ((x12.getD s1.2.2.toNat default).Vector) with Age := IntKind.i64.wrap ((IntKind.i64.wrap ((IntKind.i64.wrap ((IntKind.i64.wrap (s1.2.1 + 1)) + 1)) + 1)) + 1) } }))) fun x14 =>
 some (.inl (x14, IntKind.i64.wrap ((IntKind.i64.wrap ((IntKind.i64.wrap ((IntKind.i64.wrap ((IntKind.i64.wrap (s1.2.1 + 1)) + 1)) + 1)) + 1)) + 1), IntKind.i64.wrap (s1.2.2 + 1)))
else
 some (.inr (s1.2.1, s1.1, s1.1.length)))) (a0, a1, 0)) fun x4 =>
 gd (x4.2.2 = a0.length) <|
 some (x4.1, x4.2.1)

theorem laws_markTreeWordS_c {a0 : (List TreeWord)} {a1 : Int} {r : Int × (List TreeWord)} (h : laws_markTreeWordS_m a0 a1 = some r) : EffC Try.prog 65 [.osl 9000 0 a0.length, .d (.int .i64 a1)] [(9000, .arr 113 5 a0.length (rows TreeWord.enc a0))] (.d (.int .i64 r.1)) [(9000, .arr 113 5 a0.length (rows TreeWord.enc r.2))] := by
  refine effC_m tOk (fn := Try.f65) (c := codeOf Try.f65) rfl rfl (by kernel_rfl) rfl rfl rfl rfl ?_
  unfold laws_markTreeWordS_m at h
  conv => whnf
  refine seq_in tOk ?_
  conv => whnf
  obtain ⟨x4, hx4, h⟩ := bd_some h
  refine loop_m tOk hx4 (fun s1 => ⟨0, 51, [(0, .osl 9000 0 s1.1.length), (1, .d (.int .i64 s1.2.1)), (5, .d (.int .i64 s1.2.2))], [], [(9000, .arr 113 5 s1.1.length (rows TreeWord.enc s1.1))], [⟨[(0, .osl 9000 0 s1.1.length)], []⟩]⟩) ?_ ?_
  · refine le_mk ?_ ?_ ?_ <;> (repeat' first | ((conv => whnf); first | exact trivial | refine And.intro ?_ ?_ | exact BLe.refl _ | exact VLe.refl _) | exact trivial | exact rfl | refine And.intro ?_ ?_ | exact BLe.refl _ | exact VLe.refl _ | exact VLe.any _ | exact VLe.nil_osl rfl | exact VLe.nil_sl rfl | exact VLe.built rfl rfl | (refine VLe.osl rfl ?_; (first | rfl | (simp; done) | assumption | (simp [dsub_eq] <;> omega) | omega)) | exact VLe.rows (by first | rfl | (simp; done) | assumption | (simp [dsub_eq] <;> omega) | omega) (fun _ _ => rfl) | exact VLe.rows (by simp [dsub_eq] <;> omega) rows_take | exact VLe.rows (by simp [dsub_eq] <;> omega) rows_dt | exact VLe.rows (by simp [dsub_eq] <;> omega) rows_vt | exact VLe.rows (by simp) (fun i _ => by simp [viewRow_eq, Nat.add_comm]) | refine VLe.aggL ?_ | (refine BLe.rows rfl ?_ fun _ _ => rfl; (first | rfl | (simp; done) | assumption | (simp [dsub_eq] <;> omega) | omega)) | (refine BLe.rows rfl rfl ?_; first | exact rows_take) | refine BLe.box ?_)
  · clear hx4
    intro s1 y2 g3 hy2
    conv => whnf
    refine seq_in tOk ?_
    conv => whnf
    refine And.intro (fun e => ?_) (fun e => ?_)
    · replace g3 := ite_t g3 e; clear e
      conv => whnf
      refine seq_in tOk ?_
      conv => whnf
      obtain ⟨g5, g3⟩ := gd_some g3
      refine And.intro g5 ?_
      clear g5
      conv => whnf
      obtain ⟨x6, hx6, g3⟩ := bd_some g3
      replace hx6 := Option.some.inj hx6
      have hlx6 := set_len hx6
      try simp only [List.length_set] at hlx6
      refine ⟨rows TreeWord.enc x6, store_rows2 hx6 ((by first | rfl | (simp; done) | assumption | (simp [dsub_eq] <;> omega) | omega)) rfl, ?_⟩
      conv => whnf
      obtain ⟨g7, g3⟩ := gd_some g3
      refine And.intro g7 ?_
      clear g7
      conv => whnf
      obtain ⟨x8, hx8, g3⟩ := bd_some g3
      replace hx8 := Option.some.inj hx8
      have hlx8 := set_len hx8
      try simp only [List.length_set] at hlx8
      refine ⟨rows TreeWord.enc x8, store_rows2 hx8 ((by first | rfl | (simp; done) | assumption | (simp [dsub_eq] <;> omega) | omega)) rfl, ?_⟩
      conv => whnf
      obtain ⟨g9, g3⟩ := gd_some g3
      refine And.intro g9 ?_
      clear g9
      conv => whnf
      obtain ⟨x10, hx10, g3⟩ := bd_some g3
      replace hx10 := Option.some.inj hx10
      have hlx10 := set_len hx10
      try simp only [List.length_set] at hlx10
      refine ⟨rows TreeWord.enc x10, store_rows2 hx10 ((by first | rfl | (simp; done) | assumption | (simp [dsub_eq] <;> omega) | omega)) rfl, ?_⟩
      conv => whnf
      obtain ⟨g11, g3⟩ := gd_some g3
      refine And.intro g11 ?_
      clear g11
      conv => whnf
      obtain ⟨x12, hx12, g3⟩ := bd_some g3
      replace hx12 := Option.some.inj hx12
      have hlx12 := set_len hx12
      try simp only [List.length_set] at hlx12
      refine ⟨rows TreeWord.enc x12, store_rows2 hx12 ((by first | rfl | (simp; done) | assumption | (simp [dsub_eq] <;> omega) | omega)) rfl, ?_⟩
      conv => whnf
      obtain ⟨g13, g3⟩ := gd_some g3
      refine And.intro g13 ?_
      clear g13
      conv => whnf
      obtain ⟨x14, hx14, g3⟩ := bd_some g3
      replace hx14 := Option.some.inj hx14
      have hlx14 := set_len hx14
      try simp only [List.length_set] at hlx14
      refine ⟨rows TreeWord.enc x14, store_rows2 hx14 ((by first | rfl | (simp; done) | assumption | (simp [dsub_eq] <;> omega) | omega)) rfl, ?_⟩
      conv => whnf
      obtain rfl := Option.some.inj g3
      refine ⟨_, rfl, le_mk ?_ ?_ ?_⟩ <;> (repeat' first | ((conv => whnf); first | exact trivial | refine And.intro ?_ ?_ | exact BLe.refl _ | exact VLe.refl _) | exact trivial | exact rfl | refine And.intro ?_ ?_ | exact BLe.refl _ | exact VLe.refl _ | exact VLe.any _ | exact VLe.nil_osl rfl | exact VLe.nil_sl rfl | exact VLe.built rfl rfl | (refine VLe.osl rfl ?_; (first | rfl | (simp; done) | assumption | (simp [dsub_eq] <;> omega) | omega)) | exact VLe.rows (by first | rfl | (simp; done) | assumption | (simp [dsub_eq] <;> omega) | omega) (fun _ _ => rfl) | exact VLe.rows (by simp [dsub_eq] <;> omega) rows_take | exact VLe.rows (by simp [dsub_eq] <;> omega) rows_dt | exact VLe.rows (by simp [dsub_eq] <;> omega) rows_vt | exact VLe.rows (by simp) (fun i _ => by simp [viewRow_eq, Nat.add_comm]) | refine VLe.aggL ?_ | (refine BLe.rows rfl ?_ fun _ _ => rfl; (first | rfl | (simp; done) | assumption | (simp [dsub_eq] <;> omega) | omega)) | (refine BLe.rows rfl rfl ?_; first | exact rows_take) | refine BLe.box ?_)
    · replace g3 := ite_f g3 e; clear e
      conv => whnf
      obtain rfl := Option.some.inj g3
      obtain rfl := hy2 _ rfl
      obtain ⟨g16, h⟩ := gd_some h
      obtain rfl := Option.some.inj h
      refine ⟨⟨0, 51, [(4, .d (.int .i64 (s1.2.1, s1.1, s1.1.length).1))], [], [(9000, .arr 113 5 a0.length (rows TreeWord.enc (s1.2.1, s1.1, s1.1.length).2.1))], [⟨[(0, .osl 9000 0 a0.length)], []⟩]⟩, ?_, And.intro rfl (And.intro ?_ ?_)⟩
      · refine LE.trans (S' := ⟨0, 51, [(4, .d (.int .i64 (s1.2.1, s1.1, s1.1.length).1))], [], [(9000, .arr 113 5 (s1.2.1, s1.1, s1.1.length).2.2 (rows TreeWord.enc (s1.2.1, s1.1, s1.1.length).2.1))], [⟨[(0, .osl 9000 0 (s1.2.1, s1.1, s1.1.length).2.2)], []⟩]⟩) (le_mk ?_ ?_ ?_) (le_mk ?_ ?_ ?_) <;> (repeat' first | ((conv => whnf); first | exact trivial | refine And.intro ?_ ?_ | exact BLe.refl _ | exact VLe.refl _) | exact trivial | exact rfl | refine And.intro ?_ ?_ | exact BLe.refl _ | exact VLe.refl _ | exact VLe.any _ | exact VLe.nil_osl rfl | exact VLe.nil_sl rfl | exact VLe.built rfl rfl | (refine VLe.osl rfl ?_; (first | rfl | (simp; done) | assumption | (simp [dsub_eq] <;> omega) | omega)) | exact VLe.rows (by first | rfl | (simp; done) | assumption | (simp [dsub_eq] <;> omega) | omega) (fun _ _ => rfl) | exact VLe.rows (by simp [dsub_eq] <;> omega) rows_take | exact VLe.rows (by simp [dsub_eq] <;> omega) rows_dt | exact VLe.rows (by simp [dsub_eq] <;> omega) rows_vt | exact VLe.rows (by simp) (fun i _ => by simp [viewRow_eq, Nat.add_comm]) | refine VLe.aggL ?_ | (refine BLe.rows rfl ?_ fun _ _ => rfl; (first | rfl | (simp; done) | assumption | (simp [dsub_eq] <;> omega) | omega)) | (refine BLe.rows rfl rfl ?_; first | exact rows_take) | refine BLe.box ?_)
      · (repeat' first | ((conv => whnf); first | exact trivial | refine And.intro ?_ ?_ | exact BLe.refl _ | exact VLe.refl _) | exact trivial | exact rfl | refine And.intro ?_ ?_ | exact BLe.refl _ | exact VLe.refl _ | exact VLe.any _ | exact VLe.nil_osl rfl | exact VLe.nil_sl rfl | exact VLe.built rfl rfl | (refine VLe.osl rfl ?_; (first | rfl | (simp; done) | assumption | (simp [dsub_eq] <;> omega) | omega)) | exact VLe.rows (by first | rfl | (simp; done) | assumption | (simp [dsub_eq] <;> omega) | omega) (fun _ _ => rfl) | exact VLe.rows (by simp [dsub_eq] <;> omega) rows_take | exact VLe.rows (by simp [dsub_eq] <;> omega) rows_dt | exact VLe.rows (by simp [dsub_eq] <;> omega) rows_vt | exact VLe.rows (by simp) (fun i _ => by simp [viewRow_eq, Nat.add_comm]) | refine VLe.aggL ?_ | (refine BLe.rows rfl ?_ fun _ _ => rfl; (first | rfl | (simp; done) | assumption | (simp [dsub_eq] <;> omega) | omega)) | refine BLe.box ?_ | (simp; done))
      · (repeat' first | ((conv => whnf); first | exact trivial | refine And.intro ?_ ?_ | exact BLe.refl _ | exact VLe.refl _) | exact trivial | exact rfl | refine And.intro ?_ ?_ | exact BLe.refl _ | exact VLe.refl _ | exact VLe.any _ | exact VLe.nil_osl rfl | exact VLe.nil_sl rfl | exact VLe.built rfl rfl | (refine VLe.osl rfl ?_; (first | rfl | (simp; done) | assumption | (simp [dsub_eq] <;> omega) | omega)) | exact VLe.rows (by first | rfl | (simp; done) | assumption | (simp [dsub_eq] <;> omega) | omega) (fun _ _ => rfl) | exact VLe.rows (by simp [dsub_eq] <;> omega) rows_take | exact VLe.rows (by simp [dsub_eq] <;> omega) rows_dt | exact VLe.rows (by simp [dsub_eq] <;> omega) rows_vt | exact VLe.rows (by simp) (fun i _ => by simp [viewRow_eq, Nat.add_comm]) | refine VLe.aggL ?_ | (refine BLe.rows rfl ?_ fun _ _ => rfl; (first | rfl | (simp; done) | assumption | (simp [dsub_eq] <;> omega) | omega)) | refine BLe.box ?_ | (simp; done))

noncomputable def laws_markTreeWorld_m (a0 : TreeWorld) (a1 : Int) : Option (Int × TreeWorld) :=
 bd (laws_markTreeBridgeS_m a0.Bridges a1) fun x1 =>
 gd (x1.2.length = a0.Bridges.length) <|
 bd (laws_markTreeLinkS_m a0.Links x1.1) fun x2 =>
 gd (x2.2.length = a0.Links.length) <|
 bd (laws_markIntS_m a0.Down x2.1) fun x3 =>
 gd (x3.2.length = a0.Down.length) <|
 bd (laws_markTreeSlotS_m a0.AtA x3.1) fun x4 =>
 gd (x4.2.length = a0.AtA.length) <|
 bd (laws_markTreeSlotS_m a0.AtB x4.1) fun x5 =>
 gd (x5.2.length = a0.AtB.length) <|
 bd (laws_markTreeWordS_m a0.Radio x5.1) fun x6 =>
 gd (x6.2.length = a0.Radio.length) <|
 some (x6.1, (⟨x1.2, x2.2, x3.2, x4.2, x5.2, x6.2⟩ : TreeWorld))

theorem laws_markTreeWorld_c {a0 : TreeWorld} {a1 : Int} {r : Int × TreeWorld} (h : laws_markTreeWorld_m a0 a1 = some r) : EffC Try.prog 15 [.agg [.osl 9000 0 a0.Bridges.length, .osl 9001 0 a0.Links.length, .osl 9002 0 a0.Down.length, .osl 9003 0 a0.AtA.length, .osl 9004 0 a0.AtB.length, .osl 9005 0 a0.Radio.length], .d (.int .i64 a1)] [(9000, .arr 58 6 a0.Bridges.length (rows TreeBridge.enc a0.Bridges)), (9001, .arr 61 3 a0.Links.length (rows TreeLink.enc a0.Links)), (9002, .arr 3 1 a0.Down.length (rows encInt a0.Down)), (9003, .arr 63 4 a0.AtA.length (rows TreeSlot.enc a0.AtA)), (9004, .arr 63 4 a0.AtB.length (rows TreeSlot.enc a0.AtB)), (9005, .arr 113 5 a0.Radio.length (rows TreeWord.enc a0.Radio))] (.d (.int .i64 r.1)) [(9000, .arr 58 6 a0.Bridges.length (rows TreeBridge.enc r.2.Bridges)), (9001, .arr 61 3 a0.Links.length (rows TreeLink.enc r.2.Links)), (9002, .arr 3 1 a0.Down.length (rows encInt r.2.Down)), (9003, .arr 63 4 a0.AtA.length (rows TreeSlot.enc r.2.AtA)), (9004, .arr 63 4 a0.AtB.length (rows TreeSlot.enc r.2.AtB)), (9005, .arr 113 5 a0.Radio.length (rows TreeWord.enc r.2.Radio))] := by
  refine effC_m tOk (fn := Try.f15) (c := codeOf Try.f15) rfl rfl (by kernel_rfl) rfl rfl rfl rfl ?_
  unfold laws_markTreeWorld_m at h
  conv => whnf
  obtain ⟨x1, hx1, h⟩ := bd_some h
  obtain ⟨g12, h⟩ := gd_some h
  refine callE [(9000, 9000)] 0 (laws_markTreeBridgeS_c hx1) (by (repeat' first | ((conv => whnf); first | exact trivial | refine And.intro ?_ ?_ | exact BLe.refl _ | exact VLe.refl _) | exact trivial | refine And.intro ?_ ?_ | exact VLe.refl _ | exact VLe.any _ | exact VLe.nil_osl rfl | exact VLe.nil_sl rfl | exact VLe.built rfl rfl | (refine VLe.osl rfl ?_; (first | rfl | (simp; done) | assumption | (simp [dsub_eq] <;> omega) | omega)) | exact VLe.rows (by first | rfl | (simp; done) | assumption | (simp [dsub_eq] <;> omega) | omega) (fun _ _ => rfl) | exact VLe.rows (by simp [dsub_eq] <;> omega) rows_take | exact VLe.rows (by simp [dsub_eq] <;> omega) rows_dt | exact VLe.rows (by simp [dsub_eq] <;> omega) rows_vt | exact VLe.rows (by simp) (fun i _ => by simp [viewRow_eq, Nat.add_comm]) | refine VLe.aggL ?_)) (by (repeat' first | ((conv => whnf); first | exact trivial | refine And.intro ?_ ?_ | exact BLe.refl _ | exact VLe.refl _) | exact trivial | exact rfl | refine And.intro ?_ ?_ | exact BLe.refl _ | exact VLe.refl _ | exact VLe.any _ | exact VLe.nil_osl rfl | exact VLe.nil_sl rfl | exact VLe.built rfl rfl | (refine VLe.osl rfl ?_; (first | rfl | (simp; done) | assumption | (simp [dsub_eq] <;> omega) | omega)) | exact VLe.rows (by first | rfl | (simp; done) | assumption | (simp [dsub_eq] <;> omega) | omega) (fun _ _ => rfl) | exact VLe.rows (by simp [dsub_eq] <;> omega) rows_take | exact VLe.rows (by simp [dsub_eq] <;> omega) rows_dt | exact VLe.rows (by simp [dsub_eq] <;> omega) rows_vt | exact VLe.rows (by simp) (fun i _ => by simp [viewRow_eq, Nat.add_comm]) | refine VLe.aggL ?_ | (refine BLe.rows rfl ?_ fun _ _ => rfl; (first | rfl | (simp; done) | assumption | (simp [dsub_eq] <;> omega) | omega)) | refine BLe.box ?_ | (simp; done))) rfl rfl ?_
  conv => whnf
  obtain ⟨x2, hx2, h⟩ := bd_some h
  obtain ⟨g11, h⟩ := gd_some h
  refine callE [(9000, 9001)] 0 (laws_markTreeLinkS_c hx2) (by (repeat' first | ((conv => whnf); first | exact trivial | refine And.intro ?_ ?_ | exact BLe.refl _ | exact VLe.refl _) | exact trivial | refine And.intro ?_ ?_ | exact VLe.refl _ | exact VLe.any _ | exact VLe.nil_osl rfl | exact VLe.nil_sl rfl | exact VLe.built rfl rfl | (refine VLe.osl rfl ?_; (first | rfl | (simp; done) | assumption | (simp [dsub_eq] <;> omega) | omega)) | exact VLe.rows (by first | rfl | (simp; done) | assumption | (simp [dsub_eq] <;> omega) | omega) (fun _ _ => rfl) | exact VLe.rows (by simp [dsub_eq] <;> omega) rows_take | exact VLe.rows (by simp [dsub_eq] <;> omega) rows_dt | exact VLe.rows (by simp [dsub_eq] <;> omega) rows_vt | exact VLe.rows (by simp) (fun i _ => by simp [viewRow_eq, Nat.add_comm]) | refine VLe.aggL ?_)) (by (repeat' first | ((conv => whnf); first | exact trivial | refine And.intro ?_ ?_ | exact BLe.refl _ | exact VLe.refl _) | exact trivial | exact rfl | refine And.intro ?_ ?_ | exact BLe.refl _ | exact VLe.refl _ | exact VLe.any _ | exact VLe.nil_osl rfl | exact VLe.nil_sl rfl | exact VLe.built rfl rfl | (refine VLe.osl rfl ?_; (first | rfl | (simp; done) | assumption | (simp [dsub_eq] <;> omega) | omega)) | exact VLe.rows (by first | rfl | (simp; done) | assumption | (simp [dsub_eq] <;> omega) | omega) (fun _ _ => rfl) | exact VLe.rows (by simp [dsub_eq] <;> omega) rows_take | exact VLe.rows (by simp [dsub_eq] <;> omega) rows_dt | exact VLe.rows (by simp [dsub_eq] <;> omega) rows_vt | exact VLe.rows (by simp) (fun i _ => by simp [viewRow_eq, Nat.add_comm]) | refine VLe.aggL ?_ | (refine BLe.rows rfl ?_ fun _ _ => rfl; (first | rfl | (simp; done) | assumption | (simp [dsub_eq] <;> omega) | omega)) | refine BLe.box ?_ | (simp; done))) rfl rfl ?_
  conv => whnf
  obtain ⟨x3, hx3, h⟩ := bd_some h
  obtain ⟨g10, h⟩ := gd_some h
  refine callE [(9000, 9002)] 0 (laws_markIntS_c hx3) (by (repeat' first | ((conv => whnf); first | exact trivial | refine And.intro ?_ ?_ | exact BLe.refl _ | exact VLe.refl _) | exact trivial | refine And.intro ?_ ?_ | exact VLe.refl _ | exact VLe.any _ | exact VLe.nil_osl rfl | exact VLe.nil_sl rfl | exact VLe.built rfl rfl | (refine VLe.osl rfl ?_; (first | rfl | (simp; done) | assumption | (simp [dsub_eq] <;> omega) | omega)) | exact VLe.rows (by first | rfl | (simp; done) | assumption | (simp [dsub_eq] <;> omega) | omega) (fun _ _ => rfl) | exact VLe.rows (by simp [dsub_eq] <;> omega) rows_take | exact VLe.rows (by simp [dsub_eq] <;> omega) rows_dt | exact VLe.rows (by simp [dsub_eq] <;> omega) rows_vt | exact VLe.rows (by simp) (fun i _ => by simp [viewRow_eq, Nat.add_comm]) | refine VLe.aggL ?_)) (by (repeat' first | ((conv => whnf); first | exact trivial | refine And.intro ?_ ?_ | exact BLe.refl _ | exact VLe.refl _) | exact trivial | exact rfl | refine And.intro ?_ ?_ | exact BLe.refl _ | exact VLe.refl _ | exact VLe.any _ | exact VLe.nil_osl rfl | exact VLe.nil_sl rfl | exact VLe.built rfl rfl | (refine VLe.osl rfl ?_; (first | rfl | (simp; done) | assumption | (simp [dsub_eq] <;> omega) | omega)) | exact VLe.rows (by first | rfl | (simp; done) | assumption | (simp [dsub_eq] <;> omega) | omega) (fun _ _ => rfl) | exact VLe.rows (by simp [dsub_eq] <;> omega) rows_take | exact VLe.rows (by simp [dsub_eq] <;> omega) rows_dt | exact VLe.rows (by simp [dsub_eq] <;> omega) rows_vt | exact VLe.rows (by simp) (fun i _ => by simp [viewRow_eq, Nat.add_comm]) | refine VLe.aggL ?_ | (refine BLe.rows rfl ?_ fun _ _ => rfl; (first | rfl | (simp; done) | assumption | (simp [dsub_eq] <;> omega) | omega)) | refine BLe.box ?_ | (simp; done))) rfl rfl ?_
  conv => whnf
  obtain ⟨x4, hx4, h⟩ := bd_some h
  obtain ⟨g9, h⟩ := gd_some h
  refine callE [(9000, 9003)] 0 (laws_markTreeSlotS_c hx4) (by (repeat' first | ((conv => whnf); first | exact trivial | refine And.intro ?_ ?_ | exact BLe.refl _ | exact VLe.refl _) | exact trivial | refine And.intro ?_ ?_ | exact VLe.refl _ | exact VLe.any _ | exact VLe.nil_osl rfl | exact VLe.nil_sl rfl | exact VLe.built rfl rfl | (refine VLe.osl rfl ?_; (first | rfl | (simp; done) | assumption | (simp [dsub_eq] <;> omega) | omega)) | exact VLe.rows (by first | rfl | (simp; done) | assumption | (simp [dsub_eq] <;> omega) | omega) (fun _ _ => rfl) | exact VLe.rows (by simp [dsub_eq] <;> omega) rows_take | exact VLe.rows (by simp [dsub_eq] <;> omega) rows_dt | exact VLe.rows (by simp [dsub_eq] <;> omega) rows_vt | exact VLe.rows (by simp) (fun i _ => by simp [viewRow_eq, Nat.add_comm]) | refine VLe.aggL ?_)) (by (repeat' first | ((conv => whnf); first | exact trivial | refine And.intro ?_ ?_ | exact BLe.refl _ | exact VLe.refl _) | exact trivial | exact rfl | refine And.intro ?_ ?_ | exact BLe.refl _ | exact VLe.refl _ | exact VLe.any _ | exact VLe.nil_osl rfl | exact VLe.nil_sl rfl | exact VLe.built rfl rfl | (refine VLe.osl rfl ?_; (first | rfl | (simp; done) | assumption | (simp [dsub_eq] <;> omega) | omega)) | exact VLe.rows (by first | rfl | (simp; done) | assumption | (simp [dsub_eq] <;> omega) | omega) (fun _ _ => rfl) | exact VLe.rows (by simp [dsub_eq] <;> omega) rows_take | exact VLe.rows (by simp [dsub_eq] <;> omega) rows_dt | exact VLe.rows (by simp [dsub_eq] <;> omega) rows_vt | exact VLe.rows (by simp) (fun i _ => by simp [viewRow_eq, Nat.add_comm]) | refine VLe.aggL ?_ | (refine BLe.rows rfl ?_ fun _ _ => rfl; (first | rfl | (simp; done) | assumption | (simp [dsub_eq] <;> omega) | omega)) | refine BLe.box ?_ | (simp; done))) rfl rfl ?_
  conv => whnf
  obtain ⟨x5, hx5, h⟩ := bd_some h
  obtain ⟨g8, h⟩ := gd_some h
  refine callE [(9000, 9004)] 0 (laws_markTreeSlotS_c hx5) (by (repeat' first | ((conv => whnf); first | exact trivial | refine And.intro ?_ ?_ | exact BLe.refl _ | exact VLe.refl _) | exact trivial | refine And.intro ?_ ?_ | exact VLe.refl _ | exact VLe.any _ | exact VLe.nil_osl rfl | exact VLe.nil_sl rfl | exact VLe.built rfl rfl | (refine VLe.osl rfl ?_; (first | rfl | (simp; done) | assumption | (simp [dsub_eq] <;> omega) | omega)) | exact VLe.rows (by first | rfl | (simp; done) | assumption | (simp [dsub_eq] <;> omega) | omega) (fun _ _ => rfl) | exact VLe.rows (by simp [dsub_eq] <;> omega) rows_take | exact VLe.rows (by simp [dsub_eq] <;> omega) rows_dt | exact VLe.rows (by simp [dsub_eq] <;> omega) rows_vt | exact VLe.rows (by simp) (fun i _ => by simp [viewRow_eq, Nat.add_comm]) | refine VLe.aggL ?_)) (by (repeat' first | ((conv => whnf); first | exact trivial | refine And.intro ?_ ?_ | exact BLe.refl _ | exact VLe.refl _) | exact trivial | exact rfl | refine And.intro ?_ ?_ | exact BLe.refl _ | exact VLe.refl _ | exact VLe.any _ | exact VLe.nil_osl rfl | exact VLe.nil_sl rfl | exact VLe.built rfl rfl | (refine VLe.osl rfl ?_; (first | rfl | (simp; done) | assumption | (simp [dsub_eq] <;> omega) | omega)) | exact VLe.rows (by first | rfl | (simp; done) | assumption | (simp [dsub_eq] <;> omega) | omega) (fun _ _ => rfl) | exact VLe.rows (by simp [dsub_eq] <;> omega) rows_take | exact VLe.rows (by simp [dsub_eq] <;> omega) rows_dt | exact VLe.rows (by simp [dsub_eq] <;> omega) rows_vt | exact VLe.rows (by simp) (fun i _ => by simp [viewRow_eq, Nat.add_comm]) | refine VLe.aggL ?_ | (refine BLe.rows rfl ?_ fun _ _ => rfl; (first | rfl | (simp; done) | assumption | (simp [dsub_eq] <;> omega) | omega)) | refine BLe.box ?_ | (simp; done))) rfl rfl ?_
  conv => whnf
  obtain ⟨x6, hx6, h⟩ := bd_some h
  obtain ⟨g7, h⟩ := gd_some h
  refine callE [(9000, 9005)] 0 (laws_markTreeWordS_c hx6) (by (repeat' first | ((conv => whnf); first | exact trivial | refine And.intro ?_ ?_ | exact BLe.refl _ | exact VLe.refl _) | exact trivial | refine And.intro ?_ ?_ | exact VLe.refl _ | exact VLe.any _ | exact VLe.nil_osl rfl | exact VLe.nil_sl rfl | exact VLe.built rfl rfl | (refine VLe.osl rfl ?_; (first | rfl | (simp; done) | assumption | (simp [dsub_eq] <;> omega) | omega)) | exact VLe.rows (by first | rfl | (simp; done) | assumption | (simp [dsub_eq] <;> omega) | omega) (fun _ _ => rfl) | exact VLe.rows (by simp [dsub_eq] <;> omega) rows_take | exact VLe.rows (by simp [dsub_eq] <;> omega) rows_dt | exact VLe.rows (by simp [dsub_eq] <;> omega) rows_vt | exact VLe.rows (by simp) (fun i _ => by simp [viewRow_eq, Nat.add_comm]) | refine VLe.aggL ?_)) (by (repeat' first | ((conv => whnf); first | exact trivial | refine And.intro ?_ ?_ | exact BLe.refl _ | exact VLe.refl _) | exact trivial | exact rfl | refine And.intro ?_ ?_ | exact BLe.refl _ | exact VLe.refl _ | exact VLe.any _ | exact VLe.nil_osl rfl | exact VLe.nil_sl rfl | exact VLe.built rfl rfl | (refine VLe.osl rfl ?_; (first | rfl | (simp; done) | assumption | (simp [dsub_eq] <;> omega) | omega)) | exact VLe.rows (by first | rfl | (simp; done) | assumption | (simp [dsub_eq] <;> omega) | omega) (fun _ _ => rfl) | exact VLe.rows (by simp [dsub_eq] <;> omega) rows_take | exact VLe.rows (by simp [dsub_eq] <;> omega) rows_dt | exact VLe.rows (by simp [dsub_eq] <;> omega) rows_vt | exact VLe.rows (by simp) (fun i _ => by simp [viewRow_eq, Nat.add_comm]) | refine VLe.aggL ?_ | (refine BLe.rows rfl ?_ fun _ _ => rfl; (first | rfl | (simp; done) | assumption | (simp [dsub_eq] <;> omega) | omega)) | refine BLe.box ?_ | (simp; done))) rfl rfl ?_
  conv => whnf
  obtain rfl := Option.some.inj h
  refine ⟨⟨0, 30, [(4, .d (.int .i64 x6.1))], [], [(9000, .arr 58 6 a0.Bridges.length (rows TreeBridge.enc x1.2)), (9001, .arr 61 3 a0.Links.length (rows TreeLink.enc x2.2)), (9002, .arr 3 1 a0.Down.length (rows encInt x3.2)), (9003, .arr 63 4 a0.AtA.length (rows TreeSlot.enc x4.2)), (9004, .arr 63 4 a0.AtB.length (rows TreeSlot.enc x5.2)), (9005, .arr 113 5 a0.Radio.length (rows TreeWord.enc x6.2))], [⟨[(0, .osl 9000 0 a0.Bridges.length), (1, .osl 9001 0 a0.Links.length), (2, .osl 9002 0 a0.Down.length), (3, .osl 9003 0 a0.AtA.length), (4, .osl 9004 0 a0.AtB.length), (5, .osl 9005 0 a0.Radio.length)], []⟩]⟩, ?_, And.intro rfl (And.intro ?_ ?_)⟩
  · refine le_mk ?_ ?_ ?_ <;> (repeat' first | ((conv => whnf); first | exact trivial | refine And.intro ?_ ?_ | exact BLe.refl _ | exact VLe.refl _) | exact trivial | exact rfl | refine And.intro ?_ ?_ | exact BLe.refl _ | exact VLe.refl _ | exact VLe.any _ | exact VLe.nil_osl rfl | exact VLe.nil_sl rfl | exact VLe.built rfl rfl | (refine VLe.osl rfl ?_; (first | rfl | (simp; done) | assumption | (simp [dsub_eq] <;> omega) | omega)) | exact VLe.rows (by first | rfl | (simp; done) | assumption | (simp [dsub_eq] <;> omega) | omega) (fun _ _ => rfl) | exact VLe.rows (by simp [dsub_eq] <;> omega) rows_take | exact VLe.rows (by simp [dsub_eq] <;> omega) rows_dt | exact VLe.rows (by simp [dsub_eq] <;> omega) rows_vt | exact VLe.rows (by simp) (fun i _ => by simp [viewRow_eq, Nat.add_comm]) | refine VLe.aggL ?_ | (refine BLe.rows rfl ?_ fun _ _ => rfl; (first | rfl | (simp; done) | assumption | (simp [dsub_eq] <;> omega) | omega)) | (refine BLe.rows rfl rfl ?_; first | exact rows_take) | refine BLe.box ?_)
  · (repeat' first | ((conv => whnf); first | exact trivial | refine And.intro ?_ ?_ | exact BLe.refl _ | exact VLe.refl _) | exact trivial | exact rfl | refine And.intro ?_ ?_ | exact BLe.refl _ | exact VLe.refl _ | exact VLe.any _ | exact VLe.nil_osl rfl | exact VLe.nil_sl rfl | exact VLe.built rfl rfl | (refine VLe.osl rfl ?_; (first | rfl | (simp; done) | assumption | (simp [dsub_eq] <;> omega) | omega)) | exact VLe.rows (by first | rfl | (simp; done) | assumption | (simp [dsub_eq] <;> omega) | omega) (fun _ _ => rfl) | exact VLe.rows (by simp [dsub_eq] <;> omega) rows_take | exact VLe.rows (by simp [dsub_eq] <;> omega) rows_dt | exact VLe.rows (by simp [dsub_eq] <;> omega) rows_vt | exact VLe.rows (by simp) (fun i _ => by simp [viewRow_eq, Nat.add_comm]) | refine VLe.aggL ?_ | (refine BLe.rows rfl ?_ fun _ _ => rfl; (first | rfl | (simp; done) | assumption | (simp [dsub_eq] <;> omega) | omega)) | refine BLe.box ?_ | (simp; done))
  · (repeat' first | ((conv => whnf); first | exact trivial | refine And.intro ?_ ?_ | exact BLe.refl _ | exact VLe.refl _) | exact trivial | exact rfl | refine And.intro ?_ ?_ | exact BLe.refl _ | exact VLe.refl _ | exact VLe.any _ | exact VLe.nil_osl rfl | exact VLe.nil_sl rfl | exact VLe.built rfl rfl | (refine VLe.osl rfl ?_; (first | rfl | (simp; done) | assumption | (simp [dsub_eq] <;> omega) | omega)) | exact VLe.rows (by first | rfl | (simp; done) | assumption | (simp [dsub_eq] <;> omega) | omega) (fun _ _ => rfl) | exact VLe.rows (by simp [dsub_eq] <;> omega) rows_take | exact VLe.rows (by simp [dsub_eq] <;> omega) rows_dt | exact VLe.rows (by simp [dsub_eq] <;> omega) rows_vt | exact VLe.rows (by simp) (fun i _ => by simp [viewRow_eq, Nat.add_comm]) | refine VLe.aggL ?_ | (refine BLe.rows rfl ?_ fun _ _ => rfl; (first | rfl | (simp; done) | assumption | (simp [dsub_eq] <;> omega) | omega)) | refine BLe.box ?_ | (simp; done))

noncomputable def laws_heldIntS_m (a0 : (List Int)) (a1 : Int) : Option (Int) :=
 bd (lp (σ := Int × Int) (β := (Unit ⊕ Int)) (fun s1 =>
(if (decide (s1.2 < ((a0.length : Nat) : Int))) = true then
 gd ((0 : Int) ≤ s1.2 ∧ s1.2 < ((a0.length : Nat) : Int)) <|
(if ((a0.getD s1.2.toNat default) != s1.1) = true then
 some (.inr (.inl ()))
else
 some (.inl (IntKind.i64.wrap (s1.1 + 1), IntKind.i64.wrap (s1.2 + 1))))
else
 some (.inr (.inr s1.1)))) (a1, 0)) fun x4 =>
(match x4 with
| .inl d6 =>
 some (-1)
| .inr d7 =>
 some d7)

theorem laws_heldIntS_c {a0 : (List Int)} {a1 : Int} {r : Int} (h : laws_heldIntS_m a0 a1 = some r) : PureC Try.prog 17 [.d (slD encInt a0), .d (.int .i64 a1)] (.d (.int .i64 r)) [] := by
  refine pureC_m tOk (fn := Try.f17) (c := codeOf Try.f17) rfl rfl (by kernel_rfl) rfl rfl (by simp) (by simp) (ids_of rfl) ?_
  unfold laws_heldIntS_m at h
  conv => whnf
  refine seq_in tOk ?_
  conv => whnf
  obtain ⟨x4, hx4, h⟩ := bd_some h
  refine loop_m tOk hx4 (fun s1 => ⟨0, 21, [(0, .d (slD encInt a0)), (1, .d (.int .i64 s1.1)), (5, .d (.int .i64 s1.2))], [], [], []⟩) ?_ ?_
  · refine le_mk ?_ ?_ ?_ <;> (repeat' first | ((conv => whnf); first | exact trivial | refine And.intro ?_ ?_ | exact BLe.refl _ | exact VLe.refl _) | exact trivial | exact rfl | refine And.intro ?_ ?_ | exact BLe.refl _ | exact VLe.refl _ | exact VLe.any _ | exact VLe.nil_osl rfl | exact VLe.nil_sl rfl | exact VLe.built rfl rfl | (refine VLe.osl rfl ?_; (first | rfl | (simp; done) | assumption | (simp [dsub_eq] <;> omega) | omega)) | exact VLe.rows (by first | rfl | (simp; done) | assumption | (simp [dsub_eq] <;> omega) | omega) (fun _ _ => rfl) | exact VLe.rows (by simp [dsub_eq] <;> omega) rows_take | exact VLe.rows (by simp [dsub_eq] <;> omega) rows_dt | exact VLe.rows (by simp [dsub_eq] <;> omega) rows_vt | exact VLe.rows (by simp) (fun i _ => by simp [viewRow_eq, Nat.add_comm]) | refine VLe.aggL ?_ | (refine BLe.rows rfl ?_ fun _ _ => rfl; (first | rfl | (simp; done) | assumption | (simp [dsub_eq] <;> omega) | omega)) | (refine BLe.rows rfl rfl ?_; first | exact rows_take) | refine BLe.box ?_)
  · clear hx4
    intro s1 y2 g3 hy2
    conv => whnf
    refine seq_in tOk ?_
    conv => whnf
    refine And.intro (fun e => ?_) (fun e => ?_)
    · replace g3 := ite_t g3 e; clear e
      conv => whnf
      refine seq_in tOk ?_
      conv => whnf
      refine seq_in tOk ?_
      conv => whnf
      obtain ⟨g5, g3⟩ := gd_some g3
      refine And.intro g5 ?_
      clear g5
      conv => whnf
      refine And.intro (fun e => ?_) (fun e => ?_)
      · replace g3 := ite_t g3 e; clear e
        conv => whnf
        obtain rfl := Option.some.inj g3
        obtain rfl := hy2 _ rfl
        obtain rfl := Option.some.inj h
        exact ⟨_, LE.refl _, And.intro rfl trivial⟩
      · replace g3 := ite_f g3 e; clear e
        conv => whnf
        obtain rfl := Option.some.inj g3
        refine ⟨_, rfl, le_mk ?_ ?_ ?_⟩ <;> (repeat' first | ((conv => whnf); first | exact trivial | refine And.intro ?_ ?_ | exact BLe.refl _ | exact VLe.refl _) | exact trivial | exact rfl | refine And.intro ?_ ?_ | exact BLe.refl _ | exact VLe.refl _ | exact VLe.any _ | exact VLe.nil_osl rfl | exact VLe.nil_sl rfl | exact VLe.built rfl rfl | (refine VLe.osl rfl ?_; (first | rfl | (simp; done) | assumption | (simp [dsub_eq] <;> omega) | omega)) | exact VLe.rows (by first | rfl | (simp; done) | assumption | (simp [dsub_eq] <;> omega) | omega) (fun _ _ => rfl) | exact VLe.rows (by simp [dsub_eq] <;> omega) rows_take | exact VLe.rows (by simp [dsub_eq] <;> omega) rows_dt | exact VLe.rows (by simp [dsub_eq] <;> omega) rows_vt | exact VLe.rows (by simp) (fun i _ => by simp [viewRow_eq, Nat.add_comm]) | refine VLe.aggL ?_ | (refine BLe.rows rfl ?_ fun _ _ => rfl; (first | rfl | (simp; done) | assumption | (simp [dsub_eq] <;> omega) | omega)) | (refine BLe.rows rfl rfl ?_; first | exact rows_take) | refine BLe.box ?_)
    · replace g3 := ite_f g3 e; clear e
      conv => whnf
      obtain rfl := Option.some.inj g3
      obtain rfl := hy2 _ rfl
      obtain rfl := Option.some.inj h
      exact ⟨_, LE.refl _, And.intro rfl trivial⟩

noncomputable def laws_FnExactTreeFlood_m (a0 : TreeWorld) (a1 : Int) (a2 : Int) : Option (Bool) :=
 bd (laws_szTreeWorld_m a0 1048576) fun x1 =>
(if (decide (x1 < 0)) = true then
 some true
else
 bd (laws_toTreeWorld_m a0) fun x2 =>
 bd (spec_TreeFlood_m x2 a1 a2) fun x3 =>
 bd (laws_toTreeWorld_m a0) fun x4 =>
 bd (impl_TreeFlood_m x4 a1 a2) fun x5 =>
 bd (laws_eqIntS_m x5 x3) fun x6 =>
(if (!x6) = true then
 some false
else
 bd (laws_toTreeWorld_m a0) fun x7 =>
 bd (laws_eqTreeWorld_m x4 x7) fun x8 =>
(if (!x8) = true then
 some false
else
 bd (laws_markTreeWorld_m x4 1) fun x9 =>
 gd (x9.2.Bridges.length = x4.Bridges.length) <|
 gd (x9.2.Links.length = x4.Links.length) <|
 gd (x9.2.Down.length = x4.Down.length) <|
 gd (x9.2.AtA.length = x4.AtA.length) <|
 gd (x9.2.AtB.length = x4.AtB.length) <|
 gd (x9.2.Radio.length = x4.Radio.length) <|
 bd (gcall ((decide (x9.1 < 0)) = false) (laws_eqIntS_m x5 x3)) fun x10 =>
(if ((decide (x9.1 < 0)) || (!x10)) = true then
 some false
else
 bd (laws_markIntS_m x5 1) fun x11 =>
 gd (x11.2.length = x5.length) <|
 bd (laws_heldIntS_m x11.2 1) fun x12 =>
(if (decide (x12 < 0)) = true then
 some false
else
(if (x12 != x11.1) = true then
 some false
else
 bd (laws_toTreeWorld_m a0) fun x13 =>
 bd (impl_TreeFlood_m x13 a1 a2) fun x14 =>
 bd (laws_eqIntS_m x14 x3) fun x15 =>
(if (!x15) = true then
 some false
else
 bd (laws_heldIntS_m x11.2 1) fun x16 =>
(if (decide (x16 < 0)) = true then
 some false
else
(if (x16 != x11.1) = true then
 some false
else
 some true)))))))))

theorem laws_FnExactTreeFlood_c {a0 : TreeWorld} {a1 : Int} {a2 : Int} {r : Bool} (h : laws_FnExactTreeFlood_m a0 a1 a2 = some r) : PureC Try.prog 3 [.agg [.d (slD TreeBridge.enc a0.Bridges), .d (slD TreeLink.enc a0.Links), .d (slD encInt a0.Down), .d (slD TreeSlot.enc a0.AtA), .d (slD TreeSlot.enc a0.AtB), .d (slD TreeWord.enc a0.Radio)], .d (.int .i64 a1), .d (.int .i64 a2)] (.d (.bool r)) [] := by
  refine pureC_m tOk (fn := Try.f3) (c := codeOf Try.f3) rfl rfl (by kernel_rfl) rfl rfl (by simp) (by simp) (ids_of rfl) ?_
  unfold laws_FnExactTreeFlood_m at h
  conv => whnf
  obtain ⟨x1, hx1, h⟩ := bd_some h
  refine callC 0 (laws_szTreeWorld_c hx1) (by kernel_rfl) (by kernel_rfl) ?_
  clear hx1
  conv => whnf
  refine seq_in tOk ?_
  conv => whnf
  refine And.intro (fun e => ?_) (fun e => ?_)
  · replace h := ite_t h e; clear e
    conv => whnf
    obtain rfl := Option.some.inj h
    exact ⟨_, LE.refl _, And.intro rfl trivial⟩
  · replace h := ite_f h e; clear e
    conv => whnf
    obtain ⟨x2, hx2, h⟩ := bd_some h
    refine callC 1000 (laws_toTreeWorld_c hx2) (by kernel_rfl) (by kernel_rfl) ?_
    clear hx2
    conv => whnf
    obtain ⟨x3, hx3, h⟩ := bd_some h
    refine callFz [6001, 6002, 6003, 6004, 6005, 6006] ?_
    conv => whnf
    refine callE [] 0 (spec_TreeFlood_c hx3) (by (repeat' first | ((conv => whnf); first | exact trivial | refine And.intro ?_ ?_ | exact BLe.refl _ | exact VLe.refl _) | exact trivial | refine And.intro ?_ ?_ | exact VLe.refl _ | exact VLe.any _ | exact VLe.nil_osl rfl | exact VLe.nil_sl rfl | exact VLe.built rfl rfl | (refine VLe.osl rfl ?_; (first | rfl | (simp; done) | assumption | (simp [dsub_eq] <;> omega) | omega)) | exact VLe.rows (by first | rfl | (simp; done) | assumption | (simp [dsub_eq] <;> omega) | omega) (fun _ _ => rfl) | exact VLe.rows (by simp [dsub_eq] <;> omega) rows_take | exact VLe.rows (by simp [dsub_eq] <;> omega) rows_dt | exact VLe.rows (by simp [dsub_eq] <;> omega) rows_vt | exact VLe.rows (by simp) (fun i _ => by simp [viewRow_eq, Nat.add_comm]) | refine VLe.aggL ?_)) (by (repeat' first | ((conv => whnf); first | exact trivial | refine And.intro ?_ ?_ | exact BLe.refl _ | exact VLe.refl _) | exact trivial | exact rfl | refine And.intro ?_ ?_ | exact BLe.refl _ | exact VLe.refl _ | exact VLe.any _ | exact VLe.nil_osl rfl | exact VLe.nil_sl rfl | exact VLe.built rfl rfl | (refine VLe.osl rfl ?_; (first | rfl | (simp; done) | assumption | (simp [dsub_eq] <;> omega) | omega)) | exact VLe.rows (by first | rfl | (simp; done) | assumption | (simp [dsub_eq] <;> omega) | omega) (fun _ _ => rfl) | exact VLe.rows (by simp [dsub_eq] <;> omega) rows_take | exact VLe.rows (by simp [dsub_eq] <;> omega) rows_dt | exact VLe.rows (by simp [dsub_eq] <;> omega) rows_vt | exact VLe.rows (by simp) (fun i _ => by simp [viewRow_eq, Nat.add_comm]) | refine VLe.aggL ?_ | (refine BLe.rows rfl ?_ fun _ _ => rfl; (first | rfl | (simp; done) | assumption | (simp [dsub_eq] <;> omega) | omega)) | refine BLe.box ?_ | (simp; done))) rfl rfl ?_
    conv => whnf
    obtain ⟨x4, hx4, h⟩ := bd_some h
    refine callC 1000 (laws_toTreeWorld_c hx4) (by kernel_rfl) (by kernel_rfl) ?_
    clear hx4
    conv => whnf
    obtain ⟨x5, hx5, h⟩ := bd_some h
    refine callC 2000 (impl_TreeFlood_c hx5) (by kernel_rfl) (by kernel_rfl) ?_
    clear hx5
    conv => whnf
    refine seq_in tOk ?_
    conv => whnf
    obtain ⟨x6, hx6, h⟩ := bd_some h
    refine callC 0 (laws_eqIntS_c hx6) (by kernel_rfl) (by kernel_rfl) ?_
    clear hx6
    conv => whnf
    refine And.intro (fun e => ?_) (fun e => ?_)
    · replace h := ite_t h e; clear e
      conv => whnf
      obtain rfl := Option.some.inj h
      exact ⟨_, LE.refl _, And.intro rfl trivial⟩
    · replace h := ite_f h e; clear e
      conv => whnf
      refine seq_in tOk ?_
      conv => whnf
      obtain ⟨x7, hx7, h⟩ := bd_some h
      obtain ⟨x8, hx8, h⟩ := bd_some h
      refine draw_k tOk (by kernel_rfl) (fun j => match j with | 2 => some (.pure 3000 (.agg [.osl 5001 0 x7.Bridges.length, .osl 5002 0 x7.Links.length, .osl 5003 0 x7.Down.length, .osl 5004 0 x7.AtA.length, .osl 5005 0 x7.AtB.length, .osl 5006 0 x7.Radio.length]) [⟨5001, 58, 6, x7.Bridges.length, rows TreeBridge.enc x7.Bridges⟩, ⟨5002, 61, 3, x7.Links.length, rows TreeLink.enc x7.Links⟩, ⟨5003, 3, 1, x7.Down.length, rows encInt x7.Down⟩, ⟨5004, 63, 4, x7.AtA.length, rows TreeSlot.enc x7.AtA⟩, ⟨5005, 63, 4, x7.AtB.length, rows TreeSlot.enc x7.AtB⟩, ⟨5006, 113, 5, x7.Radio.length, rows TreeWord.enc x7.Radio⟩]) | 3 => some (.pure 0 (.d (.bool x8)) []) | _ => none) 5 [] [[], [], [false, true], [true, true, true], [true, true, true, true]] [] (by decide) (by kernel_rfl) (by kernel_rfl) ?_
      conv => whnf
      refine And.intro (callD_any (laws_toTreeWorld_c hx7) (by kernel_rfl)) ?_
      conv => whnf
      refine And.intro (callD_any (laws_eqTreeWorld_c hx8) (by kernel_rfl)) ?_
      conv => whnf
      refine And.intro (by kernel_rfl) ?_
      conv => whnf
      refine And.intro (fun e => ?_) (fun e => ?_)
      · replace h := ite_t h e; clear e
        conv => whnf
        obtain rfl := Option.some.inj h
        exact ⟨_, LE.refl _, And.intro rfl trivial⟩
      · replace h := ite_f h e; clear e
        conv => whnf
        obtain ⟨x9, hx9, h⟩ := bd_some h
        obtain ⟨g18, h⟩ := gd_some h
        obtain ⟨g19, h⟩ := gd_some h
        obtain ⟨g20, h⟩ := gd_some h
        obtain ⟨g21, h⟩ := gd_some h
        obtain ⟨g22, h⟩ := gd_some h
        obtain ⟨g23, h⟩ := gd_some h
        refine callE [(9000, 6001), (9001, 6002), (9002, 6003), (9003, 6004), (9004, 6005), (9005, 6006)] 0 (laws_markTreeWorld_c hx9) (by (repeat' first | ((conv => whnf); first | exact trivial | refine And.intro ?_ ?_ | exact BLe.refl _ | exact VLe.refl _) | exact trivial | refine And.intro ?_ ?_ | exact VLe.refl _ | exact VLe.any _ | exact VLe.nil_osl rfl | exact VLe.nil_sl rfl | exact VLe.built rfl rfl | (refine VLe.osl rfl ?_; (first | rfl | (simp; done) | assumption | (simp [dsub_eq] <;> omega) | omega)) | exact VLe.rows (by first | rfl | (simp; done) | assumption | (simp [dsub_eq] <;> omega) | omega) (fun _ _ => rfl) | exact VLe.rows (by simp [dsub_eq] <;> omega) rows_take | exact VLe.rows (by simp [dsub_eq] <;> omega) rows_dt | exact VLe.rows (by simp [dsub_eq] <;> omega) rows_vt | exact VLe.rows (by simp) (fun i _ => by simp [viewRow_eq, Nat.add_comm]) | refine VLe.aggL ?_)) (by (repeat' first | ((conv => whnf); first | exact trivial | refine And.intro ?_ ?_ | exact BLe.refl _ | exact VLe.refl _) | exact trivial | exact rfl | refine And.intro ?_ ?_ | exact BLe.refl _ | exact VLe.refl _ | exact VLe.any _ | exact VLe.nil_osl rfl | exact VLe.nil_sl rfl | exact VLe.built rfl rfl | (refine VLe.osl rfl ?_; (first | rfl | (simp; done) | assumption | (simp [dsub_eq] <;> omega) | omega)) | exact VLe.rows (by first | rfl | (simp; done) | assumption | (simp [dsub_eq] <;> omega) | omega) (fun _ _ => rfl) | exact VLe.rows (by simp [dsub_eq] <;> omega) rows_take | exact VLe.rows (by simp [dsub_eq] <;> omega) rows_dt | exact VLe.rows (by simp [dsub_eq] <;> omega) rows_vt | exact VLe.rows (by simp) (fun i _ => by simp [viewRow_eq, Nat.add_comm]) | refine VLe.aggL ?_ | (refine BLe.rows rfl ?_ fun _ _ => rfl; (first | rfl | (simp; done) | assumption | (simp [dsub_eq] <;> omega) | omega)) | refine BLe.box ?_ | (simp; done))) rfl rfl ?_
        conv => whnf
        refine seq_in tOk ?_
        conv => whnf
        obtain ⟨x10, hx10, h⟩ := bd_some h
        refine callG_m rfl rfl rfl rfl rfl rfl (by intro c0; exact laws_eqIntS_c (gcall_some hx10 c0)) ?_
        conv => whnf
        refine And.intro (fun e => ?_) (fun e => ?_)
        · replace h := ite_t h e; clear e
          conv => whnf
          obtain rfl := Option.some.inj h
          exact ⟨_, LE.refl _, And.intro rfl trivial⟩
        · replace h := ite_f h e; clear e
          conv => whnf
          obtain ⟨x11, hx11, h⟩ := bd_some h
          obtain ⟨g17, h⟩ := gd_some h
          refine callE [(9000, 7001)] 0 (laws_markIntS_c hx11) (by (repeat' first | ((conv => whnf); first | exact trivial | refine And.intro ?_ ?_ | exact BLe.refl _ | exact VLe.refl _) | exact trivial | refine And.intro ?_ ?_ | exact VLe.refl _ | exact VLe.any _ | exact VLe.nil_osl rfl | exact VLe.nil_sl rfl | exact VLe.built rfl rfl | (refine VLe.osl rfl ?_; (first | rfl | (simp; done) | assumption | (simp [dsub_eq] <;> omega) | omega)) | exact VLe.rows (by first | rfl | (simp; done) | assumption | (simp [dsub_eq] <;> omega) | omega) (fun _ _ => rfl) | exact VLe.rows (by simp [dsub_eq] <;> omega) rows_take | exact VLe.rows (by simp [dsub_eq] <;> omega) rows_dt | exact VLe.rows (by simp [dsub_eq] <;> omega) rows_vt | exact VLe.rows (by simp) (fun i _ => by simp [viewRow_eq, Nat.add_comm]) | refine VLe.aggL ?_)) (by (repeat' first | ((conv => whnf); first | exact trivial | refine And.intro ?_ ?_ | exact BLe.refl _ | exact VLe.refl _) | exact trivial | exact rfl | refine And.intro ?_ ?_ | exact BLe.refl _ | exact VLe.refl _ | exact VLe.any _ | exact VLe.nil_osl rfl | exact VLe.nil_sl rfl | exact VLe.built rfl rfl | (refine VLe.osl rfl ?_; (first | rfl | (simp; done) | assumption | (simp [dsub_eq] <;> omega) | omega)) | exact VLe.rows (by first | rfl | (simp; done) | assumption | (simp [dsub_eq] <;> omega) | omega) (fun _ _ => rfl) | exact VLe.rows (by simp [dsub_eq] <;> omega) rows_take | exact VLe.rows (by simp [dsub_eq] <;> omega) rows_dt | exact VLe.rows (by simp [dsub_eq] <;> omega) rows_vt | exact VLe.rows (by simp) (fun i _ => by simp [viewRow_eq, Nat.add_comm]) | refine VLe.aggL ?_ | (refine BLe.rows rfl ?_ fun _ _ => rfl; (first | rfl | (simp; done) | assumption | (simp [dsub_eq] <;> omega) | omega)) | refine BLe.box ?_ | (simp; done))) rfl rfl ?_
          conv => whnf
          obtain ⟨x12, hx12, h⟩ := bd_some h
          refine callW 0 (laws_heldIntS_c hx12) rfl (by (repeat' first | ((conv => whnf); first | exact trivial | refine And.intro ?_ ?_ | exact BLe.refl _ | exact VLe.refl _) | exact trivial | refine And.intro ?_ ?_ | exact VLe.refl _ | exact VLe.any _ | exact VLe.nil_osl rfl | exact VLe.nil_sl rfl | exact VLe.built rfl rfl | (refine VLe.osl rfl ?_; (first | rfl | (simp; done) | assumption | (simp [dsub_eq] <;> omega) | omega)) | exact VLe.rows (by first | rfl | (simp; done) | assumption | (simp [dsub_eq] <;> omega) | omega) (fun _ _ => rfl) | exact VLe.rows (by simp [dsub_eq] <;> omega) rows_take | exact VLe.rows (by simp [dsub_eq] <;> omega) rows_dt | exact VLe.rows (by simp [dsub_eq] <;> omega) rows_vt | exact VLe.rows (by simp) (fun i _ => by simp [viewRow_eq, Nat.add_comm]) | refine VLe.aggL ?_)) rfl ?_
          conv => whnf
          refine seq_in tOk ?_
          conv => whnf
          refine And.intro (fun e => ?_) (fun e => ?_)
          · replace h := ite_t h e; clear e
            conv => whnf
            obtain rfl := Option.some.inj h
            exact ⟨_, LE.refl _, And.intro rfl trivial⟩
          · replace h := ite_f h e; clear e
            conv => whnf
            refine seq_in tOk ?_
            conv => whnf
            refine And.intro (fun e => ?_) (fun e => ?_)
            · replace h := ite_t h e; clear e
              conv => whnf
              obtain rfl := Option.some.inj h
              exact ⟨_, LE.refl _, And.intro rfl trivial⟩
            · replace h := ite_f h e; clear e
              conv => whnf
              obtain ⟨x13, hx13, h⟩ := bd_some h
              refine callC 4000 (laws_toTreeWorld_c hx13) (by kernel_rfl) (by kernel_rfl) ?_
              clear hx13
              conv => whnf
              obtain ⟨x14, hx14, h⟩ := bd_some h
              refine callC 5000 (impl_TreeFlood_c hx14) (by kernel_rfl) (by kernel_rfl) ?_
              clear hx14
              conv => whnf
              refine seq_in tOk ?_
              conv => whnf
              obtain ⟨x15, hx15, h⟩ := bd_some h
              refine callC 0 (laws_eqIntS_c hx15) (by kernel_rfl) (by kernel_rfl) ?_
              clear hx15
              conv => whnf
              refine And.intro (fun e => ?_) (fun e => ?_)
              · replace h := ite_t h e; clear e
                conv => whnf
                obtain rfl := Option.some.inj h
                exact ⟨_, LE.refl _, And.intro rfl trivial⟩
              · replace h := ite_f h e; clear e
                conv => whnf
                obtain ⟨x16, hx16, h⟩ := bd_some h
                refine callW 0 (laws_heldIntS_c hx16) rfl (by (repeat' first | ((conv => whnf); first | exact trivial | refine And.intro ?_ ?_ | exact BLe.refl _ | exact VLe.refl _) | exact trivial | refine And.intro ?_ ?_ | exact VLe.refl _ | exact VLe.any _ | exact VLe.nil_osl rfl | exact VLe.nil_sl rfl | exact VLe.built rfl rfl | (refine VLe.osl rfl ?_; (first | rfl | (simp; done) | assumption | (simp [dsub_eq] <;> omega) | omega)) | exact VLe.rows (by first | rfl | (simp; done) | assumption | (simp [dsub_eq] <;> omega) | omega) (fun _ _ => rfl) | exact VLe.rows (by simp [dsub_eq] <;> omega) rows_take | exact VLe.rows (by simp [dsub_eq] <;> omega) rows_dt | exact VLe.rows (by simp [dsub_eq] <;> omega) rows_vt | exact VLe.rows (by simp) (fun i _ => by simp [viewRow_eq, Nat.add_comm]) | refine VLe.aggL ?_)) rfl ?_
                conv => whnf
                refine seq_in tOk ?_
                conv => whnf
                refine And.intro (fun e => ?_) (fun e => ?_)
                · replace h := ite_t h e; clear e
                  conv => whnf
                  obtain rfl := Option.some.inj h
                  exact ⟨_, LE.refl _, And.intro rfl trivial⟩
                · replace h := ite_f h e; clear e
                  conv => whnf
                  refine seq_in tOk ?_
                  conv => whnf
                  refine And.intro (fun e => ?_) (fun e => ?_)
                  · replace h := ite_t h e; clear e
                    conv => whnf
                    obtain rfl := Option.some.inj h
                    exact ⟨_, LE.refl _, And.intro rfl trivial⟩
                  · replace h := ite_f h e; clear e
                    conv => whnf
                    obtain rfl := Option.some.inj h
                    exact ⟨_, LE.refl _, And.intro rfl trivial⟩

end Go.Proofs.Ytbolhcpkpncmfab
