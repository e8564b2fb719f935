/-
  What some of the program's functions compute: their models, and that the functions compute these; no condition.
-/
import Derived.Test.YtbolhcpkpncmfabTyz
import Derived.Test.YtbolhcpkpncmfabTbz
import Derived.Test.YtbolhcpkpncmfabKz2
set_option linter.all false
namespace Go.Proofs.Ytbolhcpkpncmfab
open Go Go.Ab
set_option maxRecDepth 100000
set_option maxHeartbeats 4000000
noncomputable def impl_TreeWorld_bridgeAt_m (a0 : TreeWorld) (a1 : Int) (a2 : Int) : Option (Int) :=
(if (a2 == 0) = true then
 gd ((0 : Int) ≤ a1 ∧ a1 < ((a0.Links.length : Nat) : Int)) <|
 some ((a0.Links.getD a1.toNat default).A)
else
 gd ((0 : Int) ≤ a1 ∧ a1 < ((a0.Links.length : Nat) : Int)) <|
 some ((a0.Links.getD a1.toNat default).B))

theorem impl_TreeWorld_bridgeAt_c {a0 : TreeWorld} {a1 : Int} {a2 : Int} {r : Int} (h : impl_TreeWorld_bridgeAt_m a0 a1 a2 = some r) : PureC Try.prog 57 [.rp [slD TreeBridge.enc a0.Bridges, slD TreeLink.enc a0.Links, slD encInt a0.Down, slD TreeSlot.enc a0.AtA, slD TreeSlot.enc a0.AtB, slD TreeWord.enc a0.Radio], .d (.int .i64 a1), .d (.int .i64 a2)] (.d (.int .i64 r)) [] := by
  refine pureC_m tOk (fn := Try.f57) (c := codeOf Try.f57) rfl rfl (by kernel_rfl) rfl rfl (by simp) (by simp) (ids_of rfl) ?_
  unfold impl_TreeWorld_bridgeAt_m at h
  conv => whnf
  refine seq_in tOk ?_
  conv => whnf
  refine And.intro (fun e => ?_) (fun e => ?_)
  · replace h := ite_t h e; clear e
    conv => whnf
    obtain ⟨g1, h⟩ := gd_some h
    refine And.intro g1 ?_
    clear g1
    conv => whnf
    obtain rfl := Option.some.inj h
    exact ⟨_, LE.refl _, And.intro rfl trivial⟩
  · replace h := ite_f h e; clear e
    conv => whnf
    obtain ⟨g2, h⟩ := gd_some h
    refine And.intro g2 ?_
    clear g2
    conv => whnf
    obtain rfl := Option.some.inj h
    exact ⟨_, LE.refl _, And.intro rfl trivial⟩

noncomputable def impl_TreeWorld_slotOk_m (a0 : TreeWorld) (a1 : Int) (a2 : Int) : Option (Bool) :=
 bd (impl_TreeWorld_slot_m a0 a1 a2) fun x1 =>
 bd (impl_TreeVectorOk_m x1.Vector) fun x2 =>
 bd (gcall ((!x2) = false) (impl_within_m x1.Left 0 3)) fun x3 =>
 bd (gcall (((!x2) || (!x3)) = false) (impl_TreeVector_nothing_m x1.Vector)) fun x4 =>
(if (((!x2) || (!x3)) || (!((x1.Left == 0) == x4))) = true then
 some false
else
 bd (impl_TreeVector_nothing_m x1.Vector) fun x5 =>
 bd (gcall (x5 = false) (impl_TreeWorld_isDown_m a0 a1)) fun x6 =>
 bd (gcall ((!x6) = true ∧ x5 = false) (impl_TreeWorld_bridgeAt_m a0 a1 a2)) fun x7 =>
 gd ((!x6) = true → (x5 = false → ((0 : Int) ≤ x7 ∧ x7 < ((a0.Bridges.length : Nat) : Int)))) <|
 some (x5 || ((!x6) && (a0.Bridges.getD x7.toNat default).Up)))

theorem impl_TreeWorld_slotOk_c {a0 : TreeWorld} {a1 : Int} {a2 : Int} {r : Bool} (h : impl_TreeWorld_slotOk_m a0 a1 a2 = some r) : PureC Try.prog 77 [.rp [slD TreeBridge.enc a0.Bridges, slD TreeLink.enc a0.Links, slD encInt a0.Down, slD TreeSlot.enc a0.AtA, slD TreeSlot.enc a0.AtB, slD TreeWord.enc a0.Radio], .d (.int .i64 a1), .d (.int .i64 a2)] (.d (.bool r)) [] := by
  refine pureC_m tOk (fn := Try.f77) (c := codeOf Try.f77) rfl rfl (by kernel_rfl) rfl rfl (by simp) (by simp) (ids_of rfl) ?_
  unfold impl_TreeWorld_slotOk_m at h
  conv => whnf
  obtain ⟨x1, hx1, h⟩ := bd_some h
  refine callE [] 0 (impl_TreeWorld_slot_c hx1) (by (repeat' first | ((conv => whnf); first | exact trivial | refine And.intro ?_ ?_ | exact BLe.refl _ | exact VLe.refl _) | exact trivial | refine And.intro ?_ ?_ | exact VLe.refl _ | exact VLe.any _ | exact VLe.nil_osl rfl | exact VLe.nil_sl rfl | exact VLe.built rfl rfl | (refine VLe.osl rfl ?_; (first | rfl | (simp; done) | assumption | (simp [dsub_eq] <;> omega) | omega)) | exact VLe.rows (by first | rfl | (simp; done) | assumption | (simp [dsub_eq] <;> omega) | omega) (fun _ _ => rfl) | exact VLe.rows (by simp [dsub_eq] <;> omega) rows_take | exact VLe.rows (by simp [dsub_eq] <;> omega) rows_dt | exact VLe.rows (by simp [dsub_eq] <;> omega) rows_vt | exact VLe.rows (by simp) (fun i _ => by simp [viewRow_eq, Nat.add_comm]) | refine VLe.aggL ?_)) (by (repeat' first | ((conv => whnf); first | exact trivial | refine And.intro ?_ ?_ | exact BLe.refl _ | exact VLe.refl _) | exact trivial | exact rfl | refine And.intro ?_ ?_ | exact BLe.refl _ | exact VLe.refl _ | exact VLe.any _ | exact VLe.nil_osl rfl | exact VLe.nil_sl rfl | exact VLe.built rfl rfl | (refine VLe.osl rfl ?_; (first | rfl | (simp; done) | assumption | (simp [dsub_eq] <;> omega) | omega)) | exact VLe.rows (by first | rfl | (simp; done) | assumption | (simp [dsub_eq] <;> omega) | omega) (fun _ _ => rfl) | exact VLe.rows (by simp [dsub_eq] <;> omega) rows_take | exact VLe.rows (by simp [dsub_eq] <;> omega) rows_dt | exact VLe.rows (by simp [dsub_eq] <;> omega) rows_vt | exact VLe.rows (by simp) (fun i _ => by simp [viewRow_eq, Nat.add_comm]) | refine VLe.aggL ?_ | (refine BLe.rows rfl ?_ fun _ _ => rfl; (first | rfl | (simp; done) | assumption | (simp [dsub_eq] <;> omega) | omega)) | refine BLe.box ?_ | (simp; done))) rfl rfl ?_
  conv => whnf
  refine seq_in tOk ?_
  conv => whnf
  obtain ⟨x2, hx2, h⟩ := bd_some h
  obtain ⟨x3, hx3, h⟩ := bd_some h
  obtain ⟨x4, hx4, h⟩ := bd_some h
  refine draw_k tOk (by kernel_rfl) (fun j => match j with | 2 => some (.pure 0 (.d (.bool x2)) []) | 7 => some (.pure 0 (.d (.bool x3)) []) | 16 => some (.pure 0 (.d (.bool x4)) []) | _ => none) 19 [] [[], [true], [true, true], [true, true, true], [true, true, true, true], [true, true, true, true, true], [true, true, true, true, true, true], [true, true, true, true, true, true, true], [true, true, true, true, true, true, true, true], [true, true, true, true, true, true, true, true, true], [true, true, true, true, true, true, true, true, true, true], [true, true, true, true, true, true, true, true, true, true, true], [true, true, true, true, true, true, true, true, true, true, true, true], [true, true, true, true, true, true, true, true, true, true, true, true, true], [true, true, true, true, true, true, true, true, true, true, true], [true, true, true, true, true, true, true, true, true, true, true, false, false, false, true], [true, true, true, true, true, true, true, true, true, true, true, false, false, false, true, true], [true, true, true, true, true, true, true, true, true, true, true, true, true, true, true, true, true], [true, true, true, true, true, true, true, true, true, true, true, true, true, true, true, true, true, true]] [] (by decide) (by kernel_rfl) (by kernel_rfl) ?_
  conv => whnf
  refine And.intro (callD_any (impl_TreeVectorOk_c hx2) (by kernel_rfl)) ?_
  conv => whnf
  refine And.intro (callDG_if rfl rfl rfl rfl (by intro c0; exact impl_within_c (gcall_some hx3 c0))) ?_
  conv => whnf
  refine And.intro (callDG_if rfl rfl rfl rfl (by intro c0; exact impl_TreeVector_nothing_c (gcall_some hx4 c0))) ?_
  conv => whnf
  refine And.intro (by kernel_rfl) ?_
  conv => whnf
  refine And.intro (fun e => ?_) (fun e => ?_)
  · replace h := ite_t h e; clear e
    conv => whnf
    obtain rfl := Option.some.inj h
    exact ⟨_, LE.refl _, And.intro rfl trivial⟩
  · replace h := ite_f h e; clear e
    conv => whnf
    obtain ⟨x5, hx5, h⟩ := bd_some h
    obtain ⟨x6, hx6, h⟩ := bd_some h
    obtain ⟨x7, hx7, h⟩ := bd_some h
    obtain ⟨g8, h⟩ := gd_some h
    refine draw_k tOk (by kernel_rfl) (fun j => match j with | 2 => some (.pure 0 (.d (.bool x5)) []) | 6 => some (.pure 0 (.d (.bool x6)) []) | 16 => some (.pure 0 (.d (.int .i64 x7)) []) | _ => none) 23 [] [[], [true], [true, true], [true, true, true], [true, true, true, true], [true, true, true, true], [true, true, true, true, true, true], [true, true, true, true, true, true, true], [true, true, true, true, true, true, true, true], [true, true, true, true, true, true, true, true, true], [true, true, true, true, true, true, true, true, true, true], [true, true, true, true, true, true, true, true, true, true, true], [true, true, true, true, true, true, true, true, true, true, true, true], [true, true, true, true, true, true, true, true, true], [true, true, true, true, true, true, true, true, true], [true, true, true, true, true, true, true, true, true], [true, true, true, true, true, true, true, true, true, false, false, false, false, true, true, true], [true, true, true, true, true, true, true, true, true, true, true, true, true, true, true, true, true], [true, true, true, true, true, true, true, true, true, true, true, true, true, true, true, true, true, true], [true, true, true, true, true, true, true, true, true, true, true, true, true, true, true, true, true, true, true], [true, true, true, true, true, true, true, true, true, true, true, true, true, true, true, true, true, true, true, true], [true, true, true, true, true, true, true, true, true, true, true, true, true, true, true, true, true, true, true, true, true], [true, true, true, true, true, true, true, true, true, true, true, true, true, true, true, true, true, true, true, true, true, true]] [] (by decide) (by kernel_rfl) (by kernel_rfl) ?_
    conv => whnf
    refine And.intro (callD_any (impl_TreeVector_nothing_c hx5) (by kernel_rfl)) ?_
    conv => whnf
    refine And.intro (callDG_if rfl rfl rfl rfl (by intro c0; exact impl_TreeWorld_isDown_c (gcall_some hx6 c0))) ?_
    conv => whnf
    refine And.intro (callDG_if rfl rfl rfl rfl (by intro c0 c1; exact impl_TreeWorld_bridgeAt_c (gcall_some hx7 ⟨c0, c1⟩))) ?_
    conv => whnf
    refine And.intro g8 ?_
    clear g8
    conv => whnf
    refine And.intro (by kernel_rfl) ?_
    conv => whnf
    obtain rfl := Option.some.inj h
    exact ⟨_, LE.refl _, And.intro rfl trivial⟩

noncomputable def impl_TreeWorldOk_1_m (a0 : TreeWord) (a1 : TreeWorld) : Option (Bool) :=
 bd (impl_TreeWorld_isLink_m a1 a0.Link) fun x1 =>
 bd (gcall ((!x1) = false) (impl_within_m a0.End 0 1)) fun x2 =>
 bd (gcall (((!x1) || (!x2)) = false) (impl_TreeVectorOk_m a0.Vector)) fun x3 =>
 bd (gcall ((((!x1) || (!x2)) || (!x3)) = false) (impl_TreeVector_nothing_m a0.Vector)) fun x4 =>
 some ((((!x1) || (!x2)) || (!x3)) || x4)

theorem impl_TreeWorldOk_1_c {a0 : TreeWord} {a1 : TreeWorld} {r : Bool} (h : impl_TreeWorldOk_1_m a0 a1 = some r) : PureC Try.prog 79 [.agg [.d (.int .i64 a0.Link), .d (.int .i64 a0.End), .d (.int .i64 a0.Vector.Root), .d (.int .i64 a0.Vector.Cost), .d (.int .i64 a0.Vector.Age)], .rp [slD TreeBridge.enc a1.Bridges, slD TreeLink.enc a1.Links, slD encInt a1.Down, slD TreeSlot.enc a1.AtA, slD TreeSlot.enc a1.AtB, slD TreeWord.enc a1.Radio]] (.d (.bool r)) [] := by
  refine pureC_m tOk (fn := Try.f79) (c := codeOf Try.f79) rfl rfl (by kernel_rfl) rfl rfl (by simp) (by simp) (ids_of rfl) ?_
  unfold impl_TreeWorldOk_1_m at h
  conv => whnf
  obtain ⟨x1, hx1, h⟩ := bd_some h
  refine callC 0 (impl_TreeWorld_isLink_c hx1) (by kernel_rfl) (by kernel_rfl) ?_
  clear hx1
  conv => whnf
  obtain ⟨x2, hx2, h⟩ := bd_some h
  refine callG_m rfl rfl rfl rfl rfl rfl (by intro c0; exact impl_within_c (gcall_some hx2 c0)) ?_
  conv => whnf
  obtain ⟨x3, hx3, h⟩ := bd_some h
  refine callG_m rfl rfl rfl rfl rfl rfl (by intro c0; exact impl_TreeVectorOk_c (gcall_some hx3 c0)) ?_
  conv => whnf
  obtain ⟨x4, hx4, h⟩ := bd_some h
  refine callG_m rfl rfl rfl rfl rfl rfl (by intro c0; exact impl_TreeVector_nothing_c (gcall_some hx4 c0)) ?_
  conv => whnf
  obtain rfl := Option.some.inj h
  exact ⟨_, LE.refl _, And.intro rfl trivial⟩

noncomputable def slices_IndexFunc_TreeWord_TreeWord_impl_TreeWorldOk_1_m (a0 : (List TreeWord)) (a1c0 : TreeWorld) : Option (Int) :=
 bd (lp (σ := Int) (β := (Int ⊕ Unit)) (fun s1 =>
(if (decide (s1 < ((a0.length : Nat) : Int))) = true then
 gd ((0 : Int) ≤ s1 ∧ s1 < ((a0.length : Nat) : Int)) <|
 bd (impl_TreeWorldOk_1_m ({ (a0.getD s1.toNat default) with Vector := ((a0.getD s1.toNat default).Vector) }) a1c0) fun x6 =>
(if x6 = true then
 some (.inr (.inl s1))
else
 some (.inl (IntKind.i64.wrap (s1 + 1))))
else
 some (.inr (.inr ())))) 0) fun x4 =>
(match x4 with
| .inl d7 =>
 some d7
| .inr d8 =>
 some (-1))

theorem slices_IndexFunc_TreeWord_TreeWord_impl_TreeWorldOk_1_c {a0 : (List TreeWord)} {a1c0 : TreeWorld} {r : Int} (h : slices_IndexFunc_TreeWord_TreeWord_impl_TreeWorldOk_1_m a0 a1c0 = some r) : PureC Try.prog 125 [.d (slD TreeWord.enc a0), .fn 79 [.rp [slD TreeBridge.enc a1c0.Bridges, slD TreeLink.enc a1c0.Links, slD encInt a1c0.Down, slD TreeSlot.enc a1c0.AtA, slD TreeSlot.enc a1c0.AtB, slD TreeWord.enc a1c0.Radio]]] (.d (.int .i64 r)) [] := by
  refine pureC_m tOk (fn := Try.f125) (c := codeOf Try.f125) rfl rfl (by kernel_rfl) rfl rfl (by simp) (by simp) (ids_of rfl) ?_
  unfold slices_IndexFunc_TreeWord_TreeWord_impl_TreeWorldOk_1_m at h
  conv => whnf
  refine seq_in tOk ?_
  conv => whnf
  obtain ⟨x4, hx4, h⟩ := bd_some h
  refine loop_m tOk hx4 (fun s1 => ⟨0, 19, [(0, .d (slD TreeWord.enc a0)), (1, .fn 79 [.rp [slD TreeBridge.enc a1c0.Bridges, slD TreeLink.enc a1c0.Links, slD encInt a1c0.Down, slD TreeSlot.enc a1c0.AtA, slD TreeSlot.enc a1c0.AtB, slD TreeWord.enc a1c0.Radio]]), (7, .d (.int .i64 ((a0.length : Nat) : Int))), (8, .d (.int .i64 s1))], [], [], []⟩) ?_ ?_
  · refine le_mk ?_ ?_ ?_ <;> (repeat' first | ((conv => whnf); first | exact trivial | refine And.intro ?_ ?_ | exact BLe.refl _ | exact VLe.refl _) | exact trivial | exact rfl | refine And.intro ?_ ?_ | exact BLe.refl _ | exact VLe.refl _ | exact VLe.any _ | exact VLe.nil_osl rfl | exact VLe.nil_sl rfl | exact VLe.built rfl rfl | (refine VLe.osl rfl ?_; (first | rfl | (simp; done) | assumption | (simp [dsub_eq] <;> omega) | omega)) | exact VLe.rows (by first | rfl | (simp; done) | assumption | (simp [dsub_eq] <;> omega) | omega) (fun _ _ => rfl) | exact VLe.rows (by simp [dsub_eq] <;> omega) rows_take | exact VLe.rows (by simp [dsub_eq] <;> omega) rows_dt | exact VLe.rows (by simp [dsub_eq] <;> omega) rows_vt | exact VLe.rows (by simp) (fun i _ => by simp [viewRow_eq, Nat.add_comm]) | refine VLe.aggL ?_ | (refine BLe.rows rfl ?_ fun _ _ => rfl; (first | rfl | (simp; done) | assumption | (simp [dsub_eq] <;> omega) | omega)) | (refine BLe.rows rfl rfl ?_; first | exact rows_take) | refine BLe.box ?_)
  · clear hx4
    intro s1 y2 g3 hy2
    conv => whnf
    refine seq_in tOk ?_
    conv => whnf
    refine And.intro (fun e => ?_) (fun e => ?_)
    · replace g3 := ite_t g3 e; clear e
      conv => whnf
      refine seq_in tOk ?_
      conv => whnf
      obtain ⟨g5, g3⟩ := gd_some g3
      refine And.intro g5 ?_
      clear g5
      conv => whnf
      obtain ⟨x6, hx6, g3⟩ := bd_some g3
      refine callC 0 (impl_TreeWorldOk_1_c hx6) (by kernel_rfl) (by kernel_rfl) ?_
      clear hx6
      conv => whnf
      refine And.intro (fun e => ?_) (fun e => ?_)
      · replace g3 := ite_t g3 e; clear e
        conv => whnf
        obtain rfl := Option.some.inj g3
        obtain rfl := hy2 _ rfl
        obtain rfl := Option.some.inj h
        exact ⟨_, LE.refl _, And.intro rfl trivial⟩
      · replace g3 := ite_f g3 e; clear e
        conv => whnf
        obtain rfl := Option.some.inj g3
        refine ⟨_, rfl, le_mk ?_ ?_ ?_⟩ <;> (repeat' first | ((conv => whnf); first | exact trivial | refine And.intro ?_ ?_ | exact BLe.refl _ | exact VLe.refl _) | exact trivial | exact rfl | refine And.intro ?_ ?_ | exact BLe.refl _ | exact VLe.refl _ | exact VLe.any _ | exact VLe.nil_osl rfl | exact VLe.nil_sl rfl | exact VLe.built rfl rfl | (refine VLe.osl rfl ?_; (first | rfl | (simp; done) | assumption | (simp [dsub_eq] <;> omega) | omega)) | exact VLe.rows (by first | rfl | (simp; done) | assumption | (simp [dsub_eq] <;> omega) | omega) (fun _ _ => rfl) | exact VLe.rows (by simp [dsub_eq] <;> omega) rows_take | exact VLe.rows (by simp [dsub_eq] <;> omega) rows_dt | exact VLe.rows (by simp [dsub_eq] <;> omega) rows_vt | exact VLe.rows (by simp) (fun i _ => by simp [viewRow_eq, Nat.add_comm]) | refine VLe.aggL ?_ | (refine BLe.rows rfl ?_ fun _ _ => rfl; (first | rfl | (simp; done) | assumption | (simp [dsub_eq] <;> omega) | omega)) | (refine BLe.rows rfl rfl ?_; first | exact rows_take) | refine BLe.box ?_)
    · replace g3 := ite_f g3 e; clear e
      conv => whnf
      obtain rfl := Option.some.inj g3
      obtain rfl := hy2 _ rfl
      obtain rfl := Option.some.inj h
      exact ⟨_, LE.refl _, And.intro rfl trivial⟩

noncomputable def slices_ContainsFunc_TreeWord_TreeWord_impl_TreeWorldOk_1_m (a0 : (List TreeWord)) (a1c0 : TreeWorld) : Option (Bool) :=
 bd (slices_IndexFunc_TreeWord_TreeWord_impl_TreeWorldOk_1_m a0 a1c0) fun x1 =>
 some (decide (x1 ≥ 0))

theorem slices_ContainsFunc_TreeWord_TreeWord_impl_TreeWorldOk_1_c {a0 : (List TreeWord)} {a1c0 : TreeWorld} {r : Bool} (h : slices_ContainsFunc_TreeWord_TreeWord_impl_TreeWorldOk_1_m a0 a1c0 = some r) : PureC Try.prog 78 [.d (slD TreeWord.enc a0), .fn 79 [.rp [slD TreeBridge.enc a1c0.Bridges, slD TreeLink.enc a1c0.Links, slD encInt a1c0.Down, slD TreeSlot.enc a1c0.AtA, slD TreeSlot.enc a1c0.AtB, slD TreeWord.enc a1c0.Radio]]] (.d (.bool r)) [] := by
  refine pureC_m tOk (fn := Try.f78) (c := codeOf Try.f78) rfl rfl (by kernel_rfl) rfl rfl (by simp) (by simp) (ids_of rfl) ?_
  unfold slices_ContainsFunc_TreeWord_TreeWord_impl_TreeWorldOk_1_m at h
  conv => whnf
  obtain ⟨x1, hx1, h⟩ := bd_some h
  refine callC 0 (slices_IndexFunc_TreeWord_TreeWord_impl_TreeWorldOk_1_c hx1) (by kernel_rfl) (by kernel_rfl) ?_
  clear hx1
  conv => whnf
  obtain rfl := Option.some.inj h
  exact ⟨_, LE.refl _, And.intro rfl trivial⟩

noncomputable def impl_TreeWorldOk_m (a0 : TreeWorld) : Option (Bool) :=
 bd (impl_TreeLinksOk_m ((a0.Bridges.length : Nat) : Int) a0.Links) fun x1 =>
 bd (gcall ((!x1) = false) (impl_TreeWorld_bridgesOk_m a0)) fun x2 =>
(if (((((!x1) || (!x2)) || (((a0.AtA.length : Nat) : Int) != ((a0.Links.length : Nat) : Int))) || (((a0.AtB.length : Nat) : Int) != ((a0.Links.length : Nat) : Int))) || (decide (((a0.Radio.length : Nat) : Int) > 12))) = true then
 some false
else
 bd (lp (σ := Int) (β := (Unit ⊕ Unit)) (fun s3 =>
(if (decide (s3 < ((a0.Down.length : Nat) : Int))) = true then
 gd ((0 : Int) ≤ s3 ∧ s3 < ((a0.Down.length : Nat) : Int)) <|
 bd (impl_TreeWorld_isLink_m a0 (a0.Down.getD s3.toNat default)) fun x8 =>
 gd ((decide (s3 > 0)) = true → ((!x8) = false → ((0 : Int) ≤ IntKind.i64.wrap (s3 - 1) ∧ IntKind.i64.wrap (s3 - 1) < ((a0.Down.length : Nat) : Int)))) <|
(if ((!x8) || ((decide (s3 > 0)) && (decide ((a0.Down.getD ((IntKind.i64.wrap (s3 - 1)).toNat) default) ≥ (a0.Down.getD s3.toNat default))))) = true then
 some (.inr (.inl ()))
else
 some (.inl (IntKind.i64.wrap (s3 + 1))))
else
 some (.inr (.inr ())))) 0) fun x6 =>
(match x6 with
| .inl d10 =>
 some false
| .inr d11 =>
 bd (lp (σ := Int) (β := (Unit ⊕ Unit)) (fun s12 =>
(if (decide (s12 < ((a0.Links.length : Nat) : Int))) = true then
 bd (impl_TreeWorld_slotOk_m a0 s12 0) fun x16 =>
 bd (gcall ((!x16) = false) (impl_TreeWorld_slotOk_m a0 s12 1)) fun x17 =>
(if ((!x16) || (!x17)) = true then
 some (.inr (.inl ()))
else
 some (.inl (IntKind.i64.wrap (s12 + 1))))
else
 some (.inr (.inr ())))) 0) fun x15 =>
(match x15 with
| .inl d18 =>
 some false
| .inr d19 =>
 bd (slices_ContainsFunc_TreeWord_TreeWord_impl_TreeWorldOk_1_m a0.Radio a0) fun x20 =>
 some (!x20))))

theorem impl_TreeWorldOk_c {a0 : TreeWorld} {r : Bool} (h : impl_TreeWorldOk_m a0 = some r) : PureC Try.prog 26 [.agg [.d (slD TreeBridge.enc a0.Bridges), .d (slD TreeLink.enc a0.Links), .d (slD encInt a0.Down), .d (slD TreeSlot.enc a0.AtA), .d (slD TreeSlot.enc a0.AtB), .d (slD TreeWord.enc a0.Radio)]] (.d (.bool r)) [] := by
  refine pureC_m tOk (fn := Try.f26) (c := codeOf Try.f26) rfl rfl (by kernel_rfl) rfl rfl (by simp) (by simp) (ids_of rfl) ?_
  unfold impl_TreeWorldOk_m at h
  conv => whnf
  refine seq_in tOk ?_
  conv => whnf
  obtain ⟨x1, hx1, h⟩ := bd_some h
  refine callC 0 (impl_TreeLinksOk_c hx1) (by kernel_rfl) (by kernel_rfl) ?_
  clear hx1
  conv => whnf
  obtain ⟨x2, hx2, h⟩ := bd_some h
  refine callG_m rfl rfl rfl rfl rfl rfl (by intro c0; exact impl_TreeWorld_bridgesOk_c (gcall_some hx2 c0)) ?_
  conv => whnf
  refine And.intro (fun e => ?_) (fun e => ?_)
  · replace h := ite_t h e; clear e
    conv => whnf
    obtain rfl := Option.some.inj h
    exact ⟨_, LE.refl _, And.intro rfl trivial⟩
  · replace h := ite_f h e; clear e
    conv => whnf
    refine seq_in tOk ?_
    conv => whnf
    obtain ⟨x6, hx6, h⟩ := bd_some h
    refine loop_m tOk hx6 (fun s3 => ⟨0, 87, [(1, .ref 1 0 0), (42, .d (slD encInt a0.Down)), (43, .d (.int .i64 ((a0.Down.length : Nat) : Int))), (44, .d (.int .i64 s3))], [], [(1, .box 36 [.d (slD TreeBridge.enc a0.Bridges), .d (slD TreeLink.enc a0.Links), .d (slD encInt a0.Down), .d (slD TreeSlot.enc a0.AtA), .d (slD TreeSlot.enc a0.AtB), .d (slD TreeWord.enc a0.Radio)])], []⟩) ?_ ?_
    · refine le_mk ?_ ?_ ?_ <;> (repeat' first | ((conv => whnf); first | exact trivial | refine And.intro ?_ ?_ | exact BLe.refl _ | exact VLe.refl _) | exact trivial | exact rfl | refine And.intro ?_ ?_ | exact BLe.refl _ | exact VLe.refl _ | exact VLe.any _ | exact VLe.nil_osl rfl | exact VLe.nil_sl rfl | exact VLe.built rfl rfl | (refine VLe.osl rfl ?_; (first | rfl | (simp; done) | assumption | (simp [dsub_eq] <;> omega) | omega)) | exact VLe.rows (by first | rfl | (simp; done) | assumption | (simp [dsub_eq] <;> omega) | omega) (fun _ _ => rfl) | exact VLe.rows (by simp [dsub_eq] <;> omega) rows_take | exact VLe.rows (by simp [dsub_eq] <;> omega) rows_dt | exact VLe.rows (by simp [dsub_eq] <;> omega) rows_vt | exact VLe.rows (by simp) (fun i _ => by simp [viewRow_eq, Nat.add_comm]) | refine VLe.aggL ?_ | (refine BLe.rows rfl ?_ fun _ _ => rfl; (first | rfl | (simp; done) | assumption | (simp [dsub_eq] <;> omega) | omega)) | (refine BLe.rows rfl rfl ?_; first | exact rows_take) | refine BLe.box ?_)
    · clear hx6
      intro s3 y4 g5 hy4
      conv => whnf
      refine seq_in tOk ?_
      conv => whnf
      refine And.intro (fun e => ?_) (fun e => ?_)
      · replace g5 := ite_t g5 e; clear e
        conv => whnf
        refine seq_in tOk ?_
        conv => whnf
        obtain ⟨g7, g5⟩ := gd_some g5
        refine And.intro g7 ?_
        clear g7
        conv => whnf
        obtain ⟨x8, hx8, g5⟩ := bd_some g5
        refine callC 0 (impl_TreeWorld_isLink_c hx8) (by kernel_rfl) (by kernel_rfl) ?_
        clear hx8
        conv => whnf
        obtain ⟨g9, g5⟩ := gd_some g5
        refine And.intro g9 ?_
        clear g9
        conv => whnf
        refine And.intro (fun e => ?_) (fun e => ?_)
        · replace g5 := ite_t g5 e; clear e
          conv => whnf
          obtain rfl := Option.some.inj g5
          obtain rfl := hy4 _ rfl
          obtain rfl := Option.some.inj h
          exact ⟨_, LE.refl _, And.intro rfl trivial⟩
        · replace g5 := ite_f g5 e; clear e
          conv => whnf
          obtain rfl := Option.some.inj g5
          refine ⟨_, rfl, le_mk ?_ ?_ ?_⟩ <;> (repeat' first | ((conv => whnf); first | exact trivial | refine And.intro ?_ ?_ | exact BLe.refl _ | exact VLe.refl _) | exact trivial | exact rfl | refine And.intro ?_ ?_ | exact BLe.refl _ | exact VLe.refl _ | exact VLe.any _ | exact VLe.nil_osl rfl | exact VLe.nil_sl rfl | exact VLe.built rfl rfl | (refine VLe.osl rfl ?_; (first | rfl | (simp; done) | assumption | (simp [dsub_eq] <;> omega) | omega)) | exact VLe.rows (by first | rfl | (simp; done) | assumption | (simp [dsub_eq] <;> omega) | omega) (fun _ _ => rfl) | exact VLe.rows (by simp [dsub_eq] <;> omega) rows_take | exact VLe.rows (by simp [dsub_eq] <;> omega) rows_dt | exact VLe.rows (by simp [dsub_eq] <;> omega) rows_vt | exact VLe.rows (by simp) (fun i _ => by simp [viewRow_eq, Nat.add_comm]) | refine VLe.aggL ?_ | (refine BLe.rows rfl ?_ fun _ _ => rfl; (first | rfl | (simp; done) | assumption | (simp [dsub_eq] <;> omega) | omega)) | (refine BLe.rows rfl rfl ?_; first | exact rows_take) | refine BLe.box ?_)
      · replace g5 := ite_f g5 e; clear e
        conv => whnf
        obtain rfl := Option.some.inj g5
        obtain rfl := hy4 _ rfl
        refine seq_in tOk ?_
        conv => whnf
        obtain ⟨x15, hx15, h⟩ := bd_some h
        refine loop_m tOk hx15 (fun s12 => ⟨0, 87, [(1, .ref 1 0 0), (69, .d (.int .i64 ((a0.Links.length : Nat) : Int))), (70, .d (.int .i64 s12))], [], [(1, .box 36 [.d (slD TreeBridge.enc a0.Bridges), .d (slD TreeLink.enc a0.Links), .d (slD encInt a0.Down), .d (slD TreeSlot.enc a0.AtA), .d (slD TreeSlot.enc a0.AtB), .d (slD TreeWord.enc a0.Radio)])], []⟩) ?_ ?_
        · refine le_mk ?_ ?_ ?_ <;> (repeat' first | ((conv => whnf); first | exact trivial | refine And.intro ?_ ?_ | exact BLe.refl _ | exact VLe.refl _) | exact trivial | exact rfl | refine And.intro ?_ ?_ | exact BLe.refl _ | exact VLe.refl _ | exact VLe.any _ | exact VLe.nil_osl rfl | exact VLe.nil_sl rfl | exact VLe.built rfl rfl | (refine VLe.osl rfl ?_; (first | rfl | (simp; done) | assumption | (simp [dsub_eq] <;> omega) | omega)) | exact VLe.rows (by first | rfl | (simp; done) | assumption | (simp [dsub_eq] <;> omega) | omega) (fun _ _ => rfl) | exact VLe.rows (by simp [dsub_eq] <;> omega) rows_take | exact VLe.rows (by simp [dsub_eq] <;> omega) rows_dt | exact VLe.rows (by simp [dsub_eq] <;> omega) rows_vt | exact VLe.rows (by simp) (fun i _ => by simp [viewRow_eq, Nat.add_comm]) | refine VLe.aggL ?_ | (refine BLe.rows rfl ?_ fun _ _ => rfl; (first | rfl | (simp; done) | assumption | (simp [dsub_eq] <;> omega) | omega)) | (refine BLe.rows rfl rfl ?_; first | exact rows_take) | refine BLe.box ?_)
        · clear hx15
          intro s12 y13 g14 hy13
          conv => whnf
          refine seq_in tOk ?_
          conv => whnf
          refine And.intro (fun e => ?_) (fun e => ?_)
          · replace g14 := ite_t g14 e; clear e
            conv => whnf
            refine seq_in tOk ?_
            conv => whnf
            obtain ⟨x16, hx16, g14⟩ := bd_some g14
            refine callC 0 (impl_TreeWorld_slotOk_c hx16) (by kernel_rfl) (by kernel_rfl) ?_
            clear hx16
            conv => whnf
            obtain ⟨x17, hx17, g14⟩ := bd_some g14
            refine callG_m rfl rfl rfl rfl rfl rfl (by intro c0; exact impl_TreeWorld_slotOk_c (gcall_some hx17 c0)) ?_
            conv => whnf
            refine And.intro (fun e => ?_) (fun e => ?_)
            · replace g14 := ite_t g14 e; clear e
              conv => whnf
              obtain rfl := Option.some.inj g14
              obtain rfl := hy13 _ rfl
              obtain rfl := Option.some.inj h
              exact ⟨_, LE.refl _, And.intro rfl trivial⟩
            · replace g14 := ite_f g14 e; clear e
              conv => whnf
              obtain rfl := Option.some.inj g14
              refine ⟨_, rfl, le_mk ?_ ?_ ?_⟩ <;> (repeat' first | ((conv => whnf); first | exact trivial | refine And.intro ?_ ?_ | exact BLe.refl _ | exact VLe.refl _) | exact trivial | exact rfl | refine And.intro ?_ ?_ | exact BLe.refl _ | exact VLe.refl _ | exact VLe.any _ | exact VLe.nil_osl rfl | exact VLe.nil_sl rfl | exact VLe.built rfl rfl | (refine VLe.osl rfl ?_; (first | rfl | (simp; done) | assumption | (simp [dsub_eq] <;> omega) | omega)) | exact VLe.rows (by first | rfl | (simp; done) | assumption | (simp [dsub_eq] <;> omega) | omega) (fun _ _ => rfl) | exact VLe.rows (by simp [dsub_eq] <;> omega) rows_take | exact VLe.rows (by simp [dsub_eq] <;> omega) rows_dt | exact VLe.rows (by simp [dsub_eq] <;> omega) rows_vt | exact VLe.rows (by simp) (fun i _ => by simp [viewRow_eq, Nat.add_comm]) | refine VLe.aggL ?_ | (refine BLe.rows rfl ?_ fun _ _ => rfl; (first | rfl | (simp; done) | assumption | (simp [dsub_eq] <;> omega) | omega)) | (refine BLe.rows rfl rfl ?_; first | exact rows_take) | refine BLe.box ?_)
          · replace g14 := ite_f g14 e; clear e
            conv => whnf
            obtain rfl := Option.some.inj g14
            obtain rfl := hy13 _ rfl
            obtain ⟨x20, hx20, h⟩ := bd_some h
            refine callC 0 (slices_ContainsFunc_TreeWord_TreeWord_impl_TreeWorldOk_1_c hx20) (by kernel_rfl) (by kernel_rfl) ?_
            clear hx20
            conv => whnf
            obtain rfl := Option.some.inj h
            exact ⟨_, LE.refl _, And.intro rfl trivial⟩

noncomputable def impl_TreeWorld_isUp_m (a0 : TreeWorld) (a1 : Int) : Option (Bool) :=
 bd (impl_within_m a1 0 (IntKind.i64.wrap (((a0.Bridges.length : Nat) : Int) - 1))) fun x1 =>
 gd (x1 = true → ((0 : Int) ≤ a1 ∧ a1 < ((a0.Bridges.length : Nat) : Int))) <|
 some (x1 && (a0.Bridges.getD a1.toNat default).Up)

theorem impl_TreeWorld_isUp_c {a0 : TreeWorld} {a1 : Int} {r : Bool} (h : impl_TreeWorld_isUp_m a0 a1 = some r) : PureC Try.prog 55 [.rp [slD TreeBridge.enc a0.Bridges, slD TreeLink.enc a0.Links, slD encInt a0.Down, slD TreeSlot.enc a0.AtA, slD TreeSlot.enc a0.AtB, slD TreeWord.enc a0.Radio], .d (.int .i64 a1)] (.d (.bool r)) [] := by
  refine pureC_m tOk (fn := Try.f55) (c := codeOf Try.f55) rfl rfl (by kernel_rfl) rfl rfl (by simp) (by simp) (ids_of rfl) ?_
  unfold impl_TreeWorld_isUp_m at h
  conv => whnf
  obtain ⟨x1, hx1, h⟩ := bd_some h
  refine callC 0 (impl_within_c hx1) (by kernel_rfl) (by kernel_rfl) ?_
  clear hx1
  conv => whnf
  obtain ⟨g2, h⟩ := gd_some h
  refine And.intro g2 ?_
  clear g2
  conv => whnf
  obtain rfl := Option.some.inj h
  exact ⟨_, LE.refl _, And.intro rfl trivial⟩

noncomputable def impl_TreeWorld_open_m (a0 : TreeWorld) (a1 : Int) : Option (Bool) :=
 gd ((0 : Int) ≤ a1 ∧ a1 < ((a0.Links.length : Nat) : Int)) <|
 bd (impl_TreeWorld_isDown_m a0 a1) fun x2 =>
 gd ((!x2) = true → ((0 : Int) ≤ (a0.Links.getD a1.toNat default).A ∧ (a0.Links.getD a1.toNat default).A < ((a0.Bridges.length : Nat) : Int))) <|
 gd (((!x2) && (a0.Bridges.getD (((a0.Links.getD a1.toNat default).A).toNat) default).Up) = true → ((0 : Int) ≤ (a0.Links.getD a1.toNat default).B ∧ (a0.Links.getD a1.toNat default).B < ((a0.Bridges.length : Nat) : Int))) <|
 some (((!x2) && (a0.Bridges.getD (((a0.Links.getD a1.toNat default).A).toNat) default).Up) && (a0.Bridges.getD (((a0.Links.getD a1.toNat default).B).toNat) default).Up)

theorem impl_TreeWorld_open_c {a0 : TreeWorld} {a1 : Int} {r : Bool} (h : impl_TreeWorld_open_m a0 a1 = some r) : PureC Try.prog 90 [.rp [slD TreeBridge.enc a0.Bridges, slD TreeLink.enc a0.Links, slD encInt a0.Down, slD TreeSlot.enc a0.AtA, slD TreeSlot.enc a0.AtB, slD TreeWord.enc a0.Radio], .d (.int .i64 a1)] (.d (.bool r)) [] := by
  refine pureC_m tOk (fn := Try.f90) (c := codeOf Try.f90) rfl rfl (by kernel_rfl) rfl rfl (by simp) (by simp) (ids_of rfl) ?_
  unfold impl_TreeWorld_open_m at h
  conv => whnf
  obtain ⟨g1, h⟩ := gd_some h
  refine And.intro g1 ?_
  clear g1
  conv => whnf
  obtain ⟨x2, hx2, h⟩ := bd_some h
  obtain ⟨g3, h⟩ := gd_some h
  obtain ⟨g4, h⟩ := gd_some h
  refine draw_k tOk (by kernel_rfl) (fun j => match j with | 2 => some (.pure 0 (.d (.bool x2)) []) | _ => none) 27 [] [[], [], [true, true], [true, true, true], [true, true, true, true], [true, true, true, true, true], [true, true, true, true, true, true], [true, true, true, true, true, true, true], [true, true, true, true, true, true, true, true], [true, true, true, true, true], [true, true, true, true, true, false, false, false, false, true], [true, true, true, true, true, true, true, true, true, true, true], [true, true, true, true, true, true, true, true, true, true, true, true], [true, true, true, true, true, true, true, true, true, true, true, true, true], [true, true, true, true, true, true, true, true, true, true, true, true, true, true], [true, true, true, true, true, true, true, true, true, true, true, true, true, true, true], [true, true, true, true, true, true, true, true, true, true, true, true, true, true, true, true], [true, true, true, true, true, true, true, true, true, true, true, true, true, true, true, true, true], [true, true, true, true, true, true, true, true, true, true, true, true, true, true, true, true, true, true], [true, true, true, true, true, true, true, true, true, true, true, true, true, true, true, true, true, true, true], [true, true, true, true, true, true, true, true, true, true, true, true, true, true, true, true], [true, true, true, true, true, true, true, true, true, true, true, true, true, true, true, true, false, false, false, false, true], [true, true, true, true, true, true, true, true, true, true, true, true, true, true, true, true, true, true, true, true, true, true], [true, true, true, true, true, true, true, true, true, true, true, true, true, true, true, true, true, true, true, true, true, true, true], [true, true, true, true, true, true, true, true, true, true, true, true, true, true, true, true, true, true, true, true, true, true, true, true], [true, true, true, true, true, true, true, true, true, true, true, true, true, true, true, true, true, true, true, true, true, true, true, true, true], [true, true, true, true, true, true, true, true, true, true, true, true, true, true, true, true, true, true, true, true, true, true, true, true, true, true]] [] (by decide) (by kernel_rfl) (by kernel_rfl) ?_
  conv => whnf
  refine And.intro (callD_any (impl_TreeWorld_isDown_c hx2) (by kernel_rfl)) ?_
  conv => whnf
  refine And.intro g3 ?_
  clear g3
  conv => whnf
  refine And.intro g4 ?_
  clear g4
  conv => whnf
  refine And.intro (by kernel_rfl) ?_
  conv => whnf
  obtain rfl := Option.some.inj h
  exact ⟨_, LE.refl _, And.intro rfl trivial⟩

noncomputable def impl_TreeVector_compare_m (a0 : TreeVector) (a1 : TreeVector) : Option (Int) :=
(if (a0.Root != a1.Root) = true then
 some (IntKind.i64.wrap (a0.Root - a1.Root))
else
 some (IntKind.i64.wrap (a0.Cost - a1.Cost)))

theorem impl_TreeVector_compare_c {a0 : TreeVector} {a1 : TreeVector} {r : Int} (h : impl_TreeVector_compare_m a0 a1 = some r) : PureC Try.prog 118 [.agg [.d (.int .i64 a0.Root), .d (.int .i64 a0.Cost), .d (.int .i64 a0.Age)], .agg [.d (.int .i64 a1.Root), .d (.int .i64 a1.Cost), .d (.int .i64 a1.Age)]] (.d (.int .i64 r)) [] := by
  refine pureC_m tOk (fn := Try.f118) (c := codeOf Try.f118) rfl rfl (by kernel_rfl) rfl rfl (by simp) (by simp) (ids_of rfl) ?_
  unfold impl_TreeVector_compare_m at h
  conv => whnf
  refine seq_in tOk ?_
  conv => whnf
  refine And.intro (fun e => ?_) (fun e => ?_)
  · replace h := ite_t h e; clear e
    conv => whnf
    obtain rfl := Option.some.inj h
    exact ⟨_, LE.refl _, And.intro rfl trivial⟩
  · replace h := ite_f h e; clear e
    conv => whnf
    obtain rfl := Option.some.inj h
    exact ⟨_, LE.refl _, And.intro rfl trivial⟩

noncomputable def impl_TreeWorld_lets_m (a0 : TreeWorld) (a1 : Int) (a2 : Int) : Option (Bool) :=
 bd (impl_TreeWorld_bridgeAt_m a0 a1 a2) fun x1 =>
 gd ((0 : Int) ≤ x1 ∧ x1 < ((a0.Bridges.length : Nat) : Int)) <|
 bd (impl_TreeWorld_bridgeAt_m a0 a1 (IntKind.i64.wrap (1 - a2))) fun x3 =>
 gd ((0 : Int) ≤ x3 ∧ x3 < ((a0.Bridges.length : Nat) : Int)) <|
 bd (impl_TreeWorld_slot_m a0 a1 a2) fun x5 =>
 bd (gcall (((((a0.Bridges.getD x1.toNat default).Mind).Link) == a1) = false) (impl_TreeVector_nothing_m x5.Vector)) fun x6 =>
(if (((((a0.Bridges.getD x1.toNat default).Mind).Link) == a1) || x6) = true then
 some true
else
 bd (impl_TreeVector_compare_m (((a0.Bridges.getD x1.toNat default).Mind).Vector) x5.Vector) fun x7 =>
 some ((decide (x7 < 0)) || ((x7 == 0) && (decide (((a0.Bridges.getD x1.toNat default).Id) < ((a0.Bridges.getD x3.toNat default).Id))))))

theorem impl_TreeWorld_lets_c {a0 : TreeWorld} {a1 : Int} {a2 : Int} {r : Bool} (h : impl_TreeWorld_lets_m a0 a1 a2 = some r) : PureC Try.prog 105 [.rp [slD TreeBridge.enc a0.Bridges, slD TreeLink.enc a0.Links, slD encInt a0.Down, slD TreeSlot.enc a0.AtA, slD TreeSlot.enc a0.AtB, slD TreeWord.enc a0.Radio], .d (.int .i64 a1), .d (.int .i64 a2)] (.d (.bool r)) [] := by
  refine pureC_m tOk (fn := Try.f105) (c := codeOf Try.f105) rfl rfl (by kernel_rfl) rfl rfl (by simp) (by simp) (ids_of rfl) ?_
  unfold impl_TreeWorld_lets_m at h
  conv => whnf
  obtain ⟨x1, hx1, h⟩ := bd_some h
  obtain ⟨g2, h⟩ := gd_some h
  obtain ⟨x3, hx3, h⟩ := bd_some h
  obtain ⟨g4, h⟩ := gd_some h
  refine draw_gk tOk (by kernel_rfl) (fun j => match j with | 7 => some (.pure 0 (.d (.int .i64 x1)) []) | 18 => some (.pure 0 (.d (.int .i64 x3)) []) | 21 => some (.app [] (.ref 7 0 0) [(7, .box 58 [.d (.int .i64 0), .d (.bool false), .d (.int .i64 0), .d (.int .i64 0), .d (.int .i64 0), .d (.int .i64 0)])]) | 22 => some (.app [] (.ref 8 0 0) [(8, .box 58 [.d (.int .i64 0), .d (.bool false), .d (.int .i64 0), .d (.int .i64 0), .d (.int .i64 0), .d (.int .i64 0)])]) | 23 => some (.app [(7, .box 58 [.d (.int .i64 0), .d (.bool false), .d (.int .i64 0), .d (.int .i64 0), .d (.int .i64 0), .d (.int .i64 0)])] (.any) [(7, .box 58 [.d (.int .i64 ((a0.Bridges.getD x1.toNat default).Id)), .d (.bool ((a0.Bridges.getD x1.toNat default).Up)), .d (.int .i64 ((((a0.Bridges.getD x1.toNat default).Mind).Vector).Root)), .d (.int .i64 ((((a0.Bridges.getD x1.toNat default).Mind).Vector).Cost)), .d (.int .i64 ((((a0.Bridges.getD x1.toNat default).Mind).Vector).Age)), .d (.int .i64 (((a0.Bridges.getD x1.toNat default).Mind).Link))])]) | 24 => some (.app [(8, .box 58 [.d (.int .i64 0), .d (.bool false), .d (.int .i64 0), .d (.int .i64 0), .d (.int .i64 0), .d (.int .i64 0)])] (.any) [(8, .box 58 [.d (.int .i64 ((a0.Bridges.getD x3.toNat default).Id)), .d (.bool ((a0.Bridges.getD x3.toNat default).Up)), .d (.int .i64 ((((a0.Bridges.getD x3.toNat default).Mind).Vector).Root)), .d (.int .i64 ((((a0.Bridges.getD x3.toNat default).Mind).Vector).Cost)), .d (.int .i64 ((((a0.Bridges.getD x3.toNat default).Mind).Vector).Age)), .d (.int .i64 (((a0.Bridges.getD x3.toNat default).Mind).Link))])]) | _ => none) (fun j => match j with | 23 => [(7, .box 58 [.d (.int .i64 0), .d (.bool false), .d (.int .i64 0), .d (.int .i64 0), .d (.int .i64 0), .d (.int .i64 0)])] | 24 => [(8, .box 58 [.d (.int .i64 0), .d (.bool false), .d (.int .i64 0), .d (.int .i64 0), .d (.int .i64 0), .d (.int .i64 0)])] | _ => []) (fun _ => []) 25 [] [[], [true], [true, true], [true, true, true], [], [], [], [false, false, false, false, true, true, true], [true, true, true, true, true, true, true, true], [true, true, true, true, true, true, true, true, true], [], [false, false, false, false, false, false, false, false, false, false, true], [false, false, false, false, false, false, false, false, false, false, true, true], [false, false, false, false, false, false, false, false, false, false, true, true, true], [], [], [], [false, false, false, false, false, false, false, false, false, false, false, false, false, false, false, false, true], [false, false, false, false, true, true, true, true, false, false, false, false, false, false, true, true, true, true], [false, false, false, false, true, true, true, true, false, false, true, true, true, true, true, true, true, true, true], [false, false, false, false, true, true, true, true, false, false, true, true, true, true, true, true, true, true, true, true], [], [], [true, true, true, true, true, true, true, true, true, true, false, false, false, false, true, true, true, true, true, false, false, true, true], [true, true, true, true, true, true, true, true, true, true, true, true, true, true, true, true, true, true, true, true, true, true, true, true]] [] [] (by decide) (by kernel_rfl) (chainG_app rfl rfl rfl rfl (chainG_app rfl rfl rfl rfl (chainG_app rfl rfl rfl rfl (chainG_app rfl rfl rfl rfl (chainG_pure rfl (chainG_pure rfl (chainG_pure rfl (chainG_pure rfl (chainG_pure rfl (chainG_pure rfl (chainG_pure rfl (chainG_pure rfl (chainG_pure rfl (chainG_pure rfl (chainG_pure rfl (chainG_pure rfl (chainG_pure rfl (chainG_pure rfl (chainG_pure rfl (chainG_pure rfl (chainG_pure rfl (chainG_pure rfl (chainG_pure rfl (chainG_pure rfl (chainG_pure rfl (chainG_nil)))))))))))))))))))))))))) (by kernel_rfl) ?_
  conv => whnf
  refine And.intro (callD_any (impl_TreeWorld_bridgeAt_c hx1) (by kernel_rfl)) ?_
  conv => whnf
  refine And.intro g2 ?_
  clear g2
  conv => whnf
  refine And.intro (callD_any (impl_TreeWorld_bridgeAt_c hx3) (by kernel_rfl)) ?_
  conv => whnf
  refine And.intro g4 ?_
  clear g4
  conv => whnf
  refine And.intro (by (conv => whnf); exact ⟨rfl, rfl⟩) ?_
  conv => whnf
  refine And.intro (by (conv => whnf); exact ⟨rfl, rfl⟩) ?_
  conv => whnf
  refine And.intro (by (conv => whnf); exact ⟨rfl, rfl⟩) ?_
  conv => whnf
  refine And.intro (by (conv => whnf); exact ⟨rfl, rfl⟩) ?_
  conv => whnf
  refine And.intro (by kernel_rfl) ?_
  conv => whnf
  obtain ⟨x5, hx5, h⟩ := bd_some h
  refine callE [] 0 (impl_TreeWorld_slot_c hx5) (by (repeat' first | ((conv => whnf); first | exact trivial | refine And.intro ?_ ?_ | exact BLe.refl _ | exact VLe.refl _) | exact trivial | refine And.intro ?_ ?_ | exact VLe.refl _ | exact VLe.any _ | exact VLe.nil_osl rfl | exact VLe.nil_sl rfl | exact VLe.built rfl rfl | (refine VLe.osl rfl ?_; (first | rfl | (simp; done) | assumption | (simp [dsub_eq] <;> omega) | omega)) | exact VLe.rows (by first | rfl | (simp; done) | assumption | (simp [dsub_eq] <;> omega) | omega) (fun _ _ => rfl) | exact VLe.rows (by simp [dsub_eq] <;> omega) rows_take | exact VLe.rows (by simp [dsub_eq] <;> omega) rows_dt | exact VLe.rows (by simp [dsub_eq] <;> omega) rows_vt | exact VLe.rows (by simp) (fun i _ => by simp [viewRow_eq, Nat.add_comm]) | refine VLe.aggL ?_)) (by (repeat' first | ((conv => whnf); first | exact trivial | refine And.intro ?_ ?_ | exact BLe.refl _ | exact VLe.refl _) | exact trivial | exact rfl | refine And.intro ?_ ?_ | exact BLe.refl _ | exact VLe.refl _ | exact VLe.any _ | exact VLe.nil_osl rfl | exact VLe.nil_sl rfl | exact VLe.built rfl rfl | (refine VLe.osl rfl ?_; (first | rfl | (simp; done) | assumption | (simp [dsub_eq] <;> omega) | omega)) | exact VLe.rows (by first | rfl | (simp; done) | assumption | (simp [dsub_eq] <;> omega) | omega) (fun _ _ => rfl) | exact VLe.rows (by simp [dsub_eq] <;> omega) rows_take | exact VLe.rows (by simp [dsub_eq] <;> omega) rows_dt | exact VLe.rows (by simp [dsub_eq] <;> omega) rows_vt | exact VLe.rows (by simp) (fun i _ => by simp [viewRow_eq, Nat.add_comm]) | refine VLe.aggL ?_ | (refine BLe.rows rfl ?_ fun _ _ => rfl; (first | rfl | (simp; done) | assumption | (simp [dsub_eq] <;> omega) | omega)) | refine BLe.box ?_ | (simp; done))) rfl rfl ?_
  conv => whnf
  refine seq_in tOk ?_
  conv => whnf
  obtain ⟨x6, hx6, h⟩ := bd_some h
  refine callG_m rfl rfl rfl rfl rfl rfl (by intro c0; exact impl_TreeVector_nothing_c (gcall_some hx6 c0)) ?_
  conv => whnf
  refine And.intro (fun e => ?_) (fun e => ?_)
  · replace h := ite_t h e; clear e
    conv => whnf
    obtain rfl := Option.some.inj h
    exact ⟨_, LE.refl _, And.intro rfl trivial⟩
  · replace h := ite_f h e; clear e
    conv => whnf
    obtain ⟨x7, hx7, h⟩ := bd_some h
    refine callC 0 (impl_TreeVector_compare_c hx7) (by kernel_rfl) (by kernel_rfl) ?_
    clear hx7
    conv => whnf
    obtain rfl := Option.some.inj h
    exact ⟨_, LE.refl _, And.intro rfl trivial⟩

noncomputable def impl_TreeWorld_passes_m (a0 : TreeWorld) : Option ((List Int)) :=
 bd (lp (σ := List Int × Int) (β := (Nat × (List Int))) (fun s1 =>
(if (decide (s1.2 < ((a0.Links.length : Nat) : Int))) = true then
 bd (impl_TreeWorld_open_m a0 s1.2) fun x5 =>
 bd (gcall (x5 = true) (impl_TreeWorld_lets_m a0 s1.2 0)) fun x6 =>
 bd (gcall ((x5 && x6) = true) (impl_TreeWorld_lets_m a0 s1.2 1)) fun x7 =>
(if ((x5 && x6) && x7) = true then
 gd (((s1.1.length) + (([s1.2] : List Int).length)) * (8 + 1) ≤ 70368744177664) <|
 some (.inl ((s1.1 ++ ([s1.2] : List Int)), IntKind.i64.wrap (s1.2 + 1)))
else
 some (.inl (s1.1, IntKind.i64.wrap (s1.2 + 1))))
else
 some (.inr (s1.1.length, s1.1)))) (([] : List Int), 0)) fun x4 =>
 some x4.2

theorem impl_TreeWorld_passes_c {a0 : TreeWorld} {r : (List Int)} (h : impl_TreeWorld_passes_m a0 = some r) : PureC Try.prog 56 [.rp [slD TreeBridge.enc a0.Bridges, slD TreeLink.enc a0.Links, slD encInt a0.Down, slD TreeSlot.enc a0.AtA, slD TreeSlot.enc a0.AtB, slD TreeWord.enc a0.Radio]] (.osl 5001 0 r.length) [⟨5001, 3, 1, r.length, rows encInt r⟩] := by
  refine pureC_m tOk (fn := Try.f56) (c := codeOf Try.f56) rfl rfl (by kernel_rfl) rfl rfl (by simp [atomD]) (by simp) (ids_of rfl) ?_
  unfold impl_TreeWorld_passes_m at h
  conv => whnf
  refine seq_in tOk ?_
  conv => whnf
  obtain ⟨x4, hx4, h⟩ := bd_some h
  refine loop_m tOk hx4 (fun s1 => ⟨0, 33, [(0, .rp [slD TreeBridge.enc a0.Bridges, slD TreeLink.enc a0.Links, slD encInt a0.Down, slD TreeSlot.enc a0.AtA, slD TreeSlot.enc a0.AtB, slD TreeWord.enc a0.Radio]), (3, .osl 7001 0 s1.1.length), (10, .d (.int .i64 ((a0.Links.length : Nat) : Int))), (11, .d (.int .i64 s1.2))], [], [(7001, .arr 3 1 s1.1.length (rows encInt s1.1))], []⟩) ?_ ?_
  · refine LE.trans (S' := ⟨0, 33, [(0, .rp [slD TreeBridge.enc a0.Bridges, slD TreeLink.enc a0.Links, slD encInt a0.Down, slD TreeSlot.enc a0.AtA, slD TreeSlot.enc a0.AtB, slD TreeWord.enc a0.Radio]), (3, .d (.nil)), (10, .d (.int .i64 ((a0.Links.length : Nat) : Int))), (11, .d (.int .i64 0))], [], [], []⟩) (le_mk ?_ ?_ ?_) (LE.trans (S' := ⟨0, 33, [(0, .rp [slD TreeBridge.enc a0.Bridges, slD TreeLink.enc a0.Links, slD encInt a0.Down, slD TreeSlot.enc a0.AtA, slD TreeSlot.enc a0.AtB, slD TreeWord.enc a0.Radio]), (3, .d (.nil)), (10, .d (.int .i64 ((a0.Links.length : Nat) : Int))), (11, .d (.int .i64 0))], [], [(7001, .arr 3 1 (([] : List Int).length) (rows encInt ([] : List Int)))], []⟩) (le_ph 7001 3 1 (rows encInt ([] : List Int)) rfl rfl) (le_mk ?_ ?_ ?_)) <;> (repeat' first | ((conv => whnf); first | exact trivial | refine And.intro ?_ ?_ | exact BLe.refl _ | exact VLe.refl _) | exact trivial | exact rfl | refine And.intro ?_ ?_ | exact BLe.refl _ | exact VLe.refl _ | exact VLe.any _ | exact VLe.nil_osl rfl | exact VLe.nil_sl rfl | exact VLe.built rfl rfl | (refine VLe.osl rfl ?_; (first | rfl | (simp; done) | assumption | (simp [dsub_eq] <;> omega) | omega)) | exact VLe.rows (by first | rfl | (simp; done) | assumption | (simp [dsub_eq] <;> omega) | omega) (fun _ _ => rfl) | exact VLe.rows (by simp [dsub_eq] <;> omega) rows_take | exact VLe.rows (by simp [dsub_eq] <;> omega) rows_dt | exact VLe.rows (by simp [dsub_eq] <;> omega) rows_vt | exact VLe.rows (by simp) (fun i _ => by simp [viewRow_eq, Nat.add_comm]) | refine VLe.aggL ?_ | (refine BLe.rows rfl ?_ fun _ _ => rfl; (first | rfl | (simp; done) | assumption | (simp [dsub_eq] <;> omega) | omega)) | (refine BLe.rows rfl rfl ?_; first | exact rows_take) | refine BLe.box ?_)
  · clear hx4
    intro s1 y2 g3 hy2
    conv => whnf
    refine seq_in tOk ?_
    conv => whnf
    refine And.intro (fun e => ?_) (fun e => ?_)
    · replace g3 := ite_t g3 e; clear e
      conv => whnf
      refine seq_in tOk ?_
      conv => whnf
      obtain ⟨x5, hx5, g3⟩ := bd_some g3
      refine callC 0 (impl_TreeWorld_open_c hx5) (by kernel_rfl) (by kernel_rfl) ?_
      clear hx5
      conv => whnf
      obtain ⟨x6, hx6, g3⟩ := bd_some g3
      refine callG_m rfl rfl rfl rfl rfl rfl (by intro c0; exact impl_TreeWorld_lets_c (gcall_some hx6 c0)) ?_
      conv => whnf
      obtain ⟨x7, hx7, g3⟩ := bd_some g3
      refine callG_m rfl rfl rfl rfl rfl rfl (by intro c0; exact impl_TreeWorld_lets_c (gcall_some hx7 c0)) ?_
      conv => whnf
      refine And.intro (fun e => ?_) (fun e => ?_)
      · replace g3 := ite_t g3 e; clear e
        conv => whnf
        refine ⟨([s1.2] : List Int).length, rows encInt ([s1.2] : List Int), rfl, build_rows, ?_⟩
        conv => whnf
        obtain ⟨g8, g3⟩ := gd_some g3
        refine And.intro g8 ?_
        clear g8
        refine ⟨(s1.1 ++ ([s1.2] : List Int)).length, rows encInt (s1.1 ++ ([s1.2] : List Int)), (by first | rfl | (simp; done) | assumption | (simp [dsub_eq] <;> omega) | omega), (by first | exact app_rows (m := ([s1.2] : List Int).length) (by first | rfl | (simp; done) | assumption | (simp [dsub_eq] <;> omega) | omega) (by first | rfl | (simp; done) | assumption | (simp [dsub_eq] <;> omega) | omega) (fun _ _ => rfl) (fun _ _ => rfl) | exact app_rows0 (m := ([s1.2] : List Int).length) (by first | rfl | (simp; done) | assumption | (simp [dsub_eq] <;> omega) | omega) (fun _ _ => rfl) | exact app_rows (m := ([s1.2] : List Int).length) (by first | rfl | (simp; done) | assumption | (simp [dsub_eq] <;> omega) | omega) (by first | rfl | (simp; done) | assumption | (simp [dsub_eq] <;> omega) | omega) (by first | exact fun _ _ => rfl | exact rows_take | (intro i hi; simp only [viewRow_eq, addOff_eq, Int.toNat_zero, Nat.zero_add, Nat.add_zero]; exact rows_take i hi) | exact rows_vt | exact rows_dt | (intro i hi; simp only [viewRow_eq, Nat.zero_add]) | (intro i hi; simp [viewRow_eq])) (by first | exact fun _ _ => rfl | exact rows_take | (intro i hi; simp only [viewRow_eq, addOff_eq, Int.toNat_zero, Nat.zero_add, Nat.add_zero]; exact rows_take i hi) | exact rows_vt | exact rows_dt | (intro i hi; simp only [viewRow_eq, Nat.zero_add]) | (intro i hi; simp [viewRow_eq])) | exact app_rows0 (m := ([s1.2] : List Int).length) (by first | rfl | (simp; done) | assumption | (simp [dsub_eq] <;> omega) | omega) (by first | exact fun _ _ => rfl | exact rows_take | (intro i hi; simp only [viewRow_eq, addOff_eq, Int.toNat_zero, Nat.zero_add, Nat.add_zero]; exact rows_take i hi) | exact rows_vt | exact rows_dt | (intro i hi; simp only [viewRow_eq, Nat.zero_add]) | (intro i hi; simp [viewRow_eq]))), ?_⟩
        conv => whnf
        obtain rfl := Option.some.inj g3
        refine ⟨_, rfl, le_mk ?_ ?_ ?_⟩ <;> (repeat' first | ((conv => whnf); first | exact trivial | refine And.intro ?_ ?_ | exact BLe.refl _ | exact VLe.refl _) | exact trivial | exact rfl | refine And.intro ?_ ?_ | exact BLe.refl _ | exact VLe.refl _ | exact VLe.any _ | exact VLe.nil_osl rfl | exact VLe.nil_sl rfl | exact VLe.built rfl rfl | (refine VLe.osl rfl ?_; (first | rfl | (simp; done) | assumption | (simp [dsub_eq] <;> omega) | omega)) | exact VLe.rows (by first | rfl | (simp; done) | assumption | (simp [dsub_eq] <;> omega) | omega) (fun _ _ => rfl) | exact VLe.rows (by simp [dsub_eq] <;> omega) rows_take | exact VLe.rows (by simp [dsub_eq] <;> omega) rows_dt | exact VLe.rows (by simp [dsub_eq] <;> omega) rows_vt | exact VLe.rows (by simp) (fun i _ => by simp [viewRow_eq, Nat.add_comm]) | refine VLe.aggL ?_ | (refine BLe.rows rfl ?_ fun _ _ => rfl; (first | rfl | (simp; done) | assumption | (simp [dsub_eq] <;> omega) | omega)) | (refine BLe.rows rfl rfl ?_; first | exact rows_take) | refine BLe.box ?_)
      · replace g3 := ite_f g3 e; clear e
        conv => whnf
        obtain rfl := Option.some.inj g3
        refine ⟨_, rfl, le_mk ?_ ?_ ?_⟩ <;> (repeat' first | ((conv => whnf); first | exact trivial | refine And.intro ?_ ?_ | exact BLe.refl _ | exact VLe.refl _) | exact trivial | exact rfl | refine And.intro ?_ ?_ | exact BLe.refl _ | exact VLe.refl _ | exact VLe.any _ | exact VLe.nil_osl rfl | exact VLe.nil_sl rfl | exact VLe.built rfl rfl | (refine VLe.osl rfl ?_; (first | rfl | (simp; done) | assumption | (simp [dsub_eq] <;> omega) | omega)) | exact VLe.rows (by first | rfl | (simp; done) | assumption | (simp [dsub_eq] <;> omega) | omega) (fun _ _ => rfl) | exact VLe.rows (by simp [dsub_eq] <;> omega) rows_take | exact VLe.rows (by simp [dsub_eq] <;> omega) rows_dt | exact VLe.rows (by simp [dsub_eq] <;> omega) rows_vt | exact VLe.rows (by simp) (fun i _ => by simp [viewRow_eq, Nat.add_comm]) | refine VLe.aggL ?_ | (refine BLe.rows rfl ?_ fun _ _ => rfl; (first | rfl | (simp; done) | assumption | (simp [dsub_eq] <;> omega) | omega)) | (refine BLe.rows rfl rfl ?_; first | exact rows_take) | refine BLe.box ?_)
    · replace g3 := ite_f g3 e; clear e
      conv => whnf
      obtain rfl := Option.some.inj g3
      obtain rfl := hy2 _ rfl
      obtain rfl := Option.some.inj h
      refine ⟨⟨0, 33, [(2, .osl 5001 0 (s1.1.length, s1.1).2.length)], [], [(5001, .arr 3 1 (s1.1.length, s1.1).2.length (rows encInt (s1.1.length, s1.1).2))], []⟩, ?_, And.intro rfl ?_⟩
      · refine LE.trans (S' := ⟨0, 33, [(2, .osl 7001 0 (s1.1.length, s1.1).1)], [], [(7001, .arr 3 1 (s1.1.length, s1.1).1 (rows encInt (s1.1.length, s1.1).2))], []⟩) (le_mk ?_ ?_ ?_) (LE.trans (S' := ⟨0, 33, [(2, .osl 5001 0 (s1.1.length, s1.1).1)], [], [(5001, .arr 3 1 (s1.1.length, s1.1).1 (rows encInt (s1.1.length, s1.1).2))], []⟩) (le_swaps [(7001, 5001)] rfl) (le_mk ?_ ?_ ?_)) <;> (repeat' first | ((conv => whnf); first | exact trivial | refine And.intro ?_ ?_ | exact BLe.refl _ | exact VLe.refl _) | exact trivial | exact rfl | refine And.intro ?_ ?_ | exact BLe.refl _ | exact VLe.refl _ | exact VLe.any _ | exact VLe.nil_osl rfl | exact VLe.nil_sl rfl | exact VLe.built rfl rfl | (refine VLe.osl rfl ?_; (first | rfl | (simp; done) | assumption | (simp [dsub_eq] <;> omega) | omega)) | exact VLe.rows (by first | rfl | (simp; done) | assumption | (simp [dsub_eq] <;> omega) | omega) (fun _ _ => rfl) | exact VLe.rows (by simp [dsub_eq] <;> omega) rows_take | exact VLe.rows (by simp [dsub_eq] <;> omega) rows_dt | exact VLe.rows (by simp [dsub_eq] <;> omega) rows_vt | exact VLe.rows (by simp) (fun i _ => by simp [viewRow_eq, Nat.add_comm]) | refine VLe.aggL ?_ | (refine BLe.rows rfl ?_ fun _ _ => rfl; (first | rfl | (simp; done) | assumption | (simp [dsub_eq] <;> omega) | omega)) | (refine BLe.rows rfl rfl ?_; first | exact rows_take) | refine BLe.box ?_)
      · exact And.intro (And.intro rfl (And.intro rfl (fun _ _ => rfl))) (trivial)

noncomputable def impl_TreeFlood_m (a0 : TreeWorld) (a1 : Int) (a2 : Int) : Option ((List Int)) :=
 bd (impl_TreeWorldOk_m a0) fun x1 =>
 bd (gcall ((!x1) = false) (impl_TreeWorld_isUp_m a0 a1)) fun x2 =>
(if ((!x1) || (!x2)) = true then
 some []
else
 bd (impl_TreeWorld_passes_m a0) fun x3 =>
 bd (lp (σ := List frame × Int) (β := (Nat × (List frame))) (fun s4 =>
(if ((decide (s4.2 < ((s4.1.length : Nat) : Int))) && (decide (((s4.1.length : Nat) : Int) ≤ (if 100 < (if 0 > a2 then 0 else a2) then 100 else (if 0 > a2 then 0 else a2))))) = true then
 bd (lp (σ := List frame × Int) (β := (Nat × (List frame))) (fun s8 =>
(if (decide (s8.2 < ((x3.length : Nat) : Int))) = true then
 gd ((0 : Int) ≤ s8.2 ∧ s8.2 < ((x3.length : Nat) : Int)) <|
 bd (lp (σ := List frame × Int) (β := (Nat × (List frame))) (fun s13 =>
(if (decide (s13.2 < 2)) = true then
 gd ((0 : Int) ≤ s4.2 ∧ s4.2 < ((s13.1.length : Nat) : Int)) <|
 bd (gcall (((x3.getD s8.2.toNat default) != ((s13.1.getD s4.2.toNat default).link)) = true) (impl_TreeWorld_bridgeAt_m a0 (x3.getD s8.2.toNat default) s13.2)) fun x18 =>
 gd (((x3.getD s8.2.toNat default) != ((s13.1.getD s4.2.toNat default).link)) = true → ((0 : Int) ≤ s4.2 ∧ s4.2 < ((s13.1.length : Nat) : Int))) <|
(if (((x3.getD s8.2.toNat default) != ((s13.1.getD s4.2.toNat default).link)) && (x18 == ((s13.1.getD s4.2.toNat default).bridge))) = true then
 bd (impl_TreeWorld_bridgeAt_m a0 (x3.getD s8.2.toNat default) (IntKind.i64.wrap (1 - s13.2))) fun x20 =>
 gd (((s13.1.length) + (([(⟨x20, (x3.getD s8.2.toNat default)⟩ : frame)] : List frame).length)) * (16 + 1) ≤ 70368744177664) <|
 some (.inl ((s13.1 ++ ([(⟨x20, (x3.getD s8.2.toNat default)⟩ : frame)] : List frame)), IntKind.i64.wrap (s13.2 + 1)))
else
 some (.inl (s13.1, IntKind.i64.wrap (s13.2 + 1))))
else
 some (.inr (s13.1.length, s13.1)))) (s8.1, 0)) fun x16 =>
 some (.inl (x16.2, IntKind.i64.wrap (s8.2 + 1)))
else
 some (.inr (s8.1.length, s8.1)))) (s4.1, 0)) fun x11 =>
 some (.inl (x11.2, IntKind.i64.wrap (s4.2 + 1)))
else
 some (.inr (s4.1.length, s4.1)))) (([(⟨a1, -1⟩ : frame)] : List frame), 0)) fun x7 =>
 gd ((0 : Int) ≤ (1 : Int) ∧ (1 : Int) ≤ (if (IntKind.i64.wrap ((if 100 < (if 0 > a2 then 0 else a2) then 100 else (if 0 > a2 then 0 else a2)) + 1)) < ((x7.1 : Nat) : Int) then IntKind.i64.wrap ((if 100 < (if 0 > a2 then 0 else a2) then 100 else (if 0 > a2 then 0 else a2)) + 1) else ((x7.1 : Nat) : Int)) ∧ (if (IntKind.i64.wrap ((if 100 < (if 0 > a2 then 0 else a2) then 100 else (if 0 > a2 then 0 else a2)) + 1)) < ((x7.1 : Nat) : Int) then IntKind.i64.wrap ((if 100 < (if 0 > a2 then 0 else a2) then 100 else (if 0 > a2 then 0 else a2)) + 1) else ((x7.1 : Nat) : Int)) ≤ ((x7.1 : Nat) : Int)) <|
 bd (lp (σ := List Int × Int) (β := (Nat × (List Int))) (fun s26 =>
(if (decide (s26.2 < (((dsub (if (IntKind.i64.wrap ((if 100 < (if 0 > a2 then 0 else a2) then 100 else (if 0 > a2 then 0 else a2)) + 1)) < ((x7.1 : Nat) : Int) then IntKind.i64.wrap ((if 100 < (if 0 > a2 then 0 else a2) then 100 else (if 0 > a2 then 0 else a2)) + 1) else ((x7.1 : Nat) : Int)) (1 : Int)) : Nat) : Int))) = true then
 gd ((0 : Int) ≤ s26.2 ∧ s26.2 < (((dsub (if (IntKind.i64.wrap ((if 100 < (if 0 > a2 then 0 else a2) then 100 else (if 0 > a2 then 0 else a2)) + 1)) < ((x7.1 : Nat) : Int) then IntKind.i64.wrap ((if 100 < (if 0 > a2 then 0 else a2) then 100 else (if 0 > a2 then 0 else a2)) + 1) else ((x7.1 : Nat) : Int)) (1 : Int)) : Nat) : Int)) <|
 gd (((s26.1.length) + (([(x7.2.getD ((1 : Int).toNat + s26.2.toNat) default).bridge] : List Int).length)) * (8 + 1) ≤ 70368744177664) <|
 some (.inl ((s26.1 ++ ([(x7.2.getD ((1 : Int).toNat + s26.2.toNat) default).bridge] : List Int)), IntKind.i64.wrap (s26.2 + 1)))
else
 some (.inr (s26.1.length, s26.1)))) (([] : List Int), 0)) fun x29 =>
 some x29.2)

theorem impl_TreeFlood_c {a0 : TreeWorld} {a1 : Int} {a2 : Int} {r : (List Int)} (h : impl_TreeFlood_m a0 a1 a2 = some r) : PureC Try.prog 12 [.agg [.d (slD TreeBridge.enc a0.Bridges), .d (slD TreeLink.enc a0.Links), .d (slD encInt a0.Down), .d (slD TreeSlot.enc a0.AtA), .d (slD TreeSlot.enc a0.AtB), .d (slD TreeWord.enc a0.Radio)], .d (.int .i64 a1), .d (.int .i64 a2)] (.osl 5001 0 r.length) [⟨5001, 3, 1, r.length, rows encInt r⟩] := by
  refine pureC_m tOk (fn := Try.f12) (c := codeOf Try.f12) rfl rfl (by kernel_rfl) rfl rfl (by simp [atomD]) (by simp) (ids_of rfl) ?_
  unfold impl_TreeFlood_m at h
  conv => whnf
  refine seq_in tOk ?_
  conv => whnf
  obtain ⟨x1, hx1, h⟩ := bd_some h
  refine callC 0 (impl_TreeWorldOk_c hx1) (by kernel_rfl) (by kernel_rfl) ?_
  clear hx1
  conv => whnf
  obtain ⟨x2, hx2, h⟩ := bd_some h
  refine callG_m rfl rfl rfl rfl rfl rfl (by intro c0; exact impl_TreeWorld_isUp_c (gcall_some hx2 c0)) ?_
  conv => whnf
  refine And.intro (fun e => ?_) (fun e => ?_)
  · replace h := ite_t h e; clear e
    conv => whnf
    obtain rfl := Option.some.inj h
    refine ⟨⟨0, 101, [(6, .osl 5001 0 (([] : List Int).length))], [], [(5001, .arr 3 1 (([] : List Int).length) (rows encInt ([] : List Int)))], []⟩, ?_, And.intro rfl ?_⟩
    · refine LE.trans (S' := ⟨0, 101, [(6, .d (.nil))], [], [], []⟩) (le_mk ?_ ?_ ?_) (LE.trans (S' := ⟨0, 101, [(6, .d (.nil))], [], [(5001, .arr 3 1 (([] : List Int).length) (rows encInt ([] : List Int)))], []⟩) (le_ph 5001 3 1 (rows encInt ([] : List Int)) rfl rfl) (le_mk ?_ ?_ ?_)) <;> (repeat' first | ((conv => whnf); first | exact trivial | refine And.intro ?_ ?_ | exact BLe.refl _ | exact VLe.refl _) | exact trivial | exact rfl | refine And.intro ?_ ?_ | exact BLe.refl _ | exact VLe.refl _ | exact VLe.any _ | exact VLe.nil_osl rfl | exact VLe.nil_sl rfl | exact VLe.built rfl rfl | (refine VLe.osl rfl ?_; (first | rfl | (simp; done) | assumption | (simp [dsub_eq] <;> omega) | omega)) | exact VLe.rows (by first | rfl | (simp; done) | assumption | (simp [dsub_eq] <;> omega) | omega) (fun _ _ => rfl) | exact VLe.rows (by simp [dsub_eq] <;> omega) rows_take | exact VLe.rows (by simp [dsub_eq] <;> omega) rows_dt | exact VLe.rows (by simp [dsub_eq] <;> omega) rows_vt | exact VLe.rows (by simp) (fun i _ => by simp [viewRow_eq, Nat.add_comm]) | refine VLe.aggL ?_ | (refine BLe.rows rfl ?_ fun _ _ => rfl; (first | rfl | (simp; done) | assumption | (simp [dsub_eq] <;> omega) | omega)) | (refine BLe.rows rfl rfl ?_; first | exact rows_take) | refine BLe.box ?_)
    · exact And.intro (And.intro rfl (And.intro rfl (fun _ _ => rfl))) (trivial)
  · replace h := ite_f h e; clear e
    conv => whnf
    obtain ⟨x3, hx3, h⟩ := bd_some h
    refine callC 1000 (impl_TreeWorld_passes_c hx3) (by kernel_rfl) (by kernel_rfl) ?_
    clear hx3
    conv => whnf
    refine ⟨([(⟨a1, -1⟩ : frame)] : List frame).length, rows frame.enc ([(⟨a1, -1⟩ : frame)] : List frame), rfl, build_rows, ?_⟩
    conv => whnf
    refine seq_in tOk ?_
    conv => whnf
    obtain ⟨x7, hx7, h⟩ := bd_some h
    refine loop_m tOk hx7 (fun s4 => ⟨0, 101, [(2, .d (.int .i64 (if 100 < (if 0 > a2 then 0 else a2) then 100 else (if 0 > a2 then 0 else a2)))), (3, .ref 3 0 0), (7, .osl 6001 0 x3.length), (8, .osl 30 0 s4.1.length), (9, .d (.int .i64 s4.2))], [], [(30, .arr 90 2 s4.1.length (rows frame.enc s4.1)), (6001, .arr 3 1 x3.length (rows encInt x3)), (3, .box 36 [.d (slD TreeBridge.enc a0.Bridges), .d (slD TreeLink.enc a0.Links), .d (slD encInt a0.Down), .d (slD TreeSlot.enc a0.AtA), .d (slD TreeSlot.enc a0.AtB), .d (slD TreeWord.enc a0.Radio)])], []⟩) ?_ ?_
    · refine le_mk ?_ ?_ ?_ <;> (repeat' first | ((conv => whnf); first | exact trivial | refine And.intro ?_ ?_ | exact BLe.refl _ | exact VLe.refl _) | exact trivial | exact rfl | refine And.intro ?_ ?_ | exact BLe.refl _ | exact VLe.refl _ | exact VLe.any _ | exact VLe.nil_osl rfl | exact VLe.nil_sl rfl | exact VLe.built rfl rfl | (refine VLe.osl rfl ?_; (first | rfl | (simp; done) | assumption | (simp [dsub_eq] <;> omega) | omega)) | exact VLe.rows (by first | rfl | (simp; done) | assumption | (simp [dsub_eq] <;> omega) | omega) (fun _ _ => rfl) | exact VLe.rows (by simp [dsub_eq] <;> omega) rows_take | exact VLe.rows (by simp [dsub_eq] <;> omega) rows_dt | exact VLe.rows (by simp [dsub_eq] <;> omega) rows_vt | exact VLe.rows (by simp) (fun i _ => by simp [viewRow_eq, Nat.add_comm]) | refine VLe.aggL ?_ | (refine BLe.rows rfl ?_ fun _ _ => rfl; (first | rfl | (simp; done) | assumption | (simp [dsub_eq] <;> omega) | omega)) | (refine BLe.rows rfl rfl ?_; first | exact rows_take) | refine BLe.box ?_)
    · clear hx7
      intro s4 y5 g6 hy5
      conv => whnf
      refine seq_in tOk ?_
      conv => whnf
      refine And.intro (fun e => ?_) (fun e => ?_)
      · replace g6 := ite_t g6 e; clear e
        conv => whnf
        refine seq_in tOk ?_
        conv => whnf
        obtain ⟨x11, hx11, g6⟩ := bd_some g6
        refine loop_m tOk hx11 (fun s8 => ⟨0, 101, [(2, .d (.int .i64 (if 100 < (if 0 > a2 then 0 else a2) then 100 else (if 0 > a2 then 0 else a2)))), (3, .ref 3 0 0), (7, .osl 6001 0 x3.length), (8, .osl 30 0 s8.1.length), (9, .d (.int .i64 s4.2)), (43, .osl 6001 0 x3.length), (44, .d (.int .i64 ((x3.length : Nat) : Int))), (45, .d (.int .i64 s8.2))], [], [(30, .arr 90 2 s8.1.length (rows frame.enc s8.1)), (6001, .arr 3 1 x3.length (rows encInt x3)), (3, .box 36 [.d (slD TreeBridge.enc a0.Bridges), .d (slD TreeLink.enc a0.Links), .d (slD encInt a0.Down), .d (slD TreeSlot.enc a0.AtA), .d (slD TreeSlot.enc a0.AtB), .d (slD TreeWord.enc a0.Radio)])], []⟩) ?_ ?_
        · refine le_mk ?_ ?_ ?_ <;> (repeat' first | ((conv => whnf); first | exact trivial | refine And.intro ?_ ?_ | exact BLe.refl _ | exact VLe.refl _) | exact trivial | exact rfl | refine And.intro ?_ ?_ | exact BLe.refl _ | exact VLe.refl _ | exact VLe.any _ | exact VLe.nil_osl rfl | exact VLe.nil_sl rfl | exact VLe.built rfl rfl | (refine VLe.osl rfl ?_; (first | rfl | (simp; done) | assumption | (simp [dsub_eq] <;> omega) | omega)) | exact VLe.rows (by first | rfl | (simp; done) | assumption | (simp [dsub_eq] <;> omega) | omega) (fun _ _ => rfl) | exact VLe.rows (by simp [dsub_eq] <;> omega) rows_take | exact VLe.rows (by simp [dsub_eq] <;> omega) rows_dt | exact VLe.rows (by simp [dsub_eq] <;> omega) rows_vt | exact VLe.rows (by simp) (fun i _ => by simp [viewRow_eq, Nat.add_comm]) | refine VLe.aggL ?_ | (refine BLe.rows rfl ?_ fun _ _ => rfl; (first | rfl | (simp; done) | assumption | (simp [dsub_eq] <;> omega) | omega)) | (refine BLe.rows rfl rfl ?_; first | exact rows_take) | refine BLe.box ?_)
        · clear hx11
          intro s8 y9 g10 hy9
          conv => whnf
          refine seq_in tOk ?_
          conv => whnf
          refine And.intro (fun e => ?_) (fun e => ?_)
          · replace g10 := ite_t g10 e; clear e
            conv => whnf
            refine seq_in tOk ?_
            conv => whnf
            obtain ⟨g12, g10⟩ := gd_some g10
            refine And.intro g12 ?_
            clear g12
            conv => whnf
            obtain ⟨x16, hx16, g10⟩ := bd_some g10
            refine loop_m tOk hx16 (fun s13 => ⟨0, 101, [(2, .d (.int .i64 (if 100 < (if 0 > a2 then 0 else a2) then 100 else (if 0 > a2 then 0 else a2)))), (3, .ref 3 0 0), (7, .osl 6001 0 x3.length), (8, .osl 30 0 s13.1.length), (9, .d (.int .i64 s4.2)), (11, .d (.int .i64 (x3.getD s8.2.toNat default))), (43, .osl 6001 0 x3.length), (44, .d (.int .i64 ((x3.length : Nat) : Int))), (45, .d (.int .i64 s8.2)), (49, .d (.int .i64 s13.2))], [], [(30, .arr 90 2 s13.1.length (rows frame.enc s13.1)), (6001, .arr 3 1 x3.length (rows encInt x3)), (3, .box 36 [.d (slD TreeBridge.enc a0.Bridges), .d (slD TreeLink.enc a0.Links), .d (slD encInt a0.Down), .d (slD TreeSlot.enc a0.AtA), .d (slD TreeSlot.enc a0.AtB), .d (slD TreeWord.enc a0.Radio)])], []⟩) ?_ ?_
            · refine le_mk ?_ ?_ ?_ <;> (repeat' first | ((conv => whnf); first | exact trivial | refine And.intro ?_ ?_ | exact BLe.refl _ | exact VLe.refl _) | exact trivial | exact rfl | refine And.intro ?_ ?_ | exact BLe.refl _ | exact VLe.refl _ | exact VLe.any _ | exact VLe.nil_osl rfl | exact VLe.nil_sl rfl | exact VLe.built rfl rfl | (refine VLe.osl rfl ?_; (first | rfl | (simp; done) | assumption | (simp [dsub_eq] <;> omega) | omega)) | exact VLe.rows (by first | rfl | (simp; done) | assumption | (simp [dsub_eq] <;> omega) | omega) (fun _ _ => rfl) | exact VLe.rows (by simp [dsub_eq] <;> omega) rows_take | exact VLe.rows (by simp [dsub_eq] <;> omega) rows_dt | exact VLe.rows (by simp [dsub_eq] <;> omega) rows_vt | exact VLe.rows (by simp) (fun i _ => by simp [viewRow_eq, Nat.add_comm]) | refine VLe.aggL ?_ | (refine BLe.rows rfl ?_ fun _ _ => rfl; (first | rfl | (simp; done) | assumption | (simp [dsub_eq] <;> omega) | omega)) | (refine BLe.rows rfl rfl ?_; first | exact rows_take) | refine BLe.box ?_)
            · clear hx16
              intro s13 y14 g15 hy14
              conv => whnf
              refine seq_in tOk ?_
              conv => whnf
              refine And.intro (fun e => ?_) (fun e => ?_)
              · replace g15 := ite_t g15 e; clear e
                conv => whnf
                refine seq_in tOk ?_
                conv => whnf
                obtain ⟨g17, g15⟩ := gd_some g15
                obtain ⟨x18, hx18, g15⟩ := bd_some g15
                obtain ⟨g19, g15⟩ := gd_some g15
                refine draw_k tOk (by kernel_rfl) (fun j => match j with | 10 => some (.pure 0 (.d (.int .i64 x18)) []) | _ => none) 18 [] [[], [], [], [false, true, true], [false, true, true, true], [false, true, true, true, true], [true, true, true, true, true, true], [true, true, true, true, true, true, true], [true, true, true, true, true, true, true, true], [true, true, true, true, true, true, true, true], [true, true, true, true, true, true, true, true, true, true], [true, true, true, true, true, true, true, true], [true, true, true, true, true, true, true, true], [true, true, true, true, true, true, true, true, false, false, false, true, true], [true, true, true, true, true, true, true, true, false, false, false, true, true, true], [true, true, true, true, true, true, true, true, false, false, false, true, true, true, true], [true, true, true, true, true, true, true, true, true, true, true, true, true, true, true, true], [true, true, true, true, true, true, true, true, true, true, true, true, true, true, true, true, true]] [] (by decide) (by kernel_rfl) (by kernel_rfl) ?_
                conv => whnf
                refine And.intro g17 ?_
                clear g17
                conv => whnf
                refine And.intro (callDG_if rfl rfl rfl rfl (by intro c0; exact impl_TreeWorld_bridgeAt_c (gcall_some hx18 c0))) ?_
                conv => whnf
                refine And.intro g19 ?_
                clear g19
                conv => whnf
                refine And.intro (by kernel_rfl) ?_
                conv => whnf
                refine And.intro (fun e => ?_) (fun e => ?_)
                · replace g15 := ite_t g15 e; clear e
                  conv => whnf
                  obtain ⟨x20, hx20, g15⟩ := bd_some g15
                  refine callC 0 (impl_TreeWorld_bridgeAt_c hx20) (by kernel_rfl) (by kernel_rfl) ?_
                  clear hx20
                  conv => whnf
                  refine ⟨([(⟨x20, (x3.getD s8.2.toNat default)⟩ : frame)] : List frame).length, rows frame.enc ([(⟨x20, (x3.getD s8.2.toNat default)⟩ : frame)] : List frame), rfl, build_rows, ?_⟩
                  conv => whnf
                  obtain ⟨g21, g15⟩ := gd_some g15
                  refine And.intro g21 ?_
                  clear g21
                  refine ⟨(s13.1 ++ ([(⟨x20, (x3.getD s8.2.toNat default)⟩ : frame)] : List frame)).length, rows frame.enc (s13.1 ++ ([(⟨x20, (x3.getD s8.2.toNat default)⟩ : frame)] : List frame)), (by first | rfl | (simp; done) | assumption | (simp [dsub_eq] <;> omega) | omega), (by first | exact app_rows (m := ([(⟨x20, (x3.getD s8.2.toNat default)⟩ : frame)] : List frame).length) (by first | rfl | (simp; done) | assumption | (simp [dsub_eq] <;> omega) | omega) (by first | rfl | (simp; done) | assumption | (simp [dsub_eq] <;> omega) | omega) (fun _ _ => rfl) (fun _ _ => rfl) | exact app_rows0 (m := ([(⟨x20, (x3.getD s8.2.toNat default)⟩ : frame)] : List frame).length) (by first | rfl | (simp; done) | assumption | (simp [dsub_eq] <;> omega) | omega) (fun _ _ => rfl) | exact app_rows (m := ([(⟨x20, (x3.getD s8.2.toNat default)⟩ : frame)] : List frame).length) (by first | rfl | (simp; done) | assumption | (simp [dsub_eq] <;> omega) | omega) (by first | rfl | (simp; done) | assumption | (simp [dsub_eq] <;> omega) | omega) (by first | exact fun _ _ => rfl | exact rows_take | (intro i hi; simp only [viewRow_eq, addOff_eq, Int.toNat_zero, Nat.zero_add, Nat.add_zero]; exact rows_take i hi) | exact rows_vt | exact rows_dt | (intro i hi; simp only [viewRow_eq, Nat.zero_add]) | (intro i hi; simp [viewRow_eq])) (by first | exact fun _ _ => rfl | exact rows_take | (intro i hi; simp only [viewRow_eq, addOff_eq, Int.toNat_zero, Nat.zero_add, Nat.add_zero]; exact rows_take i hi) | exact rows_vt | exact rows_dt | (intro i hi; simp only [viewRow_eq, Nat.zero_add]) | (intro i hi; simp [viewRow_eq])) | exact app_rows0 (m := ([(⟨x20, (x3.getD s8.2.toNat default)⟩ : frame)] : List frame).length) (by first | rfl | (simp; done) | assumption | (simp [dsub_eq] <;> omega) | omega) (by first | exact fun _ _ => rfl | exact rows_take | (intro i hi; simp only [viewRow_eq, addOff_eq, Int.toNat_zero, Nat.zero_add, Nat.add_zero]; exact rows_take i hi) | exact rows_vt | exact rows_dt | (intro i hi; simp only [viewRow_eq, Nat.zero_add]) | (intro i hi; simp [viewRow_eq]))), ?_⟩
                  conv => whnf
                  obtain rfl := Option.some.inj g15
                  refine ⟨_, rfl, le_mk ?_ ?_ ?_⟩ <;> (repeat' first | ((conv => whnf); first | exact trivial | refine And.intro ?_ ?_ | exact BLe.refl _ | exact VLe.refl _) | exact trivial | exact rfl | refine And.intro ?_ ?_ | exact BLe.refl _ | exact VLe.refl _ | exact VLe.any _ | exact VLe.nil_osl rfl | exact VLe.nil_sl rfl | exact VLe.built rfl rfl | (refine VLe.osl rfl ?_; (first | rfl | (simp; done) | assumption | (simp [dsub_eq] <;> omega) | omega)) | exact VLe.rows (by first | rfl | (simp; done) | assumption | (simp [dsub_eq] <;> omega) | omega) (fun _ _ => rfl) | exact VLe.rows (by simp [dsub_eq] <;> omega) rows_take | exact VLe.rows (by simp [dsub_eq] <;> omega) rows_dt | exact VLe.rows (by simp [dsub_eq] <;> omega) rows_vt | exact VLe.rows (by simp) (fun i _ => by simp [viewRow_eq, Nat.add_comm]) | refine VLe.aggL ?_ | (refine BLe.rows rfl ?_ fun _ _ => rfl; (first | rfl | (simp; done) | assumption | (simp [dsub_eq] <;> omega) | omega)) | (refine BLe.rows rfl rfl ?_; first | exact rows_take) | refine BLe.box ?_)
                · replace g15 := ite_f g15 e; clear e
                  conv => whnf
                  obtain rfl := Option.some.inj g15
                  refine ⟨_, rfl, le_mk ?_ ?_ ?_⟩ <;> (repeat' first | ((conv => whnf); first | exact trivial | refine And.intro ?_ ?_ | exact BLe.refl _ | exact VLe.refl _) | exact trivial | exact rfl | refine And.intro ?_ ?_ | exact BLe.refl _ | exact VLe.refl _ | exact VLe.any _ | exact VLe.nil_osl rfl | exact VLe.nil_sl rfl | exact VLe.built rfl rfl | (refine VLe.osl rfl ?_; (first | rfl | (simp; done) | assumption | (simp [dsub_eq] <;> omega) | omega)) | exact VLe.rows (by first | rfl | (simp; done) | assumption | (simp [dsub_eq] <;> omega) | omega) (fun _ _ => rfl) | exact VLe.rows (by simp [dsub_eq] <;> omega) rows_take | exact VLe.rows (by simp [dsub_eq] <;> omega) rows_dt | exact VLe.rows (by simp [dsub_eq] <;> omega) rows_vt | exact VLe.rows (by simp) (fun i _ => by simp [viewRow_eq, Nat.add_comm]) | refine VLe.aggL ?_ | (refine BLe.rows rfl ?_ fun _ _ => rfl; (first | rfl | (simp; done) | assumption | (simp [dsub_eq] <;> omega) | omega)) | (refine BLe.rows rfl rfl ?_; first | exact rows_take) | refine BLe.box ?_)
              · replace g15 := ite_f g15 e; clear e
                conv => whnf
                obtain rfl := Option.some.inj g15
                obtain rfl := hy14 _ rfl
                obtain rfl := Option.some.inj g10
                refine ⟨_, rfl, le_mk ?_ ?_ ?_⟩ <;> (repeat' first | ((conv => whnf); first | exact trivial | refine And.intro ?_ ?_ | exact BLe.refl _ | exact VLe.refl _) | exact trivial | exact rfl | refine And.intro ?_ ?_ | exact BLe.refl _ | exact VLe.refl _ | exact VLe.any _ | exact VLe.nil_osl rfl | exact VLe.nil_sl rfl | exact VLe.built rfl rfl | (refine VLe.osl rfl ?_; (first | rfl | (simp; done) | assumption | (simp [dsub_eq] <;> omega) | omega)) | exact VLe.rows (by first | rfl | (simp; done) | assumption | (simp [dsub_eq] <;> omega) | omega) (fun _ _ => rfl) | exact VLe.rows (by simp [dsub_eq] <;> omega) rows_take | exact VLe.rows (by simp [dsub_eq] <;> omega) rows_dt | exact VLe.rows (by simp [dsub_eq] <;> omega) rows_vt | exact VLe.rows (by simp) (fun i _ => by simp [viewRow_eq, Nat.add_comm]) | refine VLe.aggL ?_ | (refine BLe.rows rfl ?_ fun _ _ => rfl; (first | rfl | (simp; done) | assumption | (simp [dsub_eq] <;> omega) | omega)) | (refine BLe.rows rfl rfl ?_; first | exact rows_take) | refine BLe.box ?_)
          · replace g10 := ite_f g10 e; clear e
            conv => whnf
            obtain rfl := Option.some.inj g10
            obtain rfl := hy9 _ rfl
            obtain rfl := Option.some.inj g6
            refine ⟨_, rfl, le_mk ?_ ?_ ?_⟩ <;> (repeat' first | ((conv => whnf); first | exact trivial | refine And.intro ?_ ?_ | exact BLe.refl _ | exact VLe.refl _) | exact trivial | exact rfl | refine And.intro ?_ ?_ | exact BLe.refl _ | exact VLe.refl _ | exact VLe.any _ | exact VLe.nil_osl rfl | exact VLe.nil_sl rfl | exact VLe.built rfl rfl | (refine VLe.osl rfl ?_; (first | rfl | (simp; done) | assumption | (simp [dsub_eq] <;> omega) | omega)) | exact VLe.rows (by first | rfl | (simp; done) | assumption | (simp [dsub_eq] <;> omega) | omega) (fun _ _ => rfl) | exact VLe.rows (by simp [dsub_eq] <;> omega) rows_take | exact VLe.rows (by simp [dsub_eq] <;> omega) rows_dt | exact VLe.rows (by simp [dsub_eq] <;> omega) rows_vt | exact VLe.rows (by simp) (fun i _ => by simp [viewRow_eq, Nat.add_comm]) | refine VLe.aggL ?_ | (refine BLe.rows rfl ?_ fun _ _ => rfl; (first | rfl | (simp; done) | assumption | (simp [dsub_eq] <;> omega) | omega)) | (refine BLe.rows rfl rfl ?_; first | exact rows_take) | refine BLe.box ?_)
      · replace g6 := ite_f g6 e; clear e
        conv => whnf
        obtain rfl := Option.some.inj g6
        obtain rfl := hy5 _ rfl
        refine seq_in tOk ?_
        conv => whnf
        obtain ⟨g25, h⟩ := gd_some h
        refine And.intro g25 ?_
        conv => whnf
        obtain ⟨x29, hx29, h⟩ := bd_some h
        refine loop_m tOk hx29 (fun s26 => ⟨0, 101, [(13, .osl 7001 0 s26.1.length), (88, .osl 30 ((1 : Int).toNat) (dsub (if (IntKind.i64.wrap ((if 100 < (if 0 > a2 then 0 else a2) then 100 else (if 0 > a2 then 0 else a2)) + 1)) < (((s4.1.length, s4.1).1 : Nat) : Int) then IntKind.i64.wrap ((if 100 < (if 0 > a2 then 0 else a2) then 100 else (if 0 > a2 then 0 else a2)) + 1) else (((s4.1.length, s4.1).1 : Nat) : Int)) (1 : Int))), (89, .d (.int .i64 (((dsub (if (IntKind.i64.wrap ((if 100 < (if 0 > a2 then 0 else a2) then 100 else (if 0 > a2 then 0 else a2)) + 1)) < (((s4.1.length, s4.1).1 : Nat) : Int) then IntKind.i64.wrap ((if 100 < (if 0 > a2 then 0 else a2) then 100 else (if 0 > a2 then 0 else a2)) + 1) else (((s4.1.length, s4.1).1 : Nat) : Int)) (1 : Int)) : Nat) : Int))), (90, .d (.int .i64 s26.2))], [], [(7001, .arr 3 1 s26.1.length (rows encInt s26.1)), (30, .arr 90 2 (s4.1.length, s4.1).1 (rows frame.enc (s4.1.length, s4.1).2))], []⟩) ?_ ?_
        · refine LE.trans (S' := ⟨0, 101, [(13, .d (.nil)), (88, .osl 30 ((1 : Int).toNat) (dsub (if (IntKind.i64.wrap ((if 100 < (if 0 > a2 then 0 else a2) then 100 else (if 0 > a2 then 0 else a2)) + 1)) < (((s4.1.length, s4.1).1 : Nat) : Int) then IntKind.i64.wrap ((if 100 < (if 0 > a2 then 0 else a2) then 100 else (if 0 > a2 then 0 else a2)) + 1) else (((s4.1.length, s4.1).1 : Nat) : Int)) (1 : Int))), (89, .d (.int .i64 (((dsub (if (IntKind.i64.wrap ((if 100 < (if 0 > a2 then 0 else a2) then 100 else (if 0 > a2 then 0 else a2)) + 1)) < (((s4.1.length, s4.1).1 : Nat) : Int) then IntKind.i64.wrap ((if 100 < (if 0 > a2 then 0 else a2) then 100 else (if 0 > a2 then 0 else a2)) + 1) else (((s4.1.length, s4.1).1 : Nat) : Int)) (1 : Int)) : Nat) : Int))), (90, .d (.int .i64 0))], [], [(30, .arr 90 2 (s4.1.length, s4.1).1 (rows frame.enc (s4.1.length, s4.1).2))], []⟩) (le_mk ?_ ?_ ?_) (LE.trans (S' := ⟨0, 101, [(13, .d (.nil)), (88, .osl 30 ((1 : Int).toNat) (dsub (if (IntKind.i64.wrap ((if 100 < (if 0 > a2 then 0 else a2) then 100 else (if 0 > a2 then 0 else a2)) + 1)) < (((s4.1.length, s4.1).1 : Nat) : Int) then IntKind.i64.wrap ((if 100 < (if 0 > a2 then 0 else a2) then 100 else (if 0 > a2 then 0 else a2)) + 1) else (((s4.1.length, s4.1).1 : Nat) : Int)) (1 : Int))), (89, .d (.int .i64 (((dsub (if (IntKind.i64.wrap ((if 100 < (if 0 > a2 then 0 else a2) then 100 else (if 0 > a2 then 0 else a2)) + 1)) < (((s4.1.length, s4.1).1 : Nat) : Int) then IntKind.i64.wrap ((if 100 < (if 0 > a2 then 0 else a2) then 100 else (if 0 > a2 then 0 else a2)) + 1) else (((s4.1.length, s4.1).1 : Nat) : Int)) (1 : Int)) : Nat) : Int))), (90, .d (.int .i64 0))], [], [(7001, .arr 3 1 (([] : List Int).length) (rows encInt ([] : List Int))), (30, .arr 90 2 (s4.1.length, s4.1).1 (rows frame.enc (s4.1.length, s4.1).2))], []⟩) (le_ph 7001 3 1 (rows encInt ([] : List Int)) rfl rfl) (le_mk ?_ ?_ ?_)) <;> (repeat' first | ((conv => whnf); first | exact trivial | refine And.intro ?_ ?_ | exact BLe.refl _ | exact VLe.refl _) | exact trivial | exact rfl | refine And.intro ?_ ?_ | exact BLe.refl _ | exact VLe.refl _ | exact VLe.any _ | exact VLe.nil_osl rfl | exact VLe.nil_sl rfl | exact VLe.built rfl rfl | (refine VLe.osl rfl ?_; (first | rfl | (simp; done) | assumption | (simp [dsub_eq] <;> omega) | omega)) | exact VLe.rows (by first | rfl | (simp; done) | assumption | (simp [dsub_eq] <;> omega) | omega) (fun _ _ => rfl) | exact VLe.rows (by simp [dsub_eq] <;> omega) rows_take | exact VLe.rows (by simp [dsub_eq] <;> omega) rows_dt | exact VLe.rows (by simp [dsub_eq] <;> omega) rows_vt | exact VLe.rows (by simp) (fun i _ => by simp [viewRow_eq, Nat.add_comm]) | refine VLe.aggL ?_ | (refine BLe.rows rfl ?_ fun _ _ => rfl; (first | rfl | (simp; done) | assumption | (simp [dsub_eq] <;> omega) | omega)) | (refine BLe.rows rfl rfl ?_; first | exact rows_take) | refine BLe.box ?_)
        · clear hx29
          intro s26 y27 g28 hy27
          conv => whnf
          refine seq_in tOk ?_
          conv => whnf
          refine And.intro (fun e => ?_) (fun e => ?_)
          · replace g28 := ite_t g28 e; clear e
            conv => whnf
            refine seq_in tOk ?_
            conv => whnf
            obtain ⟨g30, g28⟩ := gd_some g28
            refine And.intro g30 ?_
            clear g30
            conv => whnf
            refine ⟨([((s4.1.length, s4.1).2.getD ((1 : Int).toNat + s26.2.toNat) default).bridge] : List Int).length, rows encInt ([((s4.1.length, s4.1).2.getD ((1 : Int).toNat + s26.2.toNat) default).bridge] : List Int), rfl, build_rows, ?_⟩
            conv => whnf
            obtain ⟨g31, g28⟩ := gd_some g28
            refine And.intro g31 ?_
            clear g31
            refine ⟨(s26.1 ++ ([((s4.1.length, s4.1).2.getD ((1 : Int).toNat + s26.2.toNat) default).bridge] : List Int)).length, rows encInt (s26.1 ++ ([((s4.1.length, s4.1).2.getD ((1 : Int).toNat + s26.2.toNat) default).bridge] : List Int)), (by first | rfl | (simp; done) | assumption | (simp [dsub_eq] <;> omega) | omega), (by first | exact app_rows (m := ([((s4.1.length, s4.1).2.getD ((1 : Int).toNat + s26.2.toNat) default).bridge] : List Int).length) (by first | rfl | (simp; done) | assumption | (simp [dsub_eq] <;> omega) | omega) (by first | rfl | (simp; done) | assumption | (simp [dsub_eq] <;> omega) | omega) (fun _ _ => rfl) (fun _ _ => rfl) | exact app_rows0 (m := ([((s4.1.length, s4.1).2.getD ((1 : Int).toNat + s26.2.toNat) default).bridge] : List Int).length) (by first | rfl | (simp; done) | assumption | (simp [dsub_eq] <;> omega) | omega) (fun _ _ => rfl) | exact app_rows (m := ([((s4.1.length, s4.1).2.getD ((1 : Int).toNat + s26.2.toNat) default).bridge] : List Int).length) (by first | rfl | (simp; done) | assumption | (simp [dsub_eq] <;> omega) | omega) (by first | rfl | (simp; done) | assumption | (simp [dsub_eq] <;> omega) | omega) (by first | exact fun _ _ => rfl | exact rows_take | (intro i hi; simp only [viewRow_eq, addOff_eq, Int.toNat_zero, Nat.zero_add, Nat.add_zero]; exact rows_take i hi) | exact rows_vt | exact rows_dt | (intro i hi; simp only [viewRow_eq, Nat.zero_add]) | (intro i hi; simp [viewRow_eq])) (by first | exact fun _ _ => rfl | exact rows_take | (intro i hi; simp only [viewRow_eq, addOff_eq, Int.toNat_zero, Nat.zero_add, Nat.add_zero]; exact rows_take i hi) | exact rows_vt | exact rows_dt | (intro i hi; simp only [viewRow_eq, Nat.zero_add]) | (intro i hi; simp [viewRow_eq])) | exact app_rows0 (m := ([((s4.1.length, s4.1).2.getD ((1 : Int).toNat + s26.2.toNat) default).bridge] : List Int).length) (by first | rfl | (simp; done) | assumption | (simp [dsub_eq] <;> omega) | omega) (by first | exact fun _ _ => rfl | exact rows_take | (intro i hi; simp only [viewRow_eq, addOff_eq, Int.toNat_zero, Nat.zero_add, Nat.add_zero]; exact rows_take i hi) | exact rows_vt | exact rows_dt | (intro i hi; simp only [viewRow_eq, Nat.zero_add]) | (intro i hi; simp [viewRow_eq]))), ?_⟩
            conv => whnf
            obtain rfl := Option.some.inj g28
            refine ⟨_, rfl, le_mk ?_ ?_ ?_⟩ <;> (repeat' first | ((conv => whnf); first | exact trivial | refine And.intro ?_ ?_ | exact BLe.refl _ | exact VLe.refl _) | exact trivial | exact rfl | refine And.intro ?_ ?_ | exact BLe.refl _ | exact VLe.refl _ | exact VLe.any _ | exact VLe.nil_osl rfl | exact VLe.nil_sl rfl | exact VLe.built rfl rfl | (refine VLe.osl rfl ?_; (first | rfl | (simp; done) | assumption | (simp [dsub_eq] <;> omega) | omega)) | exact VLe.rows (by first | rfl | (simp; done) | assumption | (simp [dsub_eq] <;> omega) | omega) (fun _ _ => rfl) | exact VLe.rows (by simp [dsub_eq] <;> omega) rows_take | exact VLe.rows (by simp [dsub_eq] <;> omega) rows_dt | exact VLe.rows (by simp [dsub_eq] <;> omega) rows_vt | exact VLe.rows (by simp) (fun i _ => by simp [viewRow_eq, Nat.add_comm]) | refine VLe.aggL ?_ | (refine BLe.rows rfl ?_ fun _ _ => rfl; (first | rfl | (simp; done) | assumption | (simp [dsub_eq] <;> omega) | omega)) | (refine BLe.rows rfl rfl ?_; first | exact rows_take) | refine BLe.box ?_)
          · replace g28 := ite_f g28 e; clear e
            conv => whnf
            obtain rfl := Option.some.inj g28
            obtain rfl := hy27 _ rfl
            obtain rfl := Option.some.inj h
            refine ⟨⟨0, 101, [(6, .osl 5001 0 (s26.1.length, s26.1).2.length)], [], [(5001, .arr 3 1 (s26.1.length, s26.1).2.length (rows encInt (s26.1.length, s26.1).2))], []⟩, ?_, And.intro rfl ?_⟩
            · refine LE.trans (S' := ⟨0, 101, [(6, .osl 7001 0 (s26.1.length, s26.1).1)], [], [(7001, .arr 3 1 (s26.1.length, s26.1).1 (rows encInt (s26.1.length, s26.1).2))], []⟩) (le_mk ?_ ?_ ?_) (LE.trans (S' := ⟨0, 101, [(6, .osl 5001 0 (s26.1.length, s26.1).1)], [], [(5001, .arr 3 1 (s26.1.length, s26.1).1 (rows encInt (s26.1.length, s26.1).2))], []⟩) (le_swaps [(7001, 5001)] rfl) (le_mk ?_ ?_ ?_)) <;> (repeat' first | ((conv => whnf); first | exact trivial | refine And.intro ?_ ?_ | exact BLe.refl _ | exact VLe.refl _) | exact trivial | exact rfl | refine And.intro ?_ ?_ | exact BLe.refl _ | exact VLe.refl _ | exact VLe.any _ | exact VLe.nil_osl rfl | exact VLe.nil_sl rfl | exact VLe.built rfl rfl | (refine VLe.osl rfl ?_; (first | rfl | (simp; done) | assumption | (simp [dsub_eq] <;> omega) | omega)) | exact VLe.rows (by first | rfl | (simp; done) | assumption | (simp [dsub_eq] <;> omega) | omega) (fun _ _ => rfl) | exact VLe.rows (by simp [dsub_eq] <;> omega) rows_take | exact VLe.rows (by simp [dsub_eq] <;> omega) rows_dt | exact VLe.rows (by simp [dsub_eq] <;> omega) rows_vt | exact VLe.rows (by simp) (fun i _ => by simp [viewRow_eq, Nat.add_comm]) | refine VLe.aggL ?_ | (refine BLe.rows rfl ?_ fun _ _ => rfl; (first | rfl | (simp; done) | assumption | (simp [dsub_eq] <;> omega) | omega)) | (refine BLe.rows rfl rfl ?_; first | exact rows_take) | refine BLe.box ?_)
            · exact And.intro (And.intro rfl (And.intro rfl (fun _ _ => rfl))) (trivial)

noncomputable def laws_eqIntS_m (a0 : (List Int)) (a1 : (List Int)) : Option (Bool) :=
(if (((a0.length : Nat) : Int) != ((a1.length : Nat) : Int)) = true then
 some false
else
 bd (lp (σ := Int) (β := (Unit ⊕ Unit)) (fun s1 =>
(if (decide (s1 < ((a0.length : Nat) : Int))) = true then
 gd ((0 : Int) ≤ s1 ∧ s1 < ((a0.length : Nat) : Int)) <|
 gd ((0 : Int) ≤ s1 ∧ s1 < ((a1.length : Nat) : Int)) <|
(if ((a0.getD s1.toNat default) != (a1.getD s1.toNat default)) = true then
 some (.inr (.inl ()))
else
 some (.inl (IntKind.i64.wrap (s1 + 1))))
else
 some (.inr (.inr ())))) 0) fun x4 =>
(match x4 with
| .inl d7 =>
 some false
| .inr d8 =>
 some true))

theorem laws_eqIntS_c {a0 : (List Int)} {a1 : (List Int)} {r : Bool} (h : laws_eqIntS_m a0 a1 = some r) : PureC Try.prog 13 [.d (slD encInt a0), .d (slD encInt a1)] (.d (.bool r)) [] := by
  refine pureC_m tOk (fn := Try.f13) (c := codeOf Try.f13) rfl rfl (by kernel_rfl) rfl rfl (by simp) (by simp) (ids_of rfl) ?_
  unfold laws_eqIntS_m at h
  conv => whnf
  refine seq_in tOk ?_
  conv => whnf
  refine And.intro (fun e => ?_) (fun e => ?_)
  · replace h := ite_t h e; clear e
    conv => whnf
    obtain rfl := Option.some.inj h
    exact ⟨_, LE.refl _, And.intro rfl trivial⟩
  · replace h := ite_f h e; clear e
    conv => whnf
    refine seq_in tOk ?_
    conv => whnf
    obtain ⟨x4, hx4, h⟩ := bd_some h
    refine loop_m tOk hx4 (fun s1 => ⟨0, 26, [(0, .d (slD encInt a0)), (1, .d (slD encInt a1)), (5, .d (.int .i64 s1))], [], [], []⟩) ?_ ?_
    · refine le_mk ?_ ?_ ?_ <;> (repeat' first | ((conv => whnf); first | exact trivial | refine And.intro ?_ ?_ | exact BLe.refl _ | exact VLe.refl _) | exact trivial | exact rfl | refine And.intro ?_ ?_ | exact BLe.refl _ | exact VLe.refl _ | exact VLe.any _ | exact VLe.nil_osl rfl | exact VLe.nil_sl rfl | exact VLe.built rfl rfl | (refine VLe.osl rfl ?_; (first | rfl | (simp; done) | assumption | (simp [dsub_eq] <;> omega) | omega)) | exact VLe.rows (by first | rfl | (simp; done) | assumption | (simp [dsub_eq] <;> omega) | omega) (fun _ _ => rfl) | exact VLe.rows (by simp [dsub_eq] <;> omega) rows_take | exact VLe.rows (by simp [dsub_eq] <;> omega) rows_dt | exact VLe.rows (by simp [dsub_eq] <;> omega) rows_vt | exact VLe.rows (by simp) (fun i _ => by simp [viewRow_eq, Nat.add_comm]) | refine VLe.aggL ?_ | (refine BLe.rows rfl ?_ fun _ _ => rfl; (first | rfl | (simp; done) | assumption | (simp [dsub_eq] <;> omega) | omega)) | (refine BLe.rows rfl rfl ?_; first | exact rows_take) | refine BLe.box ?_)
    · clear hx4
      intro s1 y2 g3 hy2
      conv => whnf
      refine seq_in tOk ?_
      conv => whnf
      refine And.intro (fun e => ?_) (fun e => ?_)
      · replace g3 := ite_t g3 e; clear e
        conv => whnf
        refine seq_in tOk ?_
        conv => whnf
        obtain ⟨g5, g3⟩ := gd_some g3
        obtain ⟨g6, g3⟩ := gd_some g3
        refine draw_k tOk (by kernel_rfl) (fun _ => none) 9 [] [[], [], [true, true], [true, true, true], [], [], [false, false, false, false, true, true], [false, false, false, false, true, true, true], [true, true, true, true, true, true, true, true]] [] (by decide) (by kernel_rfl) (by kernel_rfl) ?_
        conv => whnf
        refine And.intro g5 ?_
        clear g5
        conv => whnf
        refine And.intro g6 ?_
        clear g6
        conv => whnf
        refine And.intro (by kernel_rfl) ?_
        conv => whnf
        refine And.intro (fun e => ?_) (fun e => ?_)
        · replace g3 := ite_t g3 e; clear e
          conv => whnf
          obtain rfl := Option.some.inj g3
          obtain rfl := hy2 _ rfl
          obtain rfl := Option.some.inj h
          exact ⟨_, LE.refl _, And.intro rfl trivial⟩
        · replace g3 := ite_f g3 e; clear e
          conv => whnf
          obtain rfl := Option.some.inj g3
          refine ⟨_, rfl, le_mk ?_ ?_ ?_⟩ <;> (repeat' first | ((conv => whnf); first | exact trivial | refine And.intro ?_ ?_ | exact BLe.refl _ | exact VLe.refl _) | exact trivial | exact rfl | refine And.intro ?_ ?_ | exact BLe.refl _ | exact VLe.refl _ | exact VLe.any _ | exact VLe.nil_osl rfl | exact VLe.nil_sl rfl | exact VLe.built rfl rfl | (refine VLe.osl rfl ?_; (first | rfl | (simp; done) | assumption | (simp [dsub_eq] <;> omega) | omega)) | exact VLe.rows (by first | rfl | (simp; done) | assumption | (simp [dsub_eq] <;> omega) | omega) (fun _ _ => rfl) | exact VLe.rows (by simp [dsub_eq] <;> omega) rows_take | exact VLe.rows (by simp [dsub_eq] <;> omega) rows_dt | exact VLe.rows (by simp [dsub_eq] <;> omega) rows_vt | exact VLe.rows (by simp) (fun i _ => by simp [viewRow_eq, Nat.add_comm]) | refine VLe.aggL ?_ | (refine BLe.rows rfl ?_ fun _ _ => rfl; (first | rfl | (simp; done) | assumption | (simp [dsub_eq] <;> omega) | omega)) | (refine BLe.rows rfl rfl ?_; first | exact rows_take) | refine BLe.box ?_)
      · replace g3 := ite_f g3 e; clear e
        conv => whnf
        obtain rfl := Option.some.inj g3
        obtain rfl := hy2 _ rfl
        obtain rfl := Option.some.inj h
        exact ⟨_, LE.refl _, And.intro rfl trivial⟩

noncomputable def laws_eqTreeVector_m (a0 : TreeVector) (a1 : TreeVector) : Option (Bool) :=
(if (a0.Root != a1.Root) = true then
 some false
else
(if (a0.Cost != a1.Cost) = true then
 some false
else
(if (a0.Age != a1.Age) = true then
 some false
else
 some true)))

theorem laws_eqTreeVector_c {a0 : TreeVector} {a1 : TreeVector} {r : Bool} (h : laws_eqTreeVector_m a0 a1 = some r) : PureC Try.prog 114 [.agg [.d (.int .i64 a0.Root), .d (.int .i64 a0.Cost), .d (.int .i64 a0.Age)], .agg [.d (.int .i64 a1.Root), .d (.int .i64 a1.Cost), .d (.int .i64 a1.Age)]] (.d (.bool r)) [] := by
  refine pureC_m tOk (fn := Try.f114) (c := codeOf Try.f114) rfl rfl (by kernel_rfl) rfl rfl (by simp) (by simp) (ids_of rfl) ?_
  unfold laws_eqTreeVector_m at h
  conv => whnf
  refine seq_in tOk ?_
  conv => whnf
  refine And.intro (fun e => ?_) (fun e => ?_)
  · replace h := ite_t h e; clear e
    conv => whnf
    obtain rfl := Option.some.inj h
    exact ⟨_, LE.refl _, And.intro rfl trivial⟩
  · replace h := ite_f h e; clear e
    conv => whnf
    refine seq_in tOk ?_
    conv => whnf
    refine And.intro (fun e => ?_) (fun e => ?_)
    · replace h := ite_t h e; clear e
      conv => whnf
      obtain rfl := Option.some.inj h
      exact ⟨_, LE.refl _, And.intro rfl trivial⟩
    · replace h := ite_f h e; clear e
      conv => whnf
      refine seq_in tOk ?_
      conv => whnf
      refine And.intro (fun e => ?_) (fun e => ?_)
      · replace h := ite_t h e; clear e
        conv => whnf
        obtain rfl := Option.some.inj h
        exact ⟨_, LE.refl _, And.intro rfl trivial⟩
      · replace h := ite_f h e; clear e
        conv => whnf
        obtain rfl := Option.some.inj h
        exact ⟨_, LE.refl _, And.intro rfl trivial⟩

noncomputable def laws_eqTreeMind_m (a0 : TreeMind) (a1 : TreeMind) : Option (Bool) :=
 bd (laws_eqTreeVector_m a0.Vector a1.Vector) fun x1 =>
(if (!x1) = true then
 some false
else
(if (a0.Link != a1.Link) = true then
 some false
else
 some true))

theorem laws_eqTreeMind_c {a0 : TreeMind} {a1 : TreeMind} {r : Bool} (h : laws_eqTreeMind_m a0 a1 = some r) : PureC Try.prog 68 [.agg [.d (.int .i64 a0.Vector.Root), .d (.int .i64 a0.Vector.Cost), .d (.int .i64 a0.Vector.Age), .d (.int .i64 a0.Link)], .agg [.d (.int .i64 a1.Vector.Root), .d (.int .i64 a1.Vector.Cost), .d (.int .i64 a1.Vector.Age), .d (.int .i64 a1.Link)]] (.d (.bool r)) [] := by
  refine pureC_m tOk (fn := Try.f68) (c := codeOf Try.f68) rfl rfl (by kernel_rfl) rfl rfl (by simp) (by simp) (ids_of rfl) ?_
  unfold laws_eqTreeMind_m at h
  conv => whnf
  refine seq_in tOk ?_
  conv => whnf
  obtain ⟨x1, hx1, h⟩ := bd_some h
  refine callC 0 (laws_eqTreeVector_c hx1) (by kernel_rfl) (by kernel_rfl) ?_
  clear hx1
  conv => whnf
  refine And.intro (fun e => ?_) (fun e => ?_)
  · replace h := ite_t h e; clear e
    conv => whnf
    obtain rfl := Option.some.inj h
    exact ⟨_, LE.refl _, And.intro rfl trivial⟩
  · replace h := ite_f h e; clear e
    conv => whnf
    refine seq_in tOk ?_
    conv => whnf
    refine And.intro (fun e => ?_) (fun e => ?_)
    · replace h := ite_t h e; clear e
      conv => whnf
      obtain rfl := Option.some.inj h
      exact ⟨_, LE.refl _, And.intro rfl trivial⟩
    · replace h := ite_f h e; clear e
      conv => whnf
      obtain rfl := Option.some.inj h
      exact ⟨_, LE.refl _, And.intro rfl trivial⟩

noncomputable def laws_eqTreeBridge_m (a0 : TreeBridge) (a1 : TreeBridge) : Option (Bool) :=
(if (a0.Id != a1.Id) = true then
 some false
else
(if (!(a0.Up == a1.Up)) = true then
 some false
else
 bd (laws_eqTreeMind_m a0.Mind a1.Mind) fun x1 =>
(if (!x1) = true then
 some false
else
 some true)))

theorem laws_eqTreeBridge_c {a0 : TreeBridge} {a1 : TreeBridge} {r : Bool} (h : laws_eqTreeBridge_m a0 a1 = some r) : PureC Try.prog 106 [.agg [.d (.int .i64 a0.Id), .d (.bool a0.Up), .d (.int .i64 a0.Mind.Vector.Root), .d (.int .i64 a0.Mind.Vector.Cost), .d (.int .i64 a0.Mind.Vector.Age), .d (.int .i64 a0.Mind.Link)], .agg [.d (.int .i64 a1.Id), .d (.bool a1.Up), .d (.int .i64 a1.Mind.Vector.Root), .d (.int .i64 a1.Mind.Vector.Cost), .d (.int .i64 a1.Mind.Vector.Age), .d (.int .i64 a1.Mind.Link)]] (.d (.bool r)) [] := by
  refine pureC_m tOk (fn := Try.f106) (c := codeOf Try.f106) rfl rfl (by kernel_rfl) rfl rfl (by simp) (by simp) (ids_of rfl) ?_
  unfold laws_eqTreeBridge_m at h
  conv => whnf
  refine seq_in tOk ?_
  conv => whnf
  refine And.intro (fun e => ?_) (fun e => ?_)
  · replace h := ite_t h e; clear e
    conv => whnf
    obtain rfl := Option.some.inj h
    exact ⟨_, LE.refl _, And.intro rfl trivial⟩
  · replace h := ite_f h e; clear e
    conv => whnf
    refine seq_in tOk ?_
    conv => whnf
    refine And.intro (fun e => ?_) (fun e => ?_)
    · replace h := ite_t h e; clear e
      conv => whnf
      obtain rfl := Option.some.inj h
      exact ⟨_, LE.refl _, And.intro rfl trivial⟩
    · replace h := ite_f h e; clear e
      conv => whnf
      refine seq_in tOk ?_
      conv => whnf
      obtain ⟨x1, hx1, h⟩ := bd_some h
      refine callC 0 (laws_eqTreeMind_c hx1) (by kernel_rfl) (by kernel_rfl) ?_
      clear hx1
      conv => whnf
      refine And.intro (fun e => ?_) (fun e => ?_)
      · replace h := ite_t h e; clear e
        conv => whnf
        obtain rfl := Option.some.inj h
        exact ⟨_, LE.refl _, And.intro rfl trivial⟩
      · replace h := ite_f h e; clear e
        conv => whnf
        obtain rfl := Option.some.inj h
        exact ⟨_, LE.refl _, And.intro rfl trivial⟩

noncomputable def laws_eqTreeBridgeS_m (a0 : (List TreeBridge)) (a1 : (List TreeBridge)) : Option (Bool) :=
(if (((a0.length : Nat) : Int) != ((a1.length : Nat) : Int)) = true then
 some false
else
 bd (lp (σ := Int) (β := (Unit ⊕ Unit)) (fun s1 =>
(if (decide (s1 < ((a0.length : Nat) : Int))) = true then
 gd ((0 : Int) ≤ s1 ∧ s1 < ((a0.length : Nat) : Int)) <|
 gd ((0 : Int) ≤ s1 ∧ s1 < ((a1.length : Nat) : Int)) <|
 bd (laws_eqTreeBridge_m ({ (a0.getD s1.toNat default) with Mind := (⟨(((a0.getD s1.toNat default).Mind).Vector), ((a0.getD s1.toNat default).Mind).Link⟩ : TreeMind) }) ({ (a1.getD s1.toNat default) with Mind := (⟨(((a1.getD s1.toNat default).Mind).Vector), ((a1.getD s1.toNat default).Mind).Link⟩ : TreeMind) })) fun x7 =>
(if (!x7) = true then
 some (.inr (.inl ()))
else
 some (.inl (IntKind.i64.wrap (s1 + 1))))
else
 some (.inr (.inr ())))) 0) fun x4 =>
(match x4 with
| .inl d8 =>
 some false
| .inr d9 =>
 some true))

theorem laws_eqTreeBridgeS_c {a0 : (List TreeBridge)} {a1 : (List TreeBridge)} {r : Bool} (h : laws_eqTreeBridgeS_m a0 a1 = some r) : PureC Try.prog 58 [.d (slD TreeBridge.enc a0), .d (slD TreeBridge.enc a1)] (.d (.bool r)) [] := by
  refine pureC_m tOk (fn := Try.f58) (c := codeOf Try.f58) rfl rfl (by kernel_rfl) rfl rfl (by simp) (by simp) (ids_of rfl) ?_
  unfold laws_eqTreeBridgeS_m at h
  conv => whnf
  refine seq_in tOk ?_
  conv => whnf
  refine And.intro (fun e => ?_) (fun e => ?_)
  · replace h := ite_t h e; clear e
    conv => whnf
    obtain rfl := Option.some.inj h
    exact ⟨_, LE.refl _, And.intro rfl trivial⟩
  · replace h := ite_f h e; clear e
    conv => whnf
    refine seq_in tOk ?_
    conv => whnf
    obtain ⟨x4, hx4, h⟩ := bd_some h
    refine loop_m tOk hx4 (fun s1 => ⟨0, 27, [(0, .d (slD TreeBridge.enc a0)), (1, .d (slD TreeBridge.enc a1)), (5, .d (.int .i64 s1))], [], [], []⟩) ?_ ?_
    · refine le_mk ?_ ?_ ?_ <;> (repeat' first | ((conv => whnf); first | exact trivial | refine And.intro ?_ ?_ | exact BLe.refl _ | exact VLe.refl _) | exact trivial | exact rfl | refine And.intro ?_ ?_ | exact BLe.refl _ | exact VLe.refl _ | exact VLe.any _ | exact VLe.nil_osl rfl | exact VLe.nil_sl rfl | exact VLe.built rfl rfl | (refine VLe.osl rfl ?_; (first | rfl | (simp; done) | assumption | (simp [dsub_eq] <;> omega) | omega)) | exact VLe.rows (by first | rfl | (simp; done) | assumption | (simp [dsub_eq] <;> omega) | omega) (fun _ _ => rfl) | exact VLe.rows (by simp [dsub_eq] <;> omega) rows_take | exact VLe.rows (by simp [dsub_eq] <;> omega) rows_dt | exact VLe.rows (by simp [dsub_eq] <;> omega) rows_vt | exact VLe.rows (by simp) (fun i _ => by simp [viewRow_eq, Nat.add_comm]) | refine VLe.aggL ?_ | (refine BLe.rows rfl ?_ fun _ _ => rfl; (first | rfl | (simp; done) | assumption | (simp [dsub_eq] <;> omega) | omega)) | (refine BLe.rows rfl rfl ?_; first | exact rows_take) | refine BLe.box ?_)
    · clear hx4
      intro s1 y2 g3 hy2
      conv => whnf
      refine seq_in tOk ?_
      conv => whnf
      refine And.intro (fun e => ?_) (fun e => ?_)
      · replace g3 := ite_t g3 e; clear e
        conv => whnf
        refine seq_in tOk ?_
        conv => whnf
        obtain ⟨g5, g3⟩ := gd_some g3
        obtain ⟨g6, g3⟩ := gd_some g3
        obtain ⟨x7, hx7, g3⟩ := bd_some g3
        refine draw_k tOk (by kernel_rfl) (fun j => match j with | 8 => some (.pure 0 (.d (.bool x7)) []) | _ => none) 10 [] [[], [], [true, true], [true, true, true], [], [], [false, false, false, false, true, true], [false, false, false, false, true, true, true], [true, true, true, true, true, true, true, true], [true, true, true, true, true, true, true, true, true]] [] (by decide) (by kernel_rfl) (by kernel_rfl) ?_
        conv => whnf
        refine And.intro g5 ?_
        clear g5
        conv => whnf
        refine And.intro g6 ?_
        clear g6
        conv => whnf
        refine And.intro (callD_any (laws_eqTreeBridge_c hx7) (by kernel_rfl)) ?_
        conv => whnf
        refine And.intro (by kernel_rfl) ?_
        conv => whnf
        refine And.intro (fun e => ?_) (fun e => ?_)
        · replace g3 := ite_t g3 e; clear e
          conv => whnf
          obtain rfl := Option.some.inj g3
          obtain rfl := hy2 _ rfl
          obtain rfl := Option.some.inj h
          exact ⟨_, LE.refl _, And.intro rfl trivial⟩
        · replace g3 := ite_f g3 e; clear e
          conv => whnf
          obtain rfl := Option.some.inj g3
          refine ⟨_, rfl, le_mk ?_ ?_ ?_⟩ <;> (repeat' first | ((conv => whnf); first | exact trivial | refine And.intro ?_ ?_ | exact BLe.refl _ | exact VLe.refl _) | exact trivial | exact rfl | refine And.intro ?_ ?_ | exact BLe.refl _ | exact VLe.refl _ | exact VLe.any _ | exact VLe.nil_osl rfl | exact VLe.nil_sl rfl | exact VLe.built rfl rfl | (refine VLe.osl rfl ?_; (first | rfl | (simp; done) | assumption | (simp [dsub_eq] <;> omega) | omega)) | exact VLe.rows (by first | rfl | (simp; done) | assumption | (simp [dsub_eq] <;> omega) | omega) (fun _ _ => rfl) | exact VLe.rows (by simp [dsub_eq] <;> omega) rows_take | exact VLe.rows (by simp [dsub_eq] <;> omega) rows_dt | exact VLe.rows (by simp [dsub_eq] <;> omega) rows_vt | exact VLe.rows (by simp) (fun i _ => by simp [viewRow_eq, Nat.add_comm]) | refine VLe.aggL ?_ | (refine BLe.rows rfl ?_ fun _ _ => rfl; (first | rfl | (simp; done) | assumption | (simp [dsub_eq] <;> omega) | omega)) | (refine BLe.rows rfl rfl ?_; first | exact rows_take) | refine BLe.box ?_)
      · replace g3 := ite_f g3 e; clear e
        conv => whnf
        obtain rfl := Option.some.inj g3
        obtain rfl := hy2 _ rfl
        obtain rfl := Option.some.inj h
        exact ⟨_, LE.refl _, And.intro rfl trivial⟩

noncomputable def laws_eqTreeLink_m (a0 : TreeLink) (a1 : TreeLink) : Option (Bool) :=
(if (a0.A != a1.A) = true then
 some false
else
(if (a0.B != a1.B) = true then
 some false
else
(if (a0.Cost != a1.Cost) = true then
 some false
else
 some true)))

theorem laws_eqTreeLink_c {a0 : TreeLink} {a1 : TreeLink} {r : Bool} (h : laws_eqTreeLink_m a0 a1 = some r) : PureC Try.prog 107 [.agg [.d (.int .i64 a0.A), .d (.int .i64 a0.B), .d (.int .i64 a0.Cost)], .agg [.d (.int .i64 a1.A), .d (.int .i64 a1.B), .d (.int .i64 a1.Cost)]] (.d (.bool r)) [] := by
  refine pureC_m tOk (fn := Try.f107) (c := codeOf Try.f107) rfl rfl (by kernel_rfl) rfl rfl (by simp) (by simp) (ids_of rfl) ?_
  unfold laws_eqTreeLink_m at h
  conv => whnf
  refine seq_in tOk ?_
  conv => whnf
  refine And.intro (fun e => ?_) (fun e => ?_)
  · replace h := ite_t h e; clear e
    conv => whnf
    obtain rfl := Option.some.inj h
    exact ⟨_, LE.refl _, And.intro rfl trivial⟩
  · replace h := ite_f h e; clear e
    conv => whnf
    refine seq_in tOk ?_
    conv => whnf
    refine And.intro (fun e => ?_) (fun e => ?_)
    · replace h := ite_t h e; clear e
      conv => whnf
      obtain rfl := Option.some.inj h
      exact ⟨_, LE.refl _, And.intro rfl trivial⟩
    · replace h := ite_f h e; clear e
      conv => whnf
      refine seq_in tOk ?_
      conv => whnf
      refine And.intro (fun e => ?_) (fun e => ?_)
      · replace h := ite_t h e; clear e
        conv => whnf
        obtain rfl := Option.some.inj h
        exact ⟨_, LE.refl _, And.intro rfl trivial⟩
      · replace h := ite_f h e; clear e
        conv => whnf
        obtain rfl := Option.some.inj h
        exact ⟨_, LE.refl _, And.intro rfl trivial⟩

noncomputable def laws_eqTreeLinkS_m (a0 : (List TreeLink)) (a1 : (List TreeLink)) : Option (Bool) :=
(if (((a0.length : Nat) : Int) != ((a1.length : Nat) : Int)) = true then
 some false
else
 bd (lp (σ := Int) (β := (Unit ⊕ Unit)) (fun s1 =>
(if (decide (s1 < ((a0.length : Nat) : Int))) = true then
 gd ((0 : Int) ≤ s1 ∧ s1 < ((a0.length : Nat) : Int)) <|
 gd ((0 : Int) ≤ s1 ∧ s1 < ((a1.length : Nat) : Int)) <|
 bd (laws_eqTreeLink_m (a0.getD s1.toNat default) (a1.getD s1.toNat default)) fun x7 =>
(if (!x7) = true then
 some (.inr (.inl ()))
else
 some (.inl (IntKind.i64.wrap (s1 + 1))))
else
 some (.inr (.inr ())))) 0) fun x4 =>
(match x4 with
| .inl d8 =>
 some false
| .inr d9 =>
 some true))

theorem laws_eqTreeLinkS_c {a0 : (List TreeLink)} {a1 : (List TreeLink)} {r : Bool} (h : laws_eqTreeLinkS_m a0 a1 = some r) : PureC Try.prog 59 [.d (slD TreeLink.enc a0), .d (slD TreeLink.enc a1)] (.d (.bool r)) [] := by
  refine pureC_m tOk (fn := Try.f59) (c := codeOf Try.f59) rfl rfl (by kernel_rfl) rfl rfl (by simp) (by simp) (ids_of rfl) ?_
  unfold laws_eqTreeLinkS_m at h
  conv => whnf
  refine seq_in tOk ?_
  conv => whnf
  refine And.intro (fun e => ?_) (fun e => ?_)
  · replace h := ite_t h e; clear e
    conv => whnf
    obtain rfl := Option.some.inj h
    exact ⟨_, LE.refl _, And.intro rfl trivial⟩
  · replace h := ite_f h e; clear e
    conv => whnf
    refine seq_in tOk ?_
    conv => whnf
    obtain ⟨x4, hx4, h⟩ := bd_some h
    refine loop_m tOk hx4 (fun s1 => ⟨0, 27, [(0, .d (slD TreeLink.enc a0)), (1, .d (slD TreeLink.enc a1)), (5, .d (.int .i64 s1))], [], [], []⟩) ?_ ?_
    · refine le_mk ?_ ?_ ?_ <;> (repeat' first | ((conv => whnf); first | exact trivial | refine And.intro ?_ ?_ | exact BLe.refl _ | exact VLe.refl _) | exact trivial | exact rfl | refine And.intro ?_ ?_ | exact BLe.refl _ | exact VLe.refl _ | exact VLe.any _ | exact VLe.nil_osl rfl | exact VLe.nil_sl rfl | exact VLe.built rfl rfl | (refine VLe.osl rfl ?_; (first | rfl | (simp; done) | assumption | (simp [dsub_eq] <;> omega) | omega)) | exact VLe.rows (by first | rfl | (simp; done) | assumption | (simp [dsub_eq] <;> omega) | omega) (fun _ _ => rfl) | exact VLe.rows (by simp [dsub_eq] <;> omega) rows_take | exact VLe.rows (by simp [dsub_eq] <;> omega) rows_dt | exact VLe.rows (by simp [dsub_eq] <;> omega) rows_vt | exact VLe.rows (by simp) (fun i _ => by simp [viewRow_eq, Nat.add_comm]) | refine VLe.aggL ?_ | (refine BLe.rows rfl ?_ fun _ _ => rfl; (first | rfl | (simp; done) | assumption | (simp [dsub_eq] <;> omega) | omega)) | (refine BLe.rows rfl rfl ?_; first | exact rows_take) | refine BLe.box ?_)
    · clear hx4
      intro s1 y2 g3 hy2
      conv => whnf
      refine seq_in tOk ?_
      conv => whnf
      refine And.intro (fun e => ?_) (fun e => ?_)
      · replace g3 := ite_t g3 e; clear e
        conv => whnf
        refine seq_in tOk ?_
        conv => whnf
        obtain ⟨g5, g3⟩ := gd_some g3
        obtain ⟨g6, g3⟩ := gd_some g3
        obtain ⟨x7, hx7, g3⟩ := bd_some g3
        refine draw_k tOk (by kernel_rfl) (fun j => match j with | 8 => some (.pure 0 (.d (.bool x7)) []) | _ => none) 10 [] [[], [], [true, true], [true, true, true], [], [], [false, false, false, false, true, true], [false, false, false, false, true, true, true], [true, true, true, true, true, true, true, true], [true, true, true, true, true, true, true, true, true]] [] (by decide) (by kernel_rfl) (by kernel_rfl) ?_
        conv => whnf
        refine And.intro g5 ?_
        clear g5
        conv => whnf
        refine And.intro g6 ?_
        clear g6
        conv => whnf
        refine And.intro (callD_any (laws_eqTreeLink_c hx7) (by kernel_rfl)) ?_
        conv => whnf
        refine And.intro (by kernel_rfl) ?_
        conv => whnf
        refine And.intro (fun e => ?_) (fun e => ?_)
        · replace g3 := ite_t g3 e; clear e
          conv => whnf
          obtain rfl := Option.some.inj g3
          obtain rfl := hy2 _ rfl
          obtain rfl := Option.some.inj h
          exact ⟨_, LE.refl _, And.intro rfl trivial⟩
        · replace g3 := ite_f g3 e; clear e
          conv => whnf
          obtain rfl := Option.some.inj g3
          refine ⟨_, rfl, le_mk ?_ ?_ ?_⟩ <;> (repeat' first | ((conv => whnf); first | exact trivial | refine And.intro ?_ ?_ | exact BLe.refl _ | exact VLe.refl _) | exact trivial | exact rfl | refine And.intro ?_ ?_ | exact BLe.refl _ | exact VLe.refl _ | exact VLe.any _ | exact VLe.nil_osl rfl | exact VLe.nil_sl rfl | exact VLe.built rfl rfl | (refine VLe.osl rfl ?_; (first | rfl | (simp; done) | assumption | (simp [dsub_eq] <;> omega) | omega)) | exact VLe.rows (by first | rfl | (simp; done) | assumption | (simp [dsub_eq] <;> omega) | omega) (fun _ _ => rfl) | exact VLe.rows (by simp [dsub_eq] <;> omega) rows_take | exact VLe.rows (by simp [dsub_eq] <;> omega) rows_dt | exact VLe.rows (by simp [dsub_eq] <;> omega) rows_vt | exact VLe.rows (by simp) (fun i _ => by simp [viewRow_eq, Nat.add_comm]) | refine VLe.aggL ?_ | (refine BLe.rows rfl ?_ fun _ _ => rfl; (first | rfl | (simp; done) | assumption | (simp [dsub_eq] <;> omega) | omega)) | (refine BLe.rows rfl rfl ?_; first | exact rows_take) | refine BLe.box ?_)
      · replace g3 := ite_f g3 e; clear e
        conv => whnf
        obtain rfl := Option.some.inj g3
        obtain rfl := hy2 _ rfl
        obtain rfl := Option.some.inj h
        exact ⟨_, LE.refl _, And.intro rfl trivial⟩

end Go.Proofs.Ytbolhcpkpncmfab
