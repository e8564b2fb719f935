/-
  What some of the program's functions compute: their models, and that the functions compute these; no condition.
-/
import Derived.Test.YtbolhcpkpncmfabTyz
import Derived.Test.YtbolhcpkpncmfabTbz
import Derived.Test.YtbolhcpkpncmfabKz3
set_option linter.all false
namespace Go.Proofs.Ytbolhcpkpncmfab
open Go Go.Ab
set_option maxRecDepth 100000
set_option maxHeartbeats 4000000
noncomputable def impl_TreeWorld_uplink_m (a0 : TreeWorld) (a1 : Int) (a2 : (List Int)) : Option (Int × Int) :=
 bd (lp (σ := Int × Int × Int) (β := (Int × Int)) (fun s1 =>
(if (decide (s1.1 < ((a0.Links.length : Nat) : Int))) = true then
 gd ((0 : Int) ≤ s1.1 ∧ s1.1 < ((a0.Links.length : Nat) : Int)) <|
 bd (lp (σ := Int × Int × Int) (β := (Int × Int)) (fun s6 =>
(if (decide (s6.1 < 2)) = true then
 bd (impl_TreeWorld_bridgeAt_m a0 s1.1 (IntKind.i64.wrap (1 - s6.1))) fun x10 =>
 bd (impl_TreeWorld_open_m a0 s1.1) fun x11 =>
 bd (gcall ((!x11) = false) (impl_TreeWorld_bridgeAt_m a0 s1.1 s6.1)) fun x12 =>
 gd (((!x11) || (x12 != a1)) = false → ((0 : Int) ≤ x10 ∧ x10 < ((a2.length : Nat) : Int))) <|
 gd (((!x11) || (x12 != a1)) = false → ((0 : Int) ≤ a1 ∧ a1 < ((a2.length : Nat) : Int))) <|
(if (((!x11) || (x12 != a1)) || ((IntKind.i64.wrap ((a2.getD x10.toNat default) + ((a0.Links.getD s1.1.toNat default).Cost))) != (a2.getD a1.toNat default))) = true then
 some (.inl (IntKind.i64.wrap (s6.1 + 1), s6.2.1, s6.2.2))
else
 gd ((decide (s6.2.1 < 0)) = false → ((0 : Int) ≤ x10 ∧ x10 < ((a0.Bridges.length : Nat) : Int))) <|
 gd ((decide (s6.2.1 < 0)) = false → ((0 : Int) ≤ s6.2.2 ∧ s6.2.2 < ((a0.Bridges.length : Nat) : Int))) <|
(if ((decide (s6.2.1 < 0)) || (decide (((a0.Bridges.getD x10.toNat default).Id) < ((a0.Bridges.getD s6.2.2.toNat default).Id)))) = true then
 some (.inl (IntKind.i64.wrap (s6.1 + 1), s1.1, x10))
else
 some (.inl (IntKind.i64.wrap (s6.1 + 1), s6.2.1, s6.2.2))))
else
 some (.inr (s6.2.1, s6.2.2)))) (0, s1.2.1, s1.2.2)) fun x9 =>
 some (.inl (IntKind.i64.wrap (s1.1 + 1), x9.1, x9.2))
else
 some (.inr (s1.2.1, s1.2.2)))) (0, -1, -1)) fun x4 =>
 some (x4.1, x4.2)

theorem impl_TreeWorld_uplink_c {a0 : TreeWorld} {a1 : Int} {a2 : (List Int)} {r : Int × Int} (h : impl_TreeWorld_uplink_m a0 a1 a2 = some r) : PureC Try.prog 152 [.rp [slD TreeBridge.enc a0.Bridges, slD TreeLink.enc a0.Links, slD encInt a0.Down, slD TreeSlot.enc a0.AtA, slD TreeSlot.enc a0.AtB, slD TreeWord.enc a0.Radio], .d (.int .i64 a1), .d (slD encInt a2)] (.tup [.d (.int .i64 r.1), .d (.int .i64 r.2)]) [] := by
  refine pureC_m tOk (fn := Try.f152) (c := codeOf Try.f152) rfl rfl (by kernel_rfl) rfl rfl (by simp) (by simp) (ids_of rfl) ?_
  unfold impl_TreeWorld_uplink_m at h
  conv => whnf
  refine seq_in tOk ?_
  conv => whnf
  obtain ⟨x4, hx4, h⟩ := bd_some h
  refine loop_m tOk hx4 (fun s1 => ⟨0, 85, [(0, .rp [slD TreeBridge.enc a0.Bridges, slD TreeLink.enc a0.Links, slD encInt a0.Down, slD TreeSlot.enc a0.AtA, slD TreeSlot.enc a0.AtB, slD TreeWord.enc a0.Radio]), (1, .d (.int .i64 a1)), (2, .d (slD encInt a2)), (8, .d (.int .i64 s1.2.1)), (9, .d (.int .i64 s1.2.2)), (17, .d (slD TreeLink.enc a0.Links)), (18, .d (.int .i64 ((a0.Links.length : Nat) : Int))), (19, .d (.int .i64 s1.1))], [], [], []⟩) ?_ ?_
  · refine le_mk ?_ ?_ ?_ <;> (repeat' first | ((conv => whnf); first | exact trivial | refine And.intro ?_ ?_ | exact BLe.refl _ | exact VLe.refl _) | exact trivial | exact rfl | refine And.intro ?_ ?_ | exact BLe.refl _ | exact VLe.refl _ | exact VLe.any _ | exact VLe.nil_osl rfl | exact VLe.nil_sl rfl | exact VLe.built rfl rfl | (refine VLe.osl rfl ?_; (first | rfl | (simp; done) | assumption | (simp [dsub_eq] <;> omega) | omega)) | exact VLe.rows (by first | rfl | (simp; done) | assumption | (simp [dsub_eq] <;> omega) | omega) (fun _ _ => rfl) | exact VLe.rows (by simp [dsub_eq] <;> omega) rows_take | exact VLe.rows (by simp [dsub_eq] <;> omega) rows_dt | exact VLe.rows (by simp [dsub_eq] <;> omega) rows_vt | exact VLe.rows (by simp) (fun i _ => by simp [viewRow_eq, Nat.add_comm]) | refine VLe.aggL ?_ | (refine BLe.rows rfl ?_ fun _ _ => rfl; (first | rfl | (simp; done) | assumption | (simp [dsub_eq] <;> omega) | omega)) | (refine BLe.rows rfl rfl ?_; first | exact rows_take) | refine BLe.box ?_)
  · clear hx4
    intro s1 y2 g3 hy2
    conv => whnf
    refine seq_in tOk ?_
    conv => whnf
    refine And.intro (fun e => ?_) (fun e => ?_)
    · replace g3 := ite_t g3 e; clear e
      conv => whnf
      refine seq_in tOk ?_
      conv => whnf
      obtain ⟨g5, g3⟩ := gd_some g3
      refine And.intro g5 ?_
      clear g5
      conv => whnf
      obtain ⟨x9, hx9, g3⟩ := bd_some g3
      refine loop_m tOk hx9 (fun s6 => ⟨0, 85, [(0, .rp [slD TreeBridge.enc a0.Bridges, slD TreeLink.enc a0.Links, slD encInt a0.Down, slD TreeSlot.enc a0.AtA, slD TreeSlot.enc a0.AtB, slD TreeWord.enc a0.Radio]), (1, .d (.int .i64 a1)), (2, .d (slD encInt a2)), (8, .d (.int .i64 s6.2.1)), (9, .d (.int .i64 s6.2.2)), (10, .d (.int .i64 s1.1)), (11, .ref 11 0 0), (17, .d (slD TreeLink.enc a0.Links)), (18, .d (.int .i64 ((a0.Links.length : Nat) : Int))), (19, .d (.int .i64 s1.1)), (24, .d (.int .i64 s6.1))], [], [(11, .box 61 [.d (.int .i64 ((a0.Links.getD s1.1.toNat default).A)), .d (.int .i64 ((a0.Links.getD s1.1.toNat default).B)), .d (.int .i64 ((a0.Links.getD s1.1.toNat default).Cost))])], []⟩) ?_ ?_
      · refine le_mk ?_ ?_ ?_ <;> (repeat' first | ((conv => whnf); first | exact trivial | refine And.intro ?_ ?_ | exact BLe.refl _ | exact VLe.refl _) | exact trivial | exact rfl | refine And.intro ?_ ?_ | exact BLe.refl _ | exact VLe.refl _ | exact VLe.any _ | exact VLe.nil_osl rfl | exact VLe.nil_sl rfl | exact VLe.built rfl rfl | (refine VLe.osl rfl ?_; (first | rfl | (simp; done) | assumption | (simp [dsub_eq] <;> omega) | omega)) | exact VLe.rows (by first | rfl | (simp; done) | assumption | (simp [dsub_eq] <;> omega) | omega) (fun _ _ => rfl) | exact VLe.rows (by simp [dsub_eq] <;> omega) rows_take | exact VLe.rows (by simp [dsub_eq] <;> omega) rows_dt | exact VLe.rows (by simp [dsub_eq] <;> omega) rows_vt | exact VLe.rows (by simp) (fun i _ => by simp [viewRow_eq, Nat.add_comm]) | refine VLe.aggL ?_ | (refine BLe.rows rfl ?_ fun _ _ => rfl; (first | rfl | (simp; done) | assumption | (simp [dsub_eq] <;> omega) | omega)) | (refine BLe.rows rfl rfl ?_; first | exact rows_take) | refine BLe.box ?_)
      · clear hx9
        intro s6 y7 g8 hy7
        conv => whnf
        refine seq_in tOk ?_
        conv => whnf
        refine And.intro (fun e => ?_) (fun e => ?_)
        · replace g8 := ite_t g8 e; clear e
          conv => whnf
          refine seq_in tOk ?_
          conv => whnf
          obtain ⟨x10, hx10, g8⟩ := bd_some g8
          refine callC 0 (impl_TreeWorld_bridgeAt_c hx10) (by kernel_rfl) (by kernel_rfl) ?_
          clear hx10
          conv => whnf
          refine seq_in tOk ?_
          conv => whnf
          obtain ⟨x11, hx11, g8⟩ := bd_some g8
          obtain ⟨x12, hx12, g8⟩ := bd_some g8
          obtain ⟨g13, g8⟩ := gd_some g8
          obtain ⟨g14, g8⟩ := gd_some g8
          refine draw_k tOk (by kernel_rfl) (fun j => match j with | 2 => some (.pure 0 (.d (.bool x11)) []) | 8 => some (.pure 0 (.d (.int .i64 x12)) []) | _ => none) 26 [] [[], [], [true, true], [true, true, true], [true, true, true, true], [true, true, true, true, true], [true, true, true, true, true], [true, true, true, true, true], [true, true, true, true, true, true, true, true], [true, true, true, true, true], [true, true, true, true, true, true, true, true, true, true], [true, true, true, true, true, true, true, true, true, true, true], [true, true, true, true, true, true, true, true, true, true, true, true], [true, true, true, true, true, true, true, true, true, true, true, true, true], [true, true, true, true, true, true, true, true, true, true, true, true, true], [true, true, true, true, true, true, true, true, true, true, true, true, true, true, true], [true, true, true, true, true, true, true, true, true, true, true, true, true, true, true, true], [true, true, true, true, true, true, true, true, true, true, true, true, true], [true, true, true, true, true, true, true, true, true, true, true, true, true, false, false, false, false, true], [true, true, true, true, true, true, true, true, true, true, true, true, true, true, true, true, true, true, true], [true, true, true, true, true, true, true, true, true, true, true, true, true], [true, true, true, true, true, true, true, true, true, true, true, true, true], [true, true, true, true, true, true, true, true, true, true, true, true, true, false, false, false, false, false, false, false, true, true], [true, true, true, true, true, true, true, true, true, true, true, true, true, false, false, false, false, false, false, false, true, true, true], [true, true, true, true, true, true, true, true, true, true, true, true, true, true, true, true, true, true, true, true, true, true, true, true], [true, true, true, true, true, true, true, true, true, true, true, true, true, true, true, true, true, true, true, true, true, true, true, true, true]] [] (by decide) (by kernel_rfl) (by kernel_rfl) ?_
          conv => whnf
          refine And.intro (callD_any (impl_TreeWorld_open_c hx11) (by kernel_rfl)) ?_
          conv => whnf
          refine And.intro (callDG_if rfl rfl rfl rfl (by intro c0; exact impl_TreeWorld_bridgeAt_c (gcall_some hx12 c0))) ?_
          conv => whnf
          refine And.intro g13 ?_
          clear g13
          conv => whnf
          refine And.intro g14 ?_
          clear g14
          conv => whnf
          refine And.intro (by kernel_rfl) ?_
          conv => whnf
          refine And.intro (fun e => ?_) (fun e => ?_)
          · replace g8 := ite_t g8 e; clear e
            conv => whnf
            obtain rfl := Option.some.inj g8
            refine ⟨_, rfl, le_mk ?_ ?_ ?_⟩ <;> (repeat' first | ((conv => whnf); first | exact trivial | refine And.intro ?_ ?_ | exact BLe.refl _ | exact VLe.refl _) | exact trivial | exact rfl | refine And.intro ?_ ?_ | exact BLe.refl _ | exact VLe.refl _ | exact VLe.any _ | exact VLe.nil_osl rfl | exact VLe.nil_sl rfl | exact VLe.built rfl rfl | (refine VLe.osl rfl ?_; (first | rfl | (simp; done) | assumption | (simp [dsub_eq] <;> omega) | omega)) | exact VLe.rows (by first | rfl | (simp; done) | assumption | (simp [dsub_eq] <;> omega) | omega) (fun _ _ => rfl) | exact VLe.rows (by simp [dsub_eq] <;> omega) rows_take | exact VLe.rows (by simp [dsub_eq] <;> omega) rows_dt | exact VLe.rows (by simp [dsub_eq] <;> omega) rows_vt | exact VLe.rows (by simp) (fun i _ => by simp [viewRow_eq, Nat.add_comm]) | refine VLe.aggL ?_ | (refine BLe.rows rfl ?_ fun _ _ => rfl; (first | rfl | (simp; done) | assumption | (simp [dsub_eq] <;> omega) | omega)) | (refine BLe.rows rfl rfl ?_; first | exact rows_take) | refine BLe.box ?_)
          · replace g8 := ite_f g8 e; clear e
            conv => whnf
            obtain ⟨g15, g8⟩ := gd_some g8
            obtain ⟨g16, g8⟩ := gd_some g8
            refine draw_k tOk (by kernel_rfl) (fun _ => none) 21 [] [[], [true], [true, true], [true, true, true], [true, true, true, true], [true, true, true, true, true], [true, true, true, true, true, true], [true, true, true], [true, true, true, true, true, true, true, true], [true, true, true, true, true, true, true, true, true], [true, true, true, true, true, true, true, true, true, true], [true, true, true], [true, true, true, false, false, false, false, false, false, false, false, true], [true, true, true, false, false, false, false, false, false, false, false, true, true], [true, true, true, false, false, false, false, false, false, false, false, true, true, true], [true, true, true], [true, true, true, false, false, false, false, false, false, false, false, true, true, true, true, true], [true, true, true, false, false, false, false, false, false, false, false, true, true, true, true, true, true], [true, true, true, false, false, false, false, false, false, false, false, true, true, true, true, true, true, true], [true, true, true, true, true, true, true, true, true, true, true, true, true, true, true, true, true, true, true], [true, true, true, true, true, true, true, true, true, true, true, true, true, true, true, true, true, true, true, true]] [] (by decide) (by kernel_rfl) (by kernel_rfl) ?_
            conv => whnf
            refine And.intro g15 ?_
            clear g15
            conv => whnf
            refine And.intro g16 ?_
            clear g16
            conv => whnf
            refine And.intro (by kernel_rfl) ?_
            conv => whnf
            refine And.intro (fun e => ?_) (fun e => ?_)
            · replace g8 := ite_t g8 e; clear e
              conv => whnf
              obtain rfl := Option.some.inj g8
              refine ⟨_, rfl, le_mk ?_ ?_ ?_⟩ <;> (repeat' first | ((conv => whnf); first | exact trivial | refine And.intro ?_ ?_ | exact BLe.refl _ | exact VLe.refl _) | exact trivial | exact rfl | refine And.intro ?_ ?_ | exact BLe.refl _ | exact VLe.refl _ | exact VLe.any _ | exact VLe.nil_osl rfl | exact VLe.nil_sl rfl | exact VLe.built rfl rfl | (refine VLe.osl rfl ?_; (first | rfl | (simp; done) | assumption | (simp [dsub_eq] <;> omega) | omega)) | exact VLe.rows (by first | rfl | (simp; done) | assumption | (simp [dsub_eq] <;> omega) | omega) (fun _ _ => rfl) | exact VLe.rows (by simp [dsub_eq] <;> omega) rows_take | exact VLe.rows (by simp [dsub_eq] <;> omega) rows_dt | exact VLe.rows (by simp [dsub_eq] <;> omega) rows_vt | exact VLe.rows (by simp) (fun i _ => by simp [viewRow_eq, Nat.add_comm]) | refine VLe.aggL ?_ | (refine BLe.rows rfl ?_ fun _ _ => rfl; (first | rfl | (simp; done) | assumption | (simp [dsub_eq] <;> omega) | omega)) | (refine BLe.rows rfl rfl ?_; first | exact rows_take) | refine BLe.box ?_)
            · replace g8 := ite_f g8 e; clear e
              conv => whnf
              obtain rfl := Option.some.inj g8
              refine ⟨_, rfl, le_mk ?_ ?_ ?_⟩ <;> (repeat' first | ((conv => whnf); first | exact trivial | refine And.intro ?_ ?_ | exact BLe.refl _ | exact VLe.refl _) | exact trivial | exact rfl | refine And.intro ?_ ?_ | exact BLe.refl _ | exact VLe.refl _ | exact VLe.any _ | exact VLe.nil_osl rfl | exact VLe.nil_sl rfl | exact VLe.built rfl rfl | (refine VLe.osl rfl ?_; (first | rfl | (simp; done) | assumption | (simp [dsub_eq] <;> omega) | omega)) | exact VLe.rows (by first | rfl | (simp; done) | assumption | (simp [dsub_eq] <;> omega) | omega) (fun _ _ => rfl) | exact VLe.rows (by simp [dsub_eq] <;> omega) rows_take | exact VLe.rows (by simp [dsub_eq] <;> omega) rows_dt | exact VLe.rows (by simp [dsub_eq] <;> omega) rows_vt | exact VLe.rows (by simp) (fun i _ => by simp [viewRow_eq, Nat.add_comm]) | refine VLe.aggL ?_ | (refine BLe.rows rfl ?_ fun _ _ => rfl; (first | rfl | (simp; done) | assumption | (simp [dsub_eq] <;> omega) | omega)) | (refine BLe.rows rfl rfl ?_; first | exact rows_take) | refine BLe.box ?_)
        · replace g8 := ite_f g8 e; clear e
          conv => whnf
          obtain rfl := Option.some.inj g8
          obtain rfl := hy7 _ rfl
          obtain rfl := Option.some.inj g3
          refine ⟨_, rfl, le_mk ?_ ?_ ?_⟩ <;> (repeat' first | ((conv => whnf); first | exact trivial | refine And.intro ?_ ?_ | exact BLe.refl _ | exact VLe.refl _) | exact trivial | exact rfl | refine And.intro ?_ ?_ | exact BLe.refl _ | exact VLe.refl _ | exact VLe.any _ | exact VLe.nil_osl rfl | exact VLe.nil_sl rfl | exact VLe.built rfl rfl | (refine VLe.osl rfl ?_; (first | rfl | (simp; done) | assumption | (simp [dsub_eq] <;> omega) | omega)) | exact VLe.rows (by first | rfl | (simp; done) | assumption | (simp [dsub_eq] <;> omega) | omega) (fun _ _ => rfl) | exact VLe.rows (by simp [dsub_eq] <;> omega) rows_take | exact VLe.rows (by simp [dsub_eq] <;> omega) rows_dt | exact VLe.rows (by simp [dsub_eq] <;> omega) rows_vt | exact VLe.rows (by simp) (fun i _ => by simp [viewRow_eq, Nat.add_comm]) | refine VLe.aggL ?_ | (refine BLe.rows rfl ?_ fun _ _ => rfl; (first | rfl | (simp; done) | assumption | (simp [dsub_eq] <;> omega) | omega)) | (refine BLe.rows rfl rfl ?_; first | exact rows_take) | refine BLe.box ?_)
    · replace g3 := ite_f g3 e; clear e
      conv => whnf
      obtain rfl := Option.some.inj g3
      obtain rfl := hy2 _ rfl
      obtain rfl := Option.some.inj h
      exact ⟨_, LE.refl _, And.intro rfl trivial⟩

noncomputable def impl_TreeWorld_best_m (a0 : TreeWorld) (a1 : Int) : Option (TreeMind) :=
 bd (impl_TreeWorld_root_m a0 a1) fun x1 =>
 bd (impl_TreeWorld_costs_m a0 x1) fun x2 =>
 gd ((0 : Int) ≤ x1 ∧ x1 < ((a0.Bridges.length : Nat) : Int)) <|
 gd ((0 : Int) ≤ a1 ∧ a1 < ((x2.length : Nat) : Int)) <|
 bd (lp (σ := Int × Int × Int) (β := (Int × Int)) (fun s5 =>
(if (s5.2.2 != x1) = true then
 bd (impl_TreeWorld_uplink_m a0 s5.2.2 x2) fun x9 =>
(if (s5.2.2 == a1) = true then
 some (.inl (IntKind.i64.wrap (s5.1 + 1), x9.1, x9.2))
else
 some (.inl (IntKind.i64.wrap (s5.1 + 1), s5.2.1, x9.2)))
else
 some (.inr (s5.1, s5.2.1)))) (0, -1, a1)) fun x8 =>
 some (⟨(⟨(a0.Bridges.getD x1.toNat default).Id, (x2.getD a1.toNat default), x8.1⟩ : TreeVector), x8.2⟩ : TreeMind)

theorem impl_TreeWorld_best_c {a0 : TreeWorld} {a1 : Int} {r : TreeMind} (h : impl_TreeWorld_best_m a0 a1 = some r) : PureC Try.prog 113 [.rp [slD TreeBridge.enc a0.Bridges, slD TreeLink.enc a0.Links, slD encInt a0.Down, slD TreeSlot.enc a0.AtA, slD TreeSlot.enc a0.AtB, slD TreeWord.enc a0.Radio], .d (.int .i64 a1)] (.agg [.d (.int .i64 r.Vector.Root), .d (.int .i64 r.Vector.Cost), .d (.int .i64 r.Vector.Age), .d (.int .i64 r.Link)]) [] := by
  refine pureC_m tOk (fn := Try.f113) (c := codeOf Try.f113) rfl rfl (by kernel_rfl) rfl rfl (by simp) (by simp) (ids_of rfl) ?_
  unfold impl_TreeWorld_best_m at h
  conv => whnf
  obtain ⟨x1, hx1, h⟩ := bd_some h
  refine callC 0 (impl_TreeWorld_root_c hx1) (by kernel_rfl) (by kernel_rfl) ?_
  clear hx1
  conv => whnf
  obtain ⟨x2, hx2, h⟩ := bd_some h
  refine callC 1000 (impl_TreeWorld_costs_c hx2) (by kernel_rfl) (by kernel_rfl) ?_
  clear hx2
  conv => whnf
  obtain ⟨g3, h⟩ := gd_some h
  obtain ⟨g4, h⟩ := gd_some h
  refine draw_k tOk (by kernel_rfl) (fun _ => none) 15 [] [[], [true], [true, true], [true, true, true], [], [true, true, true, true, true], [true, true, true, true, true, true], [true, true, true, true, true, true, true], [], [], [false, false, false, false, false, false, false, false, true, true], [false, false, false, false, false, false, false, false, true, true, true], [true, true, true, true, true, true, true, true, true, true, true, true], [true, true, true, true, true, true, true, true, true, true, true, true, true], []] [[true, true, true, true, true, true, true, true, true, true, true, true, true, true, true]] (by decide) (by kernel_rfl) (by kernel_rfl) ?_
  conv => whnf
  refine And.intro g3 ?_
  clear g3
  conv => whnf
  refine And.intro g4 ?_
  clear g4
  conv => whnf
  refine And.intro (by kernel_rfl) ?_
  conv => whnf
  refine seq_in tOk ?_
  conv => whnf
  obtain ⟨x8, hx8, h⟩ := bd_some h
  refine loop_m tOk hx8 (fun s5 => ⟨0, 55, [(0, .rp [slD TreeBridge.enc a0.Bridges, slD TreeLink.enc a0.Links, slD encInt a0.Down, slD TreeSlot.enc a0.AtA, slD TreeSlot.enc a0.AtB, slD TreeWord.enc a0.Radio]), (1, .d (.int .i64 a1)), (4, .ref 4 0 0), (5, .d (.int .i64 x1)), (6, .osl 6001 0 x2.length), (7, .ref 7 0 0), (8, .d (.int .i64 s5.2.2))], [], [(7, .box 54 [.d (.int .i64 ((a0.Bridges.getD x1.toNat default).Id)), .d (.int .i64 (x2.getD a1.toNat default)), .d (.int .i64 s5.1), .d (.int .i64 s5.2.1)]), (6001, .arr 3 1 x2.length (rows encInt x2)), (4, .box 54 [.d (.int .i64 0), .d (.int .i64 0), .d (.int .i64 0), .d (.int .i64 0)])], []⟩) ?_ ?_
  · refine le_mk ?_ ?_ ?_ <;> (repeat' first | ((conv => whnf); first | exact trivial | refine And.intro ?_ ?_ | exact BLe.refl _ | exact VLe.refl _) | exact trivial | exact rfl | refine And.intro ?_ ?_ | exact BLe.refl _ | exact VLe.refl _ | exact VLe.any _ | exact VLe.nil_osl rfl | exact VLe.nil_sl rfl | exact VLe.built rfl rfl | (refine VLe.osl rfl ?_; (first | rfl | (simp; done) | assumption | (simp [dsub_eq] <;> omega) | omega)) | exact VLe.rows (by first | rfl | (simp; done) | assumption | (simp [dsub_eq] <;> omega) | omega) (fun _ _ => rfl) | exact VLe.rows (by simp [dsub_eq] <;> omega) rows_take | exact VLe.rows (by simp [dsub_eq] <;> omega) rows_dt | exact VLe.rows (by simp [dsub_eq] <;> omega) rows_vt | exact VLe.rows (by simp) (fun i _ => by simp [viewRow_eq, Nat.add_comm]) | refine VLe.aggL ?_ | (refine BLe.rows rfl ?_ fun _ _ => rfl; (first | rfl | (simp; done) | assumption | (simp [dsub_eq] <;> omega) | omega)) | (refine BLe.rows rfl rfl ?_; first | exact rows_take) | refine BLe.box ?_)
  · clear hx8
    intro s5 y6 g7 hy6
    conv => whnf
    refine seq_in tOk ?_
    conv => whnf
    refine And.intro (fun e => ?_) (fun e => ?_)
    · replace g7 := ite_t g7 e; clear e
      conv => whnf
      obtain ⟨x9, hx9, g7⟩ := bd_some g7
      refine callC 0 (impl_TreeWorld_uplink_c hx9) (by kernel_rfl) (by kernel_rfl) ?_
      clear hx9
      conv => whnf
      refine seq_in tOk ?_
      conv => whnf
      refine And.intro (fun e => ?_) (fun e => ?_)
      · replace g7 := ite_t g7 e; clear e
        conv => whnf
        obtain rfl := Option.some.inj g7
        refine ⟨_, rfl, le_mk ?_ ?_ ?_⟩ <;> (repeat' first | ((conv => whnf); first | exact trivial | refine And.intro ?_ ?_ | exact BLe.refl _ | exact VLe.refl _) | exact trivial | exact rfl | refine And.intro ?_ ?_ | exact BLe.refl _ | exact VLe.refl _ | exact VLe.any _ | exact VLe.nil_osl rfl | exact VLe.nil_sl rfl | exact VLe.built rfl rfl | (refine VLe.osl rfl ?_; (first | rfl | (simp; done) | assumption | (simp [dsub_eq] <;> omega) | omega)) | exact VLe.rows (by first | rfl | (simp; done) | assumption | (simp [dsub_eq] <;> omega) | omega) (fun _ _ => rfl) | exact VLe.rows (by simp [dsub_eq] <;> omega) rows_take | exact VLe.rows (by simp [dsub_eq] <;> omega) rows_dt | exact VLe.rows (by simp [dsub_eq] <;> omega) rows_vt | exact VLe.rows (by simp) (fun i _ => by simp [viewRow_eq, Nat.add_comm]) | refine VLe.aggL ?_ | (refine BLe.rows rfl ?_ fun _ _ => rfl; (first | rfl | (simp; done) | assumption | (simp [dsub_eq] <;> omega) | omega)) | (refine BLe.rows rfl rfl ?_; first | exact rows_take) | refine BLe.box ?_)
      · replace g7 := ite_f g7 e; clear e
        conv => whnf
        obtain rfl := Option.some.inj g7
        refine ⟨_, rfl, le_mk ?_ ?_ ?_⟩ <;> (repeat' first | ((conv => whnf); first | exact trivial | refine And.intro ?_ ?_ | exact BLe.refl _ | exact VLe.refl _) | exact trivial | exact rfl | refine And.intro ?_ ?_ | exact BLe.refl _ | exact VLe.refl _ | exact VLe.any _ | exact VLe.nil_osl rfl | exact VLe.nil_sl rfl | exact VLe.built rfl rfl | (refine VLe.osl rfl ?_; (first | rfl | (simp; done) | assumption | (simp [dsub_eq] <;> omega) | omega)) | exact VLe.rows (by first | rfl | (simp; done) | assumption | (simp [dsub_eq] <;> omega) | omega) (fun _ _ => rfl) | exact VLe.rows (by simp [dsub_eq] <;> omega) rows_take | exact VLe.rows (by simp [dsub_eq] <;> omega) rows_dt | exact VLe.rows (by simp [dsub_eq] <;> omega) rows_vt | exact VLe.rows (by simp) (fun i _ => by simp [viewRow_eq, Nat.add_comm]) | refine VLe.aggL ?_ | (refine BLe.rows rfl ?_ fun _ _ => rfl; (first | rfl | (simp; done) | assumption | (simp [dsub_eq] <;> omega) | omega)) | (refine BLe.rows rfl rfl ?_; first | exact rows_take) | refine BLe.box ?_)
    · replace g7 := ite_f g7 e; clear e
      conv => whnf
      obtain rfl := Option.some.inj g7
      obtain rfl := hy6 _ rfl
      obtain rfl := Option.some.inj h
      exact ⟨_, LE.refl _, And.intro rfl trivial⟩

noncomputable def impl_TreeWorld_bests_m (a0 : TreeWorld) : Option ((List TreeMind)) :=
 bd (lp (σ := List TreeMind × Int) (β := (Nat × (List TreeMind))) (fun s1 =>
(if (decide (s1.2 < ((a0.Bridges.length : Nat) : Int))) = true then
 gd ((0 : Int) ≤ s1.2 ∧ s1.2 < ((a0.Bridges.length : Nat) : Int)) <|
(if (a0.Bridges.getD s1.2.toNat default).Up = true then
 bd (impl_TreeWorld_best_m a0 s1.2) fun x6 =>
 gd (((s1.1.length) + (([x6] : List TreeMind).length)) * (32 + 1) ≤ 70368744177664) <|
 some (.inl ((s1.1 ++ ([x6] : List TreeMind)), IntKind.i64.wrap (s1.2 + 1)))
else
 gd (((s1.1.length) + (([(⟨(⟨0, 0, 0⟩ : TreeVector), 0⟩ : TreeMind)] : List TreeMind).length)) * (32 + 1) ≤ 70368744177664) <|
 some (.inl ((s1.1 ++ ([(⟨(⟨0, 0, 0⟩ : TreeVector), 0⟩ : TreeMind)] : List TreeMind)), IntKind.i64.wrap (s1.2 + 1))))
else
 some (.inr (s1.1.length, s1.1)))) (([] : List TreeMind), 0)) fun x4 =>
 some x4.2

theorem impl_TreeWorld_bests_c {a0 : TreeWorld} {r : (List TreeMind)} (h : impl_TreeWorld_bests_m a0 = some r) : PureC Try.prog 67 [.rp [slD TreeBridge.enc a0.Bridges, slD TreeLink.enc a0.Links, slD encInt a0.Down, slD TreeSlot.enc a0.AtA, slD TreeSlot.enc a0.AtB, slD TreeWord.enc a0.Radio]] (.osl 5001 0 r.length) [⟨5001, 54, 4, r.length, rows TreeMind.enc r⟩] := by
  refine pureC_m tOk (fn := Try.f67) (c := codeOf Try.f67) rfl rfl (by kernel_rfl) rfl rfl (by simp [atomD]) (by simp) (ids_of rfl) ?_
  unfold impl_TreeWorld_bests_m at h
  conv => whnf
  refine seq_in tOk ?_
  conv => whnf
  obtain ⟨x4, hx4, h⟩ := bd_some h
  refine loop_m tOk hx4 (fun s1 => ⟨0, 30, [(0, .rp [slD TreeBridge.enc a0.Bridges, slD TreeLink.enc a0.Links, slD encInt a0.Down, slD TreeSlot.enc a0.AtA, slD TreeSlot.enc a0.AtB, slD TreeWord.enc a0.Radio]), (3, .osl 7001 0 s1.1.length), (11, .d (slD TreeBridge.enc a0.Bridges)), (12, .d (.int .i64 ((a0.Bridges.length : Nat) : Int))), (13, .d (.int .i64 s1.2))], [], [(7001, .arr 54 4 s1.1.length (rows TreeMind.enc s1.1))], []⟩) ?_ ?_
  · refine LE.trans (S' := ⟨0, 30, [(0, .rp [slD TreeBridge.enc a0.Bridges, slD TreeLink.enc a0.Links, slD encInt a0.Down, slD TreeSlot.enc a0.AtA, slD TreeSlot.enc a0.AtB, slD TreeWord.enc a0.Radio]), (3, .d (.nil)), (11, .d (slD TreeBridge.enc a0.Bridges)), (12, .d (.int .i64 ((a0.Bridges.length : Nat) : Int))), (13, .d (.int .i64 0))], [], [], []⟩) (le_mk ?_ ?_ ?_) (LE.trans (S' := ⟨0, 30, [(0, .rp [slD TreeBridge.enc a0.Bridges, slD TreeLink.enc a0.Links, slD encInt a0.Down, slD TreeSlot.enc a0.AtA, slD TreeSlot.enc a0.AtB, slD TreeWord.enc a0.Radio]), (3, .d (.nil)), (11, .d (slD TreeBridge.enc a0.Bridges)), (12, .d (.int .i64 ((a0.Bridges.length : Nat) : Int))), (13, .d (.int .i64 0))], [], [(7001, .arr 54 4 (([] : List TreeMind).length) (rows TreeMind.enc ([] : List TreeMind)))], []⟩) (le_ph 7001 54 4 (rows TreeMind.enc ([] : List TreeMind)) rfl rfl) (le_mk ?_ ?_ ?_)) <;> (repeat' first | ((conv => whnf); first | exact trivial | refine And.intro ?_ ?_ | exact BLe.refl _ | exact VLe.refl _) | exact trivial | exact rfl | refine And.intro ?_ ?_ | exact BLe.refl _ | exact VLe.refl _ | exact VLe.any _ | exact VLe.nil_osl rfl | exact VLe.nil_sl rfl | exact VLe.built rfl rfl | (refine VLe.osl rfl ?_; (first | rfl | (simp; done) | assumption | (simp [dsub_eq] <;> omega) | omega)) | exact VLe.rows (by first | rfl | (simp; done) | assumption | (simp [dsub_eq] <;> omega) | omega) (fun _ _ => rfl) | exact VLe.rows (by simp [dsub_eq] <;> omega) rows_take | exact VLe.rows (by simp [dsub_eq] <;> omega) rows_dt | exact VLe.rows (by simp [dsub_eq] <;> omega) rows_vt | exact VLe.rows (by simp) (fun i _ => by simp [viewRow_eq, Nat.add_comm]) | refine VLe.aggL ?_ | (refine BLe.rows rfl ?_ fun _ _ => rfl; (first | rfl | (simp; done) | assumption | (simp [dsub_eq] <;> omega) | omega)) | (refine BLe.rows rfl rfl ?_; first | exact rows_take) | refine BLe.box ?_)
  · clear hx4
    intro s1 y2 g3 hy2
    conv => whnf
    refine seq_in tOk ?_
    conv => whnf
    refine And.intro (fun e => ?_) (fun e => ?_)
    · replace g3 := ite_t g3 e; clear e
      conv => whnf
      refine seq_in tOk ?_
      conv => whnf
      obtain ⟨g5, g3⟩ := gd_some g3
      refine And.intro g5 ?_
      clear g5
      conv => whnf
      refine seq_in tOk ?_
      conv => whnf
      refine And.intro (fun e => ?_) (fun e => ?_)
      · replace g3 := ite_t g3 e; clear e
        conv => whnf
        obtain ⟨x6, hx6, g3⟩ := bd_some g3
        refine callC 0 (impl_TreeWorld_best_c hx6) (by kernel_rfl) (by kernel_rfl) ?_
        clear hx6
        conv => whnf
        refine ⟨([x6] : List TreeMind).length, rows TreeMind.enc ([x6] : List TreeMind), rfl, build_rows, ?_⟩
        conv => whnf
        obtain ⟨g7, g3⟩ := gd_some g3
        refine And.intro g7 ?_
        clear g7
        refine ⟨(s1.1 ++ ([x6] : List TreeMind)).length, rows TreeMind.enc (s1.1 ++ ([x6] : List TreeMind)), (by first | rfl | (simp; done) | assumption | (simp [dsub_eq] <;> omega) | omega), (by first | exact app_rows (m := ([x6] : List TreeMind).length) (by first | rfl | (simp; done) | assumption | (simp [dsub_eq] <;> omega) | omega) (by first | rfl | (simp; done) | assumption | (simp [dsub_eq] <;> omega) | omega) (fun _ _ => rfl) (fun _ _ => rfl) | exact app_rows0 (m := ([x6] : List TreeMind).length) (by first | rfl | (simp; done) | assumption | (simp [dsub_eq] <;> omega) | omega) (fun _ _ => rfl) | exact app_rows (m := ([x6] : List TreeMind).length) (by first | rfl | (simp; done) | assumption | (simp [dsub_eq] <;> omega) | omega) (by first | rfl | (simp; done) | assumption | (simp [dsub_eq] <;> omega) | omega) (by first | exact fun _ _ => rfl | exact rows_take | (intro i hi; simp only [viewRow_eq, addOff_eq, Int.toNat_zero, Nat.zero_add, Nat.add_zero]; exact rows_take i hi) | exact rows_vt | exact rows_dt | (intro i hi; simp only [viewRow_eq, Nat.zero_add]) | (intro i hi; simp [viewRow_eq])) (by first | exact fun _ _ => rfl | exact rows_take | (intro i hi; simp only [viewRow_eq, addOff_eq, Int.toNat_zero, Nat.zero_add, Nat.add_zero]; exact rows_take i hi) | exact rows_vt | exact rows_dt | (intro i hi; simp only [viewRow_eq, Nat.zero_add]) | (intro i hi; simp [viewRow_eq])) | exact app_rows0 (m := ([x6] : List TreeMind).length) (by first | rfl | (simp; done) | assumption | (simp [dsub_eq] <;> omega) | omega) (by first | exact fun _ _ => rfl | exact rows_take | (intro i hi; simp only [viewRow_eq, addOff_eq, Int.toNat_zero, Nat.zero_add, Nat.add_zero]; exact rows_take i hi) | exact rows_vt | exact rows_dt | (intro i hi; simp only [viewRow_eq, Nat.zero_add]) | (intro i hi; simp [viewRow_eq]))), ?_⟩
        conv => whnf
        obtain rfl := Option.some.inj g3
        refine ⟨_, rfl, le_mk ?_ ?_ ?_⟩ <;> (repeat' first | ((conv => whnf); first | exact trivial | refine And.intro ?_ ?_ | exact BLe.refl _ | exact VLe.refl _) | exact trivial | exact rfl | refine And.intro ?_ ?_ | exact BLe.refl _ | exact VLe.refl _ | exact VLe.any _ | exact VLe.nil_osl rfl | exact VLe.nil_sl rfl | exact VLe.built rfl rfl | (refine VLe.osl rfl ?_; (first | rfl | (simp; done) | assumption | (simp [dsub_eq] <;> omega) | omega)) | exact VLe.rows (by first | rfl | (simp; done) | assumption | (simp [dsub_eq] <;> omega) | omega) (fun _ _ => rfl) | exact VLe.rows (by simp [dsub_eq] <;> omega) rows_take | exact VLe.rows (by simp [dsub_eq] <;> omega) rows_dt | exact VLe.rows (by simp [dsub_eq] <;> omega) rows_vt | exact VLe.rows (by simp) (fun i _ => by simp [viewRow_eq, Nat.add_comm]) | refine VLe.aggL ?_ | (refine BLe.rows rfl ?_ fun _ _ => rfl; (first | rfl | (simp; done) | assumption | (simp [dsub_eq] <;> omega) | omega)) | (refine BLe.rows rfl rfl ?_; first | exact rows_take) | refine BLe.box ?_)
      · replace g3 := ite_f g3 e; clear e
        conv => whnf
        refine ⟨([(⟨(⟨0, 0, 0⟩ : TreeVector), 0⟩ : TreeMind)] : List TreeMind).length, rows TreeMind.enc ([(⟨(⟨0, 0, 0⟩ : TreeVector), 0⟩ : TreeMind)] : List TreeMind), rfl, build_rows, ?_⟩
        conv => whnf
        obtain ⟨g8, g3⟩ := gd_some g3
        refine And.intro g8 ?_
        clear g8
        refine ⟨(s1.1 ++ ([(⟨(⟨0, 0, 0⟩ : TreeVector), 0⟩ : TreeMind)] : List TreeMind)).length, rows TreeMind.enc (s1.1 ++ ([(⟨(⟨0, 0, 0⟩ : TreeVector), 0⟩ : TreeMind)] : List TreeMind)), (by first | rfl | (simp; done) | assumption | (simp [dsub_eq] <;> omega) | omega), (by first | exact app_rows (m := ([(⟨(⟨0, 0, 0⟩ : TreeVector), 0⟩ : TreeMind)] : List TreeMind).length) (by first | rfl | (simp; done) | assumption | (simp [dsub_eq] <;> omega) | omega) (by first | rfl | (simp; done) | assumption | (simp [dsub_eq] <;> omega) | omega) (fun _ _ => rfl) (fun _ _ => rfl) | exact app_rows0 (m := ([(⟨(⟨0, 0, 0⟩ : TreeVector), 0⟩ : TreeMind)] : List TreeMind).length) (by first | rfl | (simp; done) | assumption | (simp [dsub_eq] <;> omega) | omega) (fun _ _ => rfl) | exact app_rows (m := ([(⟨(⟨0, 0, 0⟩ : TreeVector), 0⟩ : TreeMind)] : List TreeMind).length) (by first | rfl | (simp; done) | assumption | (simp [dsub_eq] <;> omega) | omega) (by first | rfl | (simp; done) | assumption | (simp [dsub_eq] <;> omega) | omega) (by first | exact fun _ _ => rfl | exact rows_take | (intro i hi; simp only [viewRow_eq, addOff_eq, Int.toNat_zero, Nat.zero_add, Nat.add_zero]; exact rows_take i hi) | exact rows_vt | exact rows_dt | (intro i hi; simp only [viewRow_eq, Nat.zero_add]) | (intro i hi; simp [viewRow_eq])) (by first | exact fun _ _ => rfl | exact rows_take | (intro i hi; simp only [viewRow_eq, addOff_eq, Int.toNat_zero, Nat.zero_add, Nat.add_zero]; exact rows_take i hi) | exact rows_vt | exact rows_dt | (intro i hi; simp only [viewRow_eq, Nat.zero_add]) | (intro i hi; simp [viewRow_eq])) | exact app_rows0 (m := ([(⟨(⟨0, 0, 0⟩ : TreeVector), 0⟩ : TreeMind)] : List TreeMind).length) (by first | rfl | (simp; done) | assumption | (simp [dsub_eq] <;> omega) | omega) (by first | exact fun _ _ => rfl | exact rows_take | (intro i hi; simp only [viewRow_eq, addOff_eq, Int.toNat_zero, Nat.zero_add, Nat.add_zero]; exact rows_take i hi) | exact rows_vt | exact rows_dt | (intro i hi; simp only [viewRow_eq, Nat.zero_add]) | (intro i hi; simp [viewRow_eq]))), ?_⟩
        conv => whnf
        obtain rfl := Option.some.inj g3
        refine ⟨_, rfl, le_mk ?_ ?_ ?_⟩ <;> (repeat' first | ((conv => whnf); first | exact trivial | refine And.intro ?_ ?_ | exact BLe.refl _ | exact VLe.refl _) | exact trivial | exact rfl | refine And.intro ?_ ?_ | exact BLe.refl _ | exact VLe.refl _ | exact VLe.any _ | exact VLe.nil_osl rfl | exact VLe.nil_sl rfl | exact VLe.built rfl rfl | (refine VLe.osl rfl ?_; (first | rfl | (simp; done) | assumption | (simp [dsub_eq] <;> omega) | omega)) | exact VLe.rows (by first | rfl | (simp; done) | assumption | (simp [dsub_eq] <;> omega) | omega) (fun _ _ => rfl) | exact VLe.rows (by simp [dsub_eq] <;> omega) rows_take | exact VLe.rows (by simp [dsub_eq] <;> omega) rows_dt | exact VLe.rows (by simp [dsub_eq] <;> omega) rows_vt | exact VLe.rows (by simp) (fun i _ => by simp [viewRow_eq, Nat.add_comm]) | refine VLe.aggL ?_ | (refine BLe.rows rfl ?_ fun _ _ => rfl; (first | rfl | (simp; done) | assumption | (simp [dsub_eq] <;> omega) | omega)) | (refine BLe.rows rfl rfl ?_; first | exact rows_take) | refine BLe.box ?_)
    · replace g3 := ite_f g3 e; clear e
      conv => whnf
      obtain rfl := Option.some.inj g3
      obtain rfl := hy2 _ rfl
      obtain rfl := Option.some.inj h
      refine ⟨⟨0, 30, [(2, .osl 5001 0 (s1.1.length, s1.1).2.length)], [], [(5001, .arr 54 4 (s1.1.length, s1.1).2.length (rows TreeMind.enc (s1.1.length, s1.1).2))], []⟩, ?_, And.intro rfl ?_⟩
      · refine LE.trans (S' := ⟨0, 30, [(2, .osl 7001 0 (s1.1.length, s1.1).1)], [], [(7001, .arr 54 4 (s1.1.length, s1.1).1 (rows TreeMind.enc (s1.1.length, s1.1).2))], []⟩) (le_mk ?_ ?_ ?_) (LE.trans (S' := ⟨0, 30, [(2, .osl 5001 0 (s1.1.length, s1.1).1)], [], [(5001, .arr 54 4 (s1.1.length, s1.1).1 (rows TreeMind.enc (s1.1.length, s1.1).2))], []⟩) (le_swaps [(7001, 5001)] rfl) (le_mk ?_ ?_ ?_)) <;> (repeat' first | ((conv => whnf); first | exact trivial | refine And.intro ?_ ?_ | exact BLe.refl _ | exact VLe.refl _) | exact trivial | exact rfl | refine And.intro ?_ ?_ | exact BLe.refl _ | exact VLe.refl _ | exact VLe.any _ | exact VLe.nil_osl rfl | exact VLe.nil_sl rfl | exact VLe.built rfl rfl | (refine VLe.osl rfl ?_; (first | rfl | (simp; done) | assumption | (simp [dsub_eq] <;> omega) | omega)) | exact VLe.rows (by first | rfl | (simp; done) | assumption | (simp [dsub_eq] <;> omega) | omega) (fun _ _ => rfl) | exact VLe.rows (by simp [dsub_eq] <;> omega) rows_take | exact VLe.rows (by simp [dsub_eq] <;> omega) rows_dt | exact VLe.rows (by simp [dsub_eq] <;> omega) rows_vt | exact VLe.rows (by simp) (fun i _ => by simp [viewRow_eq, Nat.add_comm]) | refine VLe.aggL ?_ | (refine BLe.rows rfl ?_ fun _ _ => rfl; (first | rfl | (simp; done) | assumption | (simp [dsub_eq] <;> omega) | omega)) | (refine BLe.rows rfl rfl ?_; first | exact rows_take) | refine BLe.box ?_)
      · exact And.intro (And.intro rfl (And.intro rfl (fun _ _ => rfl))) (trivial)

noncomputable def impl_TreeBest_m (a0 : TreeWorld) : Option ((List TreeMind)) :=
 bd (impl_TreeWorldOk_m a0) fun x1 =>
(if (!x1) = true then
 some []
else
 bd (impl_TreeWorld_bests_m a0) fun x2 =>
 some x2)

theorem impl_TreeBest_c {a0 : TreeWorld} {r : (List TreeMind)} (h : impl_TreeBest_m a0 = some r) : PureC Try.prog 19 [.agg [.d (slD TreeBridge.enc a0.Bridges), .d (slD TreeLink.enc a0.Links), .d (slD encInt a0.Down), .d (slD TreeSlot.enc a0.AtA), .d (slD TreeSlot.enc a0.AtB), .d (slD TreeWord.enc a0.Radio)]] (.osl 5001 0 r.length) [⟨5001, 54, 4, r.length, rows TreeMind.enc r⟩] := by
  refine pureC_m tOk (fn := Try.f19) (c := codeOf Try.f19) rfl rfl (by kernel_rfl) rfl rfl (by simp [atomD]) (by simp) (ids_of rfl) ?_
  unfold impl_TreeBest_m at h
  conv => whnf
  refine seq_in tOk ?_
  conv => whnf
  obtain ⟨x1, hx1, h⟩ := bd_some h
  refine callC 0 (impl_TreeWorldOk_c hx1) (by kernel_rfl) (by kernel_rfl) ?_
  clear hx1
  conv => whnf
  refine And.intro (fun e => ?_) (fun e => ?_)
  · replace h := ite_t h e; clear e
    conv => whnf
    obtain rfl := Option.some.inj h
    refine ⟨⟨0, 7, [(2, .osl 5001 0 (([] : List TreeMind).length))], [], [(5001, .arr 54 4 (([] : List TreeMind).length) (rows TreeMind.enc ([] : List TreeMind)))], []⟩, ?_, And.intro rfl ?_⟩
    · refine LE.trans (S' := ⟨0, 7, [(2, .d (.nil))], [], [], []⟩) (le_mk ?_ ?_ ?_) (LE.trans (S' := ⟨0, 7, [(2, .d (.nil))], [], [(5001, .arr 54 4 (([] : List TreeMind).length) (rows TreeMind.enc ([] : List TreeMind)))], []⟩) (le_ph 5001 54 4 (rows TreeMind.enc ([] : List TreeMind)) rfl rfl) (le_mk ?_ ?_ ?_)) <;> (repeat' first | ((conv => whnf); first | exact trivial | refine And.intro ?_ ?_ | exact BLe.refl _ | exact VLe.refl _) | exact trivial | exact rfl | refine And.intro ?_ ?_ | exact BLe.refl _ | exact VLe.refl _ | exact VLe.any _ | exact VLe.nil_osl rfl | exact VLe.nil_sl rfl | exact VLe.built rfl rfl | (refine VLe.osl rfl ?_; (first | rfl | (simp; done) | assumption | (simp [dsub_eq] <;> omega) | omega)) | exact VLe.rows (by first | rfl | (simp; done) | assumption | (simp [dsub_eq] <;> omega) | omega) (fun _ _ => rfl) | exact VLe.rows (by simp [dsub_eq] <;> omega) rows_take | exact VLe.rows (by simp [dsub_eq] <;> omega) rows_dt | exact VLe.rows (by simp [dsub_eq] <;> omega) rows_vt | exact VLe.rows (by simp) (fun i _ => by simp [viewRow_eq, Nat.add_comm]) | refine VLe.aggL ?_ | (refine BLe.rows rfl ?_ fun _ _ => rfl; (first | rfl | (simp; done) | assumption | (simp [dsub_eq] <;> omega) | omega)) | (refine BLe.rows rfl rfl ?_; first | exact rows_take) | refine BLe.box ?_)
    · exact And.intro (And.intro rfl (And.intro rfl (fun _ _ => rfl))) (trivial)
  · replace h := ite_f h e; clear e
    conv => whnf
    obtain ⟨x2, hx2, h⟩ := bd_some h
    refine callC 1000 (impl_TreeWorld_bests_c hx2) (by kernel_rfl) (by kernel_rfl) ?_
    clear hx2
    conv => whnf
    obtain rfl := Option.some.inj h
    refine ⟨⟨0, 7, [(2, .osl 5001 0 x2.length)], [], [(5001, .arr 54 4 x2.length (rows TreeMind.enc x2))], []⟩, ?_, And.intro rfl ?_⟩
    · refine LE.trans (S' := ⟨0, 7, [(2, .osl 6001 0 x2.length)], [], [(6001, .arr 54 4 x2.length (rows TreeMind.enc x2))], []⟩) (le_mk ?_ ?_ ?_) (le_swaps [(6001, 5001)] rfl) <;> (repeat' first | ((conv => whnf); first | exact trivial | refine And.intro ?_ ?_ | exact BLe.refl _ | exact VLe.refl _) | exact trivial | exact rfl | refine And.intro ?_ ?_ | exact BLe.refl _ | exact VLe.refl _ | exact VLe.any _ | exact VLe.nil_osl rfl | exact VLe.nil_sl rfl | exact VLe.built rfl rfl | (refine VLe.osl rfl ?_; (first | rfl | (simp; done) | assumption | (simp [dsub_eq] <;> omega) | omega)) | exact VLe.rows (by first | rfl | (simp; done) | assumption | (simp [dsub_eq] <;> omega) | omega) (fun _ _ => rfl) | exact VLe.rows (by simp [dsub_eq] <;> omega) rows_take | exact VLe.rows (by simp [dsub_eq] <;> omega) rows_dt | exact VLe.rows (by simp [dsub_eq] <;> omega) rows_vt | exact VLe.rows (by simp) (fun i _ => by simp [viewRow_eq, Nat.add_comm]) | refine VLe.aggL ?_ | (refine BLe.rows rfl ?_ fun _ _ => rfl; (first | rfl | (simp; done) | assumption | (simp [dsub_eq] <;> omega) | omega)) | (refine BLe.rows rfl rfl ?_; first | exact rows_take) | refine BLe.box ?_)
    · exact And.intro (And.intro rfl (And.intro rfl (fun _ _ => rfl))) (trivial)

noncomputable def laws_eqTreeVector_m (a0 : TreeVector) (a1 : TreeVector) : Option (Bool) :=
(if (a0.Root != a1.Root) = true then
 some false
else
(if (a0.Cost != a1.Cost) = true then
 some false
else
(if (a0.Age != a1.Age) = true then
 some false
else
 some true)))

theorem laws_eqTreeVector_c {a0 : TreeVector} {a1 : TreeVector} {r : Bool} (h : laws_eqTreeVector_m a0 a1 = some r) : PureC Try.prog 114 [.agg [.d (.int .i64 a0.Root), .d (.int .i64 a0.Cost), .d (.int .i64 a0.Age)], .agg [.d (.int .i64 a1.Root), .d (.int .i64 a1.Cost), .d (.int .i64 a1.Age)]] (.d (.bool r)) [] := by
  refine pureC_m tOk (fn := Try.f114) (c := codeOf Try.f114) rfl rfl (by kernel_rfl) rfl rfl (by simp) (by simp) (ids_of rfl) ?_
  unfold laws_eqTreeVector_m at h
  conv => whnf
  refine seq_in tOk ?_
  conv => whnf
  refine And.intro (fun e => ?_) (fun e => ?_)
  · replace h := ite_t h e; clear e
    conv => whnf
    obtain rfl := Option.some.inj h
    exact ⟨_, LE.refl _, And.intro rfl trivial⟩
  · replace h := ite_f h e; clear e
    conv => whnf
    refine seq_in tOk ?_
    conv => whnf
    refine And.intro (fun e => ?_) (fun e => ?_)
    · replace h := ite_t h e; clear e
      conv => whnf
      obtain rfl := Option.some.inj h
      exact ⟨_, LE.refl _, And.intro rfl trivial⟩
    · replace h := ite_f h e; clear e
      conv => whnf
      refine seq_in tOk ?_
      conv => whnf
      refine And.intro (fun e => ?_) (fun e => ?_)
      · replace h := ite_t h e; clear e
        conv => whnf
        obtain rfl := Option.some.inj h
        exact ⟨_, LE.refl _, And.intro rfl trivial⟩
      · replace h := ite_f h e; clear e
        conv => whnf
        obtain rfl := Option.some.inj h
        exact ⟨_, LE.refl _, And.intro rfl trivial⟩

noncomputable def laws_eqTreeMind_m (a0 : TreeMind) (a1 : TreeMind) : Option (Bool) :=
 bd (laws_eqTreeVector_m a0.Vector a1.Vector) fun x1 =>
(if (!x1) = true then
 some false
else
(if (a0.Link != a1.Link) = true then
 some false
else
 some true))

theorem laws_eqTreeMind_c {a0 : TreeMind} {a1 : TreeMind} {r : Bool} (h : laws_eqTreeMind_m a0 a1 = some r) : PureC Try.prog 68 [.agg [.d (.int .i64 a0.Vector.Root), .d (.int .i64 a0.Vector.Cost), .d (.int .i64 a0.Vector.Age), .d (.int .i64 a0.Link)], .agg [.d (.int .i64 a1.Vector.Root), .d (.int .i64 a1.Vector.Cost), .d (.int .i64 a1.Vector.Age), .d (.int .i64 a1.Link)]] (.d (.bool r)) [] := by
  refine pureC_m tOk (fn := Try.f68) (c := codeOf Try.f68) rfl rfl (by kernel_rfl) rfl rfl (by simp) (by simp) (ids_of rfl) ?_
  unfold laws_eqTreeMind_m at h
  conv => whnf
  refine seq_in tOk ?_
  conv => whnf
  obtain ⟨x1, hx1, h⟩ := bd_some h
  refine callC 0 (laws_eqTreeVector_c hx1) (by kernel_rfl) (by kernel_rfl) ?_
  clear hx1
  conv => whnf
  refine And.intro (fun e => ?_) (fun e => ?_)
  · replace h := ite_t h e; clear e
    conv => whnf
    obtain rfl := Option.some.inj h
    exact ⟨_, LE.refl _, And.intro rfl trivial⟩
  · replace h := ite_f h e; clear e
    conv => whnf
    refine seq_in tOk ?_
    conv => whnf
    refine And.intro (fun e => ?_) (fun e => ?_)
    · replace h := ite_t h e; clear e
      conv => whnf
      obtain rfl := Option.some.inj h
      exact ⟨_, LE.refl _, And.intro rfl trivial⟩
    · replace h := ite_f h e; clear e
      conv => whnf
      obtain rfl := Option.some.inj h
      exact ⟨_, LE.refl _, And.intro rfl trivial⟩

noncomputable def laws_eqTreeMindS_m (a0 : (List TreeMind)) (a1 : (List TreeMind)) : Option (Bool) :=
(if (((a0.length : Nat) : Int) != ((a1.length : Nat) : Int)) = true then
 some false
else
 bd (lp (σ := Int) (β := (Unit ⊕ Unit)) (fun s1 =>
(if (decide (s1 < ((a0.length : Nat) : Int))) = true then
 gd ((0 : Int) ≤ s1 ∧ s1 < ((a0.length : Nat) : Int)) <|
 gd ((0 : Int) ≤ s1 ∧ s1 < ((a1.length : Nat) : Int)) <|
 bd (laws_eqTreeMind_m (⟨((a0.getD s1.toNat default).Vector), (a0.getD s1.toNat default).Link⟩ : TreeMind) (⟨((a1.getD s1.toNat default).Vector), (a1.getD s1.toNat default).Link⟩ : TreeMind)) fun x7 =>
(if (!x7) = true then
 some (.inr (.inl ()))
else
 some (.inl (IntKind.i64.wrap (s1 + 1))))
else
 some (.inr (.inr ())))) 0) fun x4 =>
(match x4 with
| .inl d8 =>
 some false
| .inr d9 =>
 some true))

theorem laws_eqTreeMindS_c {a0 : (List TreeMind)} {a1 : (List TreeMind)} {r : Bool} (h : laws_eqTreeMindS_m a0 a1 = some r) : PureC Try.prog 20 [.d (slD TreeMind.enc a0), .d (slD TreeMind.enc a1)] (.d (.bool r)) [] := by
  refine pureC_m tOk (fn := Try.f20) (c := codeOf Try.f20) rfl rfl (by kernel_rfl) rfl rfl (by simp) (by simp) (ids_of rfl) ?_
  unfold laws_eqTreeMindS_m at h
  conv => whnf
  refine seq_in tOk ?_
  conv => whnf
  refine And.intro (fun e => ?_) (fun e => ?_)
  · replace h := ite_t h e; clear e
    conv => whnf
    obtain rfl := Option.some.inj h
    exact ⟨_, LE.refl _, And.intro rfl trivial⟩
  · replace h := ite_f h e; clear e
    conv => whnf
    refine seq_in tOk ?_
    conv => whnf
    obtain ⟨x4, hx4, h⟩ := bd_some h
    refine loop_m tOk hx4 (fun s1 => ⟨0, 27, [(0, .d (slD TreeMind.enc a0)), (1, .d (slD TreeMind.enc a1)), (5, .d (.int .i64 s1))], [], [], []⟩) ?_ ?_
    · refine le_mk ?_ ?_ ?_ <;> (repeat' first | ((conv => whnf); first | exact trivial | refine And.intro ?_ ?_ | exact BLe.refl _ | exact VLe.refl _) | exact trivial | exact rfl | refine And.intro ?_ ?_ | exact BLe.refl _ | exact VLe.refl _ | exact VLe.any _ | exact VLe.nil_osl rfl | exact VLe.nil_sl rfl | exact VLe.built rfl rfl | (refine VLe.osl rfl ?_; (first | rfl | (simp; done) | assumption | (simp [dsub_eq] <;> omega) | omega)) | exact VLe.rows (by first | rfl | (simp; done) | assumption | (simp [dsub_eq] <;> omega) | omega) (fun _ _ => rfl) | exact VLe.rows (by simp [dsub_eq] <;> omega) rows_take | exact VLe.rows (by simp [dsub_eq] <;> omega) rows_dt | exact VLe.rows (by simp [dsub_eq] <;> omega) rows_vt | exact VLe.rows (by simp) (fun i _ => by simp [viewRow_eq, Nat.add_comm]) | refine VLe.aggL ?_ | (refine BLe.rows rfl ?_ fun _ _ => rfl; (first | rfl | (simp; done) | assumption | (simp [dsub_eq] <;> omega) | omega)) | (refine BLe.rows rfl rfl ?_; first | exact rows_take) | refine BLe.box ?_)
    · clear hx4
      intro s1 y2 g3 hy2
      conv => whnf
      refine seq_in tOk ?_
      conv => whnf
      refine And.intro (fun e => ?_) (fun e => ?_)
      · replace g3 := ite_t g3 e; clear e
        conv => whnf
        refine seq_in tOk ?_
        conv => whnf
        obtain ⟨g5, g3⟩ := gd_some g3
        obtain ⟨g6, g3⟩ := gd_some g3
        obtain ⟨x7, hx7, g3⟩ := bd_some g3
        refine draw_k tOk (by kernel_rfl) (fun j => match j with | 8 => some (.pure 0 (.d (.bool x7)) []) | _ => none) 10 [] [[], [], [true, true], [true, true, true], [], [], [false, false, false, false, true, true], [false, false, false, false, true, true, true], [true, true, true, true, true, true, true, true], [true, true, true, true, true, true, true, true, true]] [] (by decide) (by kernel_rfl) (by kernel_rfl) ?_
        conv => whnf
        refine And.intro g5 ?_
        clear g5
        conv => whnf
        refine And.intro g6 ?_
        clear g6
        conv => whnf
        refine And.intro (callD_any (laws_eqTreeMind_c hx7) (by kernel_rfl)) ?_
        conv => whnf
        refine And.intro (by kernel_rfl) ?_
        conv => whnf
        refine And.intro (fun e => ?_) (fun e => ?_)
        · replace g3 := ite_t g3 e; clear e
          conv => whnf
          obtain rfl := Option.some.inj g3
          obtain rfl := hy2 _ rfl
          obtain rfl := Option.some.inj h
          exact ⟨_, LE.refl _, And.intro rfl trivial⟩
        · replace g3 := ite_f g3 e; clear e
          conv => whnf
          obtain rfl := Option.some.inj g3
          refine ⟨_, rfl, le_mk ?_ ?_ ?_⟩ <;> (repeat' first | ((conv => whnf); first | exact trivial | refine And.intro ?_ ?_ | exact BLe.refl _ | exact VLe.refl _) | exact trivial | exact rfl | refine And.intro ?_ ?_ | exact BLe.refl _ | exact VLe.refl _ | exact VLe.any _ | exact VLe.nil_osl rfl | exact VLe.nil_sl rfl | exact VLe.built rfl rfl | (refine VLe.osl rfl ?_; (first | rfl | (simp; done) | assumption | (simp [dsub_eq] <;> omega) | omega)) | exact VLe.rows (by first | rfl | (simp; done) | assumption | (simp [dsub_eq] <;> omega) | omega) (fun _ _ => rfl) | exact VLe.rows (by simp [dsub_eq] <;> omega) rows_take | exact VLe.rows (by simp [dsub_eq] <;> omega) rows_dt | exact VLe.rows (by simp [dsub_eq] <;> omega) rows_vt | exact VLe.rows (by simp) (fun i _ => by simp [viewRow_eq, Nat.add_comm]) | refine VLe.aggL ?_ | (refine BLe.rows rfl ?_ fun _ _ => rfl; (first | rfl | (simp; done) | assumption | (simp [dsub_eq] <;> omega) | omega)) | (refine BLe.rows rfl rfl ?_; first | exact rows_take) | refine BLe.box ?_)
      · replace g3 := ite_f g3 e; clear e
        conv => whnf
        obtain rfl := Option.some.inj g3
        obtain rfl := hy2 _ rfl
        obtain rfl := Option.some.inj h
        exact ⟨_, LE.refl _, And.intro rfl trivial⟩

noncomputable def laws_eqTreeBridge_m (a0 : TreeBridge) (a1 : TreeBridge) : Option (Bool) :=
(if (a0.Id != a1.Id) = true then
 some false
else
(if (!(a0.Up == a1.Up)) = true then
 some false
else
 bd (laws_eqTreeMind_m a0.Mind a1.Mind) fun x1 =>
(if (!x1) = true then
 some false
else
 some true)))

theorem laws_eqTreeBridge_c {a0 : TreeBridge} {a1 : TreeBridge} {r : Bool} (h : laws_eqTreeBridge_m a0 a1 = some r) : PureC Try.prog 106 [.agg [.d (.int .i64 a0.Id), .d (.bool a0.Up), .d (.int .i64 a0.Mind.Vector.Root), .d (.int .i64 a0.Mind.Vector.Cost), .d (.int .i64 a0.Mind.Vector.Age), .d (.int .i64 a0.Mind.Link)], .agg [.d (.int .i64 a1.Id), .d (.bool a1.Up), .d (.int .i64 a1.Mind.Vector.Root), .d (.int .i64 a1.Mind.Vector.Cost), .d (.int .i64 a1.Mind.Vector.Age), .d (.int .i64 a1.Mind.Link)]] (.d (.bool r)) [] := by
  refine pureC_m tOk (fn := Try.f106) (c := codeOf Try.f106) rfl rfl (by kernel_rfl) rfl rfl (by simp) (by simp) (ids_of rfl) ?_
  unfold laws_eqTreeBridge_m at h
  conv => whnf
  refine seq_in tOk ?_
  conv => whnf
  refine And.intro (fun e => ?_) (fun e => ?_)
  · replace h := ite_t h e; clear e
    conv => whnf
    obtain rfl := Option.some.inj h
    exact ⟨_, LE.refl _, And.intro rfl trivial⟩
  · replace h := ite_f h e; clear e
    conv => whnf
    refine seq_in tOk ?_
    conv => whnf
    refine And.intro (fun e => ?_) (fun e => ?_)
    · replace h := ite_t h e; clear e
      conv => whnf
      obtain rfl := Option.some.inj h
      exact ⟨_, LE.refl _, And.intro rfl trivial⟩
    · replace h := ite_f h e; clear e
      conv => whnf
      refine seq_in tOk ?_
      conv => whnf
      obtain ⟨x1, hx1, h⟩ := bd_some h
      refine callC 0 (laws_eqTreeMind_c hx1) (by kernel_rfl) (by kernel_rfl) ?_
      clear hx1
      conv => whnf
      refine And.intro (fun e => ?_) (fun e => ?_)
      · replace h := ite_t h e; clear e
        conv => whnf
        obtain rfl := Option.some.inj h
        exact ⟨_, LE.refl _, And.intro rfl trivial⟩
      · replace h := ite_f h e; clear e
        conv => whnf
        obtain rfl := Option.some.inj h
        exact ⟨_, LE.refl _, And.intro rfl trivial⟩

noncomputable def laws_eqTreeBridgeS_m (a0 : (List TreeBridge)) (a1 : (List TreeBridge)) : Option (Bool) :=
(if (((a0.length : Nat) : Int) != ((a1.length : Nat) : Int)) = true then
 some false
else
 bd (lp (σ := Int) (β := (Unit ⊕ Unit)) (fun s1 =>
(if (decide (s1 < ((a0.length : Nat) : Int))) = true then
 gd ((0 : Int) ≤ s1 ∧ s1 < ((a0.length : Nat) : Int)) <|
 gd ((0 : Int) ≤ s1 ∧ s1 < ((a1.length : Nat) : Int)) <|
 bd (laws_eqTreeBridge_m ({ (a0.getD s1.toNat default) with Mind := (⟨(((a0.getD s1.toNat default).Mind).Vector), ((a0.getD s1.toNat default).Mind).Link⟩ : TreeMind) }) ({ (a1.getD s1.toNat default) with Mind := (⟨(((a1.getD s1.toNat default).Mind).Vector), ((a1.getD s1.toNat default).Mind).Link⟩ : TreeMind) })) fun x7 =>
(if (!x7) = true then
 some (.inr (.inl ()))
else
 some (.inl (IntKind.i64.wrap (s1 + 1))))
else
 some (.inr (.inr ())))) 0) fun x4 =>
(match x4 with
| .inl d8 =>
 some false
| .inr d9 =>
 some true))

theorem laws_eqTreeBridgeS_c {a0 : (List TreeBridge)} {a1 : (List TreeBridge)} {r : Bool} (h : laws_eqTreeBridgeS_m a0 a1 = some r) : PureC Try.prog 58 [.d (slD TreeBridge.enc a0), .d (slD TreeBridge.enc a1)] (.d (.bool r)) [] := by
  refine pureC_m tOk (fn := Try.f58) (c := codeOf Try.f58) rfl rfl (by kernel_rfl) rfl rfl (by simp) (by simp) (ids_of rfl) ?_
  unfold laws_eqTreeBridgeS_m at h
  conv => whnf
  refine seq_in tOk ?_
  conv => whnf
  refine And.intro (fun e => ?_) (fun e => ?_)
  · replace h := ite_t h e; clear e
    conv => whnf
    obtain rfl := Option.some.inj h
    exact ⟨_, LE.refl _, And.intro rfl trivial⟩
  · replace h := ite_f h e; clear e
    conv => whnf
    refine seq_in tOk ?_
    conv => whnf
    obtain ⟨x4, hx4, h⟩ := bd_some h
    refine loop_m tOk hx4 (fun s1 => ⟨0, 27, [(0, .d (slD TreeBridge.enc a0)), (1, .d (slD TreeBridge.enc a1)), (5, .d (.int .i64 s1))], [], [], []⟩) ?_ ?_
    · refine le_mk ?_ ?_ ?_ <;> (repeat' first | ((conv => whnf); first | exact trivial | refine And.intro ?_ ?_ | exact BLe.refl _ | exact VLe.refl _) | exact trivial | exact rfl | refine And.intro ?_ ?_ | exact BLe.refl _ | exact VLe.refl _ | exact VLe.any _ | exact VLe.nil_osl rfl | exact VLe.nil_sl rfl | exact VLe.built rfl rfl | (refine VLe.osl rfl ?_; (first | rfl | (simp; done) | assumption | (simp [dsub_eq] <;> omega) | omega)) | exact VLe.rows (by first | rfl | (simp; done) | assumption | (simp [dsub_eq] <;> omega) | omega) (fun _ _ => rfl) | exact VLe.rows (by simp [dsub_eq] <;> omega) rows_take | exact VLe.rows (by simp [dsub_eq] <;> omega) rows_dt | exact VLe.rows (by simp [dsub_eq] <;> omega) rows_vt | exact VLe.rows (by simp) (fun i _ => by simp [viewRow_eq, Nat.add_comm]) | refine VLe.aggL ?_ | (refine BLe.rows rfl ?_ fun _ _ => rfl; (first | rfl | (simp; done) | assumption | (simp [dsub_eq] <;> omega) | omega)) | (refine BLe.rows rfl rfl ?_; first | exact rows_take) | refine BLe.box ?_)
    · clear hx4
      intro s1 y2 g3 hy2
      conv => whnf
      refine seq_in tOk ?_
      conv => whnf
      refine And.intro (fun e => ?_) (fun e => ?_)
      · replace g3 := ite_t g3 e; clear e
        conv => whnf
        refine seq_in tOk ?_
        conv => whnf
        obtain ⟨g5, g3⟩ := gd_some g3
        obtain ⟨g6, g3⟩ := gd_some g3
        obtain ⟨x7, hx7, g3⟩ := bd_some g3
        refine draw_k tOk (by kernel_rfl) (fun j => match j with | 8 => some (.pure 0 (.d (.bool x7)) []) | _ => none) 10 [] [[], [], [true, true], [true, true, true], [], [], [false, false, false, false, true, true], [false, false, false, false, true, true, true], [true, true, true, true, true, true, true, true], [true, true, true, true, true, true, true, true, true]] [] (by decide) (by kernel_rfl) (by kernel_rfl) ?_
        conv => whnf
        refine And.intro g5 ?_
        clear g5
        conv => whnf
        refine And.intro g6 ?_
        clear g6
        conv => whnf
        refine And.intro (callD_any (laws_eqTreeBridge_c hx7) (by kernel_rfl)) ?_
        conv => whnf
        refine And.intro (by kernel_rfl) ?_
        conv => whnf
        refine And.intro (fun e => ?_) (fun e => ?_)
        · replace g3 := ite_t g3 e; clear e
          conv => whnf
          obtain rfl := Option.some.inj g3
          obtain rfl := hy2 _ rfl
          obtain rfl := Option.some.inj h
          exact ⟨_, LE.refl _, And.intro rfl trivial⟩
        · replace g3 := ite_f g3 e; clear e
          conv => whnf
          obtain rfl := Option.some.inj g3
          refine ⟨_, rfl, le_mk ?_ ?_ ?_⟩ <;> (repeat' first | ((conv => whnf); first | exact trivial | refine And.intro ?_ ?_ | exact BLe.refl _ | exact VLe.refl _) | exact trivial | exact rfl | refine And.intro ?_ ?_ | exact BLe.refl _ | exact VLe.refl _ | exact VLe.any _ | exact VLe.nil_osl rfl | exact VLe.nil_sl rfl | exact VLe.built rfl rfl | (refine VLe.osl rfl ?_; (first | rfl | (simp; done) | assumption | (simp [dsub_eq] <;> omega) | omega)) | exact VLe.rows (by first | rfl | (simp; done) | assumption | (simp [dsub_eq] <;> omega) | omega) (fun _ _ => rfl) | exact VLe.rows (by simp [dsub_eq] <;> omega) rows_take | exact VLe.rows (by simp [dsub_eq] <;> omega) rows_dt | exact VLe.rows (by simp [dsub_eq] <;> omega) rows_vt | exact VLe.rows (by simp) (fun i _ => by simp [viewRow_eq, Nat.add_comm]) | refine VLe.aggL ?_ | (refine BLe.rows rfl ?_ fun _ _ => rfl; (first | rfl | (simp; done) | assumption | (simp [dsub_eq] <;> omega) | omega)) | (refine BLe.rows rfl rfl ?_; first | exact rows_take) | refine BLe.box ?_)
      · replace g3 := ite_f g3 e; clear e
        conv => whnf
        obtain rfl := Option.some.inj g3
        obtain rfl := hy2 _ rfl
        obtain rfl := Option.some.inj h
        exact ⟨_, LE.refl _, And.intro rfl trivial⟩

noncomputable def laws_eqTreeLink_m (a0 : TreeLink) (a1 : TreeLink) : Option (Bool) :=
(if (a0.A != a1.A) = true then
 some false
else
(if (a0.B != a1.B) = true then
 some false
else
(if (a0.Cost != a1.Cost) = true then
 some false
else
 some true)))

theorem laws_eqTreeLink_c {a0 : TreeLink} {a1 : TreeLink} {r : Bool} (h : laws_eqTreeLink_m a0 a1 = some r) : PureC Try.prog 107 [.agg [.d (.int .i64 a0.A), .d (.int .i64 a0.B), .d (.int .i64 a0.Cost)], .agg [.d (.int .i64 a1.A), .d (.int .i64 a1.B), .d (.int .i64 a1.Cost)]] (.d (.bool r)) [] := by
  refine pureC_m tOk (fn := Try.f107) (c := codeOf Try.f107) rfl rfl (by kernel_rfl) rfl rfl (by simp) (by simp) (ids_of rfl) ?_
  unfold laws_eqTreeLink_m at h
  conv => whnf
  refine seq_in tOk ?_
  conv => whnf
  refine And.intro (fun e => ?_) (fun e => ?_)
  · replace h := ite_t h e; clear e
    conv => whnf
    obtain rfl := Option.some.inj h
    exact ⟨_, LE.refl _, And.intro rfl trivial⟩
  · replace h := ite_f h e; clear e
    conv => whnf
    refine seq_in tOk ?_
    conv => whnf
    refine And.intro (fun e => ?_) (fun e => ?_)
    · replace h := ite_t h e; clear e
      conv => whnf
      obtain rfl := Option.some.inj h
      exact ⟨_, LE.refl _, And.intro rfl trivial⟩
    · replace h := ite_f h e; clear e
      conv => whnf
      refine seq_in tOk ?_
      conv => whnf
      refine And.intro (fun e => ?_) (fun e => ?_)
      · replace h := ite_t h e; clear e
        conv => whnf
        obtain rfl := Option.some.inj h
        exact ⟨_, LE.refl _, And.intro rfl trivial⟩
      · replace h := ite_f h e; clear e
        conv => whnf
        obtain rfl := Option.some.inj h
        exact ⟨_, LE.refl _, And.intro rfl trivial⟩

noncomputable def laws_eqTreeLinkS_m (a0 : (List TreeLink)) (a1 : (List TreeLink)) : Option (Bool) :=
(if (((a0.length : Nat) : Int) != ((a1.length : Nat) : Int)) = true then
 some false
else
 bd (lp (σ := Int) (β := (Unit ⊕ Unit)) (fun s1 =>
(if (decide (s1 < ((a0.length : Nat) : Int))) = true then
 gd ((0 : Int) ≤ s1 ∧ s1 < ((a0.length : Nat) : Int)) <|
 gd ((0 : Int) ≤ s1 ∧ s1 < ((a1.length : Nat) : Int)) <|
 bd (laws_eqTreeLink_m (a0.getD s1.toNat default) (a1.getD s1.toNat default)) fun x7 =>
(if (!x7) = true then
 some (.inr (.inl ()))
else
 some (.inl (IntKind.i64.wrap (s1 + 1))))
else
 some (.inr (.inr ())))) 0) fun x4 =>
(match x4 with
| .inl d8 =>
 some false
| .inr d9 =>
 some true))

theorem laws_eqTreeLinkS_c {a0 : (List TreeLink)} {a1 : (List TreeLink)} {r : Bool} (h : laws_eqTreeLinkS_m a0 a1 = some r) : PureC Try.prog 59 [.d (slD TreeLink.enc a0), .d (slD TreeLink.enc a1)] (.d (.bool r)) [] := by
  refine pureC_m tOk (fn := Try.f59) (c := codeOf Try.f59) rfl rfl (by kernel_rfl) rfl rfl (by simp) (by simp) (ids_of rfl) ?_
  unfold laws_eqTreeLinkS_m at h
  conv => whnf
  refine seq_in tOk ?_
  conv => whnf
  refine And.intro (fun e => ?_) (fun e => ?_)
  · replace h := ite_t h e; clear e
    conv => whnf
    obtain rfl := Option.some.inj h
    exact ⟨_, LE.refl _, And.intro rfl trivial⟩
  · replace h := ite_f h e; clear e
    conv => whnf
    refine seq_in tOk ?_
    conv => whnf
    obtain ⟨x4, hx4, h⟩ := bd_some h
    refine loop_m tOk hx4 (fun s1 => ⟨0, 27, [(0, .d (slD TreeLink.enc a0)), (1, .d (slD TreeLink.enc a1)), (5, .d (.int .i64 s1))], [], [], []⟩) ?_ ?_
    · refine le_mk ?_ ?_ ?_ <;> (repeat' first | ((conv => whnf); first | exact trivial | refine And.intro ?_ ?_ | exact BLe.refl _ | exact VLe.refl _) | exact trivial | exact rfl | refine And.intro ?_ ?_ | exact BLe.refl _ | exact VLe.refl _ | exact VLe.any _ | exact VLe.nil_osl rfl | exact VLe.nil_sl rfl | exact VLe.built rfl rfl | (refine VLe.osl rfl ?_; (first | rfl | (simp; done) | assumption | (simp [dsub_eq] <;> omega) | omega)) | exact VLe.rows (by first | rfl | (simp; done) | assumption | (simp [dsub_eq] <;> omega) | omega) (fun _ _ => rfl) | exact VLe.rows (by simp [dsub_eq] <;> omega) rows_take | exact VLe.rows (by simp [dsub_eq] <;> omega) rows_dt | exact VLe.rows (by simp [dsub_eq] <;> omega) rows_vt | exact VLe.rows (by simp) (fun i _ => by simp [viewRow_eq, Nat.add_comm]) | refine VLe.aggL ?_ | (refine BLe.rows rfl ?_ fun _ _ => rfl; (first | rfl | (simp; done) | assumption | (simp [dsub_eq] <;> omega) | omega)) | (refine BLe.rows rfl rfl ?_; first | exact rows_take) | refine BLe.box ?_)
    · clear hx4
      intro s1 y2 g3 hy2
      conv => whnf
      refine seq_in tOk ?_
      conv => whnf
      refine And.intro (fun e => ?_) (fun e => ?_)
      · replace g3 := ite_t g3 e; clear e
        conv => whnf
        refine seq_in tOk ?_
        conv => whnf
        obtain ⟨g5, g3⟩ := gd_some g3
        obtain ⟨g6, g3⟩ := gd_some g3
        obtain ⟨x7, hx7, g3⟩ := bd_some g3
        refine draw_k tOk (by kernel_rfl) (fun j => match j with | 8 => some (.pure 0 (.d (.bool x7)) []) | _ => none) 10 [] [[], [], [true, true], [true, true, true], [], [], [false, false, false, false, true, true], [false, false, false, false, true, true, true], [true, true, true, true, true, true, true, true], [true, true, true, true, true, true, true, true, true]] [] (by decide) (by kernel_rfl) (by kernel_rfl) ?_
        conv => whnf
        refine And.intro g5 ?_
        clear g5
        conv => whnf
        refine And.intro g6 ?_
        clear g6
        conv => whnf
        refine And.intro (callD_any (laws_eqTreeLink_c hx7) (by kernel_rfl)) ?_
        conv => whnf
        refine And.intro (by kernel_rfl) ?_
        conv => whnf
        refine And.intro (fun e => ?_) (fun e => ?_)
        · replace g3 := ite_t g3 e; clear e
          conv => whnf
          obtain rfl := Option.some.inj g3
          obtain rfl := hy2 _ rfl
          obtain rfl := Option.some.inj h
          exact ⟨_, LE.refl _, And.intro rfl trivial⟩
        · replace g3 := ite_f g3 e; clear e
          conv => whnf
          obtain rfl := Option.some.inj g3
          refine ⟨_, rfl, le_mk ?_ ?_ ?_⟩ <;> (repeat' first | ((conv => whnf); first | exact trivial | refine And.intro ?_ ?_ | exact BLe.refl _ | exact VLe.refl _) | exact trivial | exact rfl | refine And.intro ?_ ?_ | exact BLe.refl _ | exact VLe.refl _ | exact VLe.any _ | exact VLe.nil_osl rfl | exact VLe.nil_sl rfl | exact VLe.built rfl rfl | (refine VLe.osl rfl ?_; (first | rfl | (simp; done) | assumption | (simp [dsub_eq] <;> omega) | omega)) | exact VLe.rows (by first | rfl | (simp; done) | assumption | (simp [dsub_eq] <;> omega) | omega) (fun _ _ => rfl) | exact VLe.rows (by simp [dsub_eq] <;> omega) rows_take | exact VLe.rows (by simp [dsub_eq] <;> omega) rows_dt | exact VLe.rows (by simp [dsub_eq] <;> omega) rows_vt | exact VLe.rows (by simp) (fun i _ => by simp [viewRow_eq, Nat.add_comm]) | refine VLe.aggL ?_ | (refine BLe.rows rfl ?_ fun _ _ => rfl; (first | rfl | (simp; done) | assumption | (simp [dsub_eq] <;> omega) | omega)) | (refine BLe.rows rfl rfl ?_; first | exact rows_take) | refine BLe.box ?_)
      · replace g3 := ite_f g3 e; clear e
        conv => whnf
        obtain rfl := Option.some.inj g3
        obtain rfl := hy2 _ rfl
        obtain rfl := Option.some.inj h
        exact ⟨_, LE.refl _, And.intro rfl trivial⟩

noncomputable def laws_eqIntS_m (a0 : (List Int)) (a1 : (List Int)) : Option (Bool) :=
(if (((a0.length : Nat) : Int) != ((a1.length : Nat) : Int)) = true then
 some false
else
 bd (lp (σ := Int) (β := (Unit ⊕ Unit)) (fun s1 =>
(if (decide (s1 < ((a0.length : Nat) : Int))) = true then
 gd ((0 : Int) ≤ s1 ∧ s1 < ((a0.length : Nat) : Int)) <|
 gd ((0 : Int) ≤ s1 ∧ s1 < ((a1.length : Nat) : Int)) <|
(if ((a0.getD s1.toNat default) != (a1.getD s1.toNat default)) = true then
 some (.inr (.inl ()))
else
 some (.inl (IntKind.i64.wrap (s1 + 1))))
else
 some (.inr (.inr ())))) 0) fun x4 =>
(match x4 with
| .inl d7 =>
 some false
| .inr d8 =>
 some true))

theorem laws_eqIntS_c {a0 : (List Int)} {a1 : (List Int)} {r : Bool} (h : laws_eqIntS_m a0 a1 = some r) : PureC Try.prog 13 [.d (slD encInt a0), .d (slD encInt a1)] (.d (.bool r)) [] := by
  refine pureC_m tOk (fn := Try.f13) (c := codeOf Try.f13) rfl rfl (by kernel_rfl) rfl rfl (by simp) (by simp) (ids_of rfl) ?_
  unfold laws_eqIntS_m at h
  conv => whnf
  refine seq_in tOk ?_
  conv => whnf
  refine And.intro (fun e => ?_) (fun e => ?_)
  · replace h := ite_t h e; clear e
    conv => whnf
    obtain rfl := Option.some.inj h
    exact ⟨_, LE.refl _, And.intro rfl trivial⟩
  · replace h := ite_f h e; clear e
    conv => whnf
    refine seq_in tOk ?_
    conv => whnf
    obtain ⟨x4, hx4, h⟩ := bd_some h
    refine loop_m tOk hx4 (fun s1 => ⟨0, 26, [(0, .d (slD encInt a0)), (1, .d (slD encInt a1)), (5, .d (.int .i64 s1))], [], [], []⟩) ?_ ?_
    · refine le_mk ?_ ?_ ?_ <;> (repeat' first | ((conv => whnf); first | exact trivial | refine And.intro ?_ ?_ | exact BLe.refl _ | exact VLe.refl _) | exact trivial | exact rfl | refine And.intro ?_ ?_ | exact BLe.refl _ | exact VLe.refl _ | exact VLe.any _ | exact VLe.nil_osl rfl | exact VLe.nil_sl rfl | exact VLe.built rfl rfl | (refine VLe.osl rfl ?_; (first | rfl | (simp; done) | assumption | (simp [dsub_eq] <;> omega) | omega)) | exact VLe.rows (by first | rfl | (simp; done) | assumption | (simp [dsub_eq] <;> omega) | omega) (fun _ _ => rfl) | exact VLe.rows (by simp [dsub_eq] <;> omega) rows_take | exact VLe.rows (by simp [dsub_eq] <;> omega) rows_dt | exact VLe.rows (by simp [dsub_eq] <;> omega) rows_vt | exact VLe.rows (by simp) (fun i _ => by simp [viewRow_eq, Nat.add_comm]) | refine VLe.aggL ?_ | (refine BLe.rows rfl ?_ fun _ _ => rfl; (first | rfl | (simp; done) | assumption | (simp [dsub_eq] <;> omega) | omega)) | (refine BLe.rows rfl rfl ?_; first | exact rows_take) | refine BLe.box ?_)
    · clear hx4
      intro s1 y2 g3 hy2
      conv => whnf
      refine seq_in tOk ?_
      conv => whnf
      refine And.intro (fun e => ?_) (fun e => ?_)
      · replace g3 := ite_t g3 e; clear e
        conv => whnf
        refine seq_in tOk ?_
        conv => whnf
        obtain ⟨g5, g3⟩ := gd_some g3
        obtain ⟨g6, g3⟩ := gd_some g3
        refine draw_k tOk (by kernel_rfl) (fun _ => none) 9 [] [[], [], [true, true], [true, true, true], [], [], [false, false, false, false, true, true], [false, false, false, false, true, true, true], [true, true, true, true, true, true, true, true]] [] (by decide) (by kernel_rfl) (by kernel_rfl) ?_
        conv => whnf
        refine And.intro g5 ?_
        clear g5
        conv => whnf
        refine And.intro g6 ?_
        clear g6
        conv => whnf
        refine And.intro (by kernel_rfl) ?_
        conv => whnf
        refine And.intro (fun e => ?_) (fun e => ?_)
        · replace g3 := ite_t g3 e; clear e
          conv => whnf
          obtain rfl := Option.some.inj g3
          obtain rfl := hy2 _ rfl
          obtain rfl := Option.some.inj h
          exact ⟨_, LE.refl _, And.intro rfl trivial⟩
        · replace g3 := ite_f g3 e; clear e
          conv => whnf
          obtain rfl := Option.some.inj g3
          refine ⟨_, rfl, le_mk ?_ ?_ ?_⟩ <;> (repeat' first | ((conv => whnf); first | exact trivial | refine And.intro ?_ ?_ | exact BLe.refl _ | exact VLe.refl _) | exact trivial | exact rfl | refine And.intro ?_ ?_ | exact BLe.refl _ | exact VLe.refl _ | exact VLe.any _ | exact VLe.nil_osl rfl | exact VLe.nil_sl rfl | exact VLe.built rfl rfl | (refine VLe.osl rfl ?_; (first | rfl | (simp; done) | assumption | (simp [dsub_eq] <;> omega) | omega)) | exact VLe.rows (by first | rfl | (simp; done) | assumption | (simp [dsub_eq] <;> omega) | omega) (fun _ _ => rfl) | exact VLe.rows (by simp [dsub_eq] <;> omega) rows_take | exact VLe.rows (by simp [dsub_eq] <;> omega) rows_dt | exact VLe.rows (by simp [dsub_eq] <;> omega) rows_vt | exact VLe.rows (by simp) (fun i _ => by simp [viewRow_eq, Nat.add_comm]) | refine VLe.aggL ?_ | (refine BLe.rows rfl ?_ fun _ _ => rfl; (first | rfl | (simp; done) | assumption | (simp [dsub_eq] <;> omega) | omega)) | (refine BLe.rows rfl rfl ?_; first | exact rows_take) | refine BLe.box ?_)
      · replace g3 := ite_f g3 e; clear e
        conv => whnf
        obtain rfl := Option.some.inj g3
        obtain rfl := hy2 _ rfl
        obtain rfl := Option.some.inj h
        exact ⟨_, LE.refl _, And.intro rfl trivial⟩

noncomputable def laws_eqTreeSlot_m (a0 : TreeSlot) (a1 : TreeSlot) : Option (Bool) :=
 bd (laws_eqTreeVector_m a0.Vector a1.Vector) fun x1 =>
(if (!x1) = true then
 some false
else
(if (a0.Left != a1.Left) = true then
 some false
else
 some true))

theorem laws_eqTreeSlot_c {a0 : TreeSlot} {a1 : TreeSlot} {r : Bool} (h : laws_eqTreeSlot_m a0 a1 = some r) : PureC Try.prog 108 [.agg [.d (.int .i64 a0.Vector.Root), .d (.int .i64 a0.Vector.Cost), .d (.int .i64 a0.Vector.Age), .d (.int .i64 a0.Left)], .agg [.d (.int .i64 a1.Vector.Root), .d (.int .i64 a1.Vector.Cost), .d (.int .i64 a1.Vector.Age), .d (.int .i64 a1.Left)]] (.d (.bool r)) [] := by
  refine pureC_m tOk (fn := Try.f108) (c := codeOf Try.f108) rfl rfl (by kernel_rfl) rfl rfl (by simp) (by simp) (ids_of rfl) ?_
  unfold laws_eqTreeSlot_m at h
  conv => whnf
  refine seq_in tOk ?_
  conv => whnf
  obtain ⟨x1, hx1, h⟩ := bd_some h
  refine callC 0 (laws_eqTreeVector_c hx1) (by kernel_rfl) (by kernel_rfl) ?_
  clear hx1
  conv => whnf
  refine And.intro (fun e => ?_) (fun e => ?_)
  · replace h := ite_t h e; clear e
    conv => whnf
    obtain rfl := Option.some.inj h
    exact ⟨_, LE.refl _, And.intro rfl trivial⟩
  · replace h := ite_f h e; clear e
    conv => whnf
    refine seq_in tOk ?_
    conv => whnf
    refine And.intro (fun e => ?_) (fun e => ?_)
    · replace h := ite_t h e; clear e
      conv => whnf
      obtain rfl := Option.some.inj h
      exact ⟨_, LE.refl _, And.intro rfl trivial⟩
    · replace h := ite_f h e; clear e
      conv => whnf
      obtain rfl := Option.some.inj h
      exact ⟨_, LE.refl _, And.intro rfl trivial⟩

noncomputable def laws_eqTreeSlotS_m (a0 : (List TreeSlot)) (a1 : (List TreeSlot)) : Option (Bool) :=
(if (((a0.length : Nat) : Int) != ((a1.length : Nat) : Int)) = true then
 some false
else
 bd (lp (σ := Int) (β := (Unit ⊕ Unit)) (fun s1 =>
(if (decide (s1 < ((a0.length : Nat) : Int))) = true then
 gd ((0 : Int) ≤ s1 ∧ s1 < ((a0.length : Nat) : Int)) <|
 gd ((0 : Int) ≤ s1 ∧ s1 < ((a1.length : Nat) : Int)) <|
 bd (laws_eqTreeSlot_m (⟨((a0.getD s1.toNat default).Vector), (a0.getD s1.toNat default).Left⟩ : TreeSlot) (⟨((a1.getD s1.toNat default).Vector), (a1.getD s1.toNat default).Left⟩ : TreeSlot)) fun x7 =>
(if (!x7) = true then
 some (.inr (.inl ()))
else
 some (.inl (IntKind.i64.wrap (s1 + 1))))
else
 some (.inr (.inr ())))) 0) fun x4 =>
(match x4 with
| .inl d8 =>
 some false
| .inr d9 =>
 some true))

theorem laws_eqTreeSlotS_c {a0 : (List TreeSlot)} {a1 : (List TreeSlot)} {r : Bool} (h : laws_eqTreeSlotS_m a0 a1 = some r) : PureC Try.prog 60 [.d (slD TreeSlot.enc a0), .d (slD TreeSlot.enc a1)] (.d (.bool r)) [] := by
  refine pureC_m tOk (fn := Try.f60) (c := codeOf Try.f60) rfl rfl (by kernel_rfl) rfl rfl (by simp) (by simp) (ids_of rfl) ?_
  unfold laws_eqTreeSlotS_m at h
  conv => whnf
  refine seq_in tOk ?_
  conv => whnf
  refine And.intro (fun e => ?_) (fun e => ?_)
  · replace h := ite_t h e; clear e
    conv => whnf
    obtain rfl := Option.some.inj h
    exact ⟨_, LE.refl _, And.intro rfl trivial⟩
  · replace h := ite_f h e; clear e
    conv => whnf
    refine seq_in tOk ?_
    conv => whnf
    obtain ⟨x4, hx4, h⟩ := bd_some h
    refine loop_m tOk hx4 (fun s1 => ⟨0, 27, [(0, .d (slD TreeSlot.enc a0)), (1, .d (slD TreeSlot.enc a1)), (5, .d (.int .i64 s1))], [], [], []⟩) ?_ ?_
    · refine le_mk ?_ ?_ ?_ <;> (repeat' first | ((conv => whnf); first | exact trivial | refine And.intro ?_ ?_ | exact BLe.refl _ | exact VLe.refl _) | exact trivial | exact rfl | refine And.intro ?_ ?_ | exact BLe.refl _ | exact VLe.refl _ | exact VLe.any _ | exact VLe.nil_osl rfl | exact VLe.nil_sl rfl | exact VLe.built rfl rfl | (refine VLe.osl rfl ?_; (first | rfl | (simp; done) | assumption | (simp [dsub_eq] <;> omega) | omega)) | exact VLe.rows (by first | rfl | (simp; done) | assumption | (simp [dsub_eq] <;> omega) | omega) (fun _ _ => rfl) | exact VLe.rows (by simp [dsub_eq] <;> omega) rows_take | exact VLe.rows (by simp [dsub_eq] <;> omega) rows_dt | exact VLe.rows (by simp [dsub_eq] <;> omega) rows_vt | exact VLe.rows (by simp) (fun i _ => by simp [viewRow_eq, Nat.add_comm]) | refine VLe.aggL ?_ | (refine BLe.rows rfl ?_ fun _ _ => rfl; (first | rfl | (simp; done) | assumption | (simp [dsub_eq] <;> omega) | omega)) | (refine BLe.rows rfl rfl ?_; first | exact rows_take) | refine BLe.box ?_)
    · clear hx4
      intro s1 y2 g3 hy2
      conv => whnf
      refine seq_in tOk ?_
      conv => whnf
      refine And.intro (fun e => ?_) (fun e => ?_)
      · replace g3 := ite_t g3 e; clear e
        conv => whnf
        refine seq_in tOk ?_
        conv => whnf
        obtain ⟨g5, g3⟩ := gd_some g3
        obtain ⟨g6, g3⟩ := gd_some g3
        obtain ⟨x7, hx7, g3⟩ := bd_some g3
        refine draw_k tOk (by kernel_rfl) (fun j => match j with | 8 => some (.pure 0 (.d (.bool x7)) []) | _ => none) 10 [] [[], [], [true, true], [true, true, true], [], [], [false, false, false, false, true, true], [false, false, false, false, true, true, true], [true, true, true, true, true, true, true, true], [true, true, true, true, true, true, true, true, true]] [] (by decide) (by kernel_rfl) (by kernel_rfl) ?_
        conv => whnf
        refine And.intro g5 ?_
        clear g5
        conv => whnf
        refine And.intro g6 ?_
        clear g6
        conv => whnf
        refine And.intro (callD_any (laws_eqTreeSlot_c hx7) (by kernel_rfl)) ?_
        conv => whnf
        refine And.intro (by kernel_rfl) ?_
        conv => whnf
        refine And.intro (fun e => ?_) (fun e => ?_)
        · replace g3 := ite_t g3 e; clear e
          conv => whnf
          obtain rfl := Option.some.inj g3
          obtain rfl := hy2 _ rfl
          obtain rfl := Option.some.inj h
          exact ⟨_, LE.refl _, And.intro rfl trivial⟩
        · replace g3 := ite_f g3 e; clear e
          conv => whnf
          obtain rfl := Option.some.inj g3
          refine ⟨_, rfl, le_mk ?_ ?_ ?_⟩ <;> (repeat' first | ((conv => whnf); first | exact trivial | refine And.intro ?_ ?_ | exact BLe.refl _ | exact VLe.refl _) | exact trivial | exact rfl | refine And.intro ?_ ?_ | exact BLe.refl _ | exact VLe.refl _ | exact VLe.any _ | exact VLe.nil_osl rfl | exact VLe.nil_sl rfl | exact VLe.built rfl rfl | (refine VLe.osl rfl ?_; (first | rfl | (simp; done) | assumption | (simp [dsub_eq] <;> omega) | omega)) | exact VLe.rows (by first | rfl | (simp; done) | assumption | (simp [dsub_eq] <;> omega) | omega) (fun _ _ => rfl) | exact VLe.rows (by simp [dsub_eq] <;> omega) rows_take | exact VLe.rows (by simp [dsub_eq] <;> omega) rows_dt | exact VLe.rows (by simp [dsub_eq] <;> omega) rows_vt | exact VLe.rows (by simp) (fun i _ => by simp [viewRow_eq, Nat.add_comm]) | refine VLe.aggL ?_ | (refine BLe.rows rfl ?_ fun _ _ => rfl; (first | rfl | (simp; done) | assumption | (simp [dsub_eq] <;> omega) | omega)) | (refine BLe.rows rfl rfl ?_; first | exact rows_take) | refine BLe.box ?_)
      · replace g3 := ite_f g3 e; clear e
        conv => whnf
        obtain rfl := Option.some.inj g3
        obtain rfl := hy2 _ rfl
        obtain rfl := Option.some.inj h
        exact ⟨_, LE.refl _, And.intro rfl trivial⟩

noncomputable def laws_eqTreeWord_m (a0 : TreeWord) (a1 : TreeWord) : Option (Bool) :=
(if (a0.Link != a1.Link) = true then
 some false
else
(if (a0.End != a1.End) = true then
 some false
else
 bd (laws_eqTreeVector_m a0.Vector a1.Vector) fun x1 =>
(if (!x1) = true then
 some false
else
 some true)))

theorem laws_eqTreeWord_c {a0 : TreeWord} {a1 : TreeWord} {r : Bool} (h : laws_eqTreeWord_m a0 a1 = some r) : PureC Try.prog 109 [.agg [.d (.int .i64 a0.Link), .d (.int .i64 a0.End), .d (.int .i64 a0.Vector.Root), .d (.int .i64 a0.Vector.Cost), .d (.int .i64 a0.Vector.Age)], .agg [.d (.int .i64 a1.Link), .d (.int .i64 a1.End), .d (.int .i64 a1.Vector.Root), .d (.int .i64 a1.Vector.Cost), .d (.int .i64 a1.Vector.Age)]] (.d (.bool r)) [] := by
  refine pureC_m tOk (fn := Try.f109) (c := codeOf Try.f109) rfl rfl (by kernel_rfl) rfl rfl (by simp) (by simp) (ids_of rfl) ?_
  unfold laws_eqTreeWord_m at h
  conv => whnf
  refine seq_in tOk ?_
  conv => whnf
  refine And.intro (fun e => ?_) (fun e => ?_)
  · replace h := ite_t h e; clear e
    conv => whnf
    obtain rfl := Option.some.inj h
    exact ⟨_, LE.refl _, And.intro rfl trivial⟩
  · replace h := ite_f h e; clear e
    conv => whnf
    refine seq_in tOk ?_
    conv => whnf
    refine And.intro (fun e => ?_) (fun e => ?_)
    · replace h := ite_t h e; clear e
      conv => whnf
      obtain rfl := Option.some.inj h
      exact ⟨_, LE.refl _, And.intro rfl trivial⟩
    · replace h := ite_f h e; clear e
      conv => whnf
      refine seq_in tOk ?_
      conv => whnf
      obtain ⟨x1, hx1, h⟩ := bd_some h
      refine callC 0 (laws_eqTreeVector_c hx1) (by kernel_rfl) (by kernel_rfl) ?_
      clear hx1
      conv => whnf
      refine And.intro (fun e => ?_) (fun e => ?_)
      · replace h := ite_t h e; clear e
        conv => whnf
        obtain rfl := Option.some.inj h
        exact ⟨_, LE.refl _, And.intro rfl trivial⟩
      · replace h := ite_f h e; clear e
        conv => whnf
        obtain rfl := Option.some.inj h
        exact ⟨_, LE.refl _, And.intro rfl trivial⟩

noncomputable def laws_eqTreeWordS_m (a0 : (List TreeWord)) (a1 : (List TreeWord)) : Option (Bool) :=
(if (((a0.length : Nat) : Int) != ((a1.length : Nat) : Int)) = true then
 some false
else
 bd (lp (σ := Int) (β := (Unit ⊕ Unit)) (fun s1 =>
(if (decide (s1 < ((a0.length : Nat) : Int))) = true then
 gd ((0 : Int) ≤ s1 ∧ s1 < ((a0.length : Nat) : Int)) <|
 gd ((0 : Int) ≤ s1 ∧ s1 < ((a1.length : Nat) : Int)) <|
 bd (laws_eqTreeWord_m ({ (a0.getD s1.toNat default) with Vector := ((a0.getD s1.toNat default).Vector) }) ({ (a1.getD s1.toNat default) with Vector := ((a1.getD s1.toNat default).Vector) })) fun x7 =>
(if (!x7) = true then
 some (.inr (.inl ()))
else
 some (.inl (IntKind.i64.wrap (s1 + 1))))
else
 some (.inr (.inr ())))) 0) fun x4 =>
(match x4 with
| .inl d8 =>
 some false
| .inr d9 =>
 some true))

theorem laws_eqTreeWordS_c {a0 : (List TreeWord)} {a1 : (List TreeWord)} {r : Bool} (h : laws_eqTreeWordS_m a0 a1 = some r) : PureC Try.prog 61 [.d (slD TreeWord.enc a0), .d (slD TreeWord.enc a1)] (.d (.bool r)) [] := by
  refine pureC_m tOk (fn := Try.f61) (c := codeOf Try.f61) rfl rfl (by kernel_rfl) rfl rfl (by simp) (by simp) (ids_of rfl) ?_
  unfold laws_eqTreeWordS_m at h
  conv => whnf
  refine seq_in tOk ?_
  conv => whnf
  refine And.intro (fun e => ?_) (fun e => ?_)
  · replace h := ite_t h e; clear e
    conv => whnf
    obtain rfl := Option.some.inj h
    exact ⟨_, LE.refl _, And.intro rfl trivial⟩
  · replace h := ite_f h e; clear e
    conv => whnf
    refine seq_in tOk ?_
    conv => whnf
    obtain ⟨x4, hx4, h⟩ := bd_some h
    refine loop_m tOk hx4 (fun s1 => ⟨0, 27, [(0, .d (slD TreeWord.enc a0)), (1, .d (slD TreeWord.enc a1)), (5, .d (.int .i64 s1))], [], [], []⟩) ?_ ?_
    · refine le_mk ?_ ?_ ?_ <;> (repeat' first | ((conv => whnf); first | exact trivial | refine And.intro ?_ ?_ | exact BLe.refl _ | exact VLe.refl _) | exact trivial | exact rfl | refine And.intro ?_ ?_ | exact BLe.refl _ | exact VLe.refl _ | exact VLe.any _ | exact VLe.nil_osl rfl | exact VLe.nil_sl rfl | exact VLe.built rfl rfl | (refine VLe.osl rfl ?_; (first | rfl | (simp; done) | assumption | (simp [dsub_eq] <;> omega) | omega)) | exact VLe.rows (by first | rfl | (simp; done) | assumption | (simp [dsub_eq] <;> omega) | omega) (fun _ _ => rfl) | exact VLe.rows (by simp [dsub_eq] <;> omega) rows_take | exact VLe.rows (by simp [dsub_eq] <;> omega) rows_dt | exact VLe.rows (by simp [dsub_eq] <;> omega) rows_vt | exact VLe.rows (by simp) (fun i _ => by simp [viewRow_eq, Nat.add_comm]) | refine VLe.aggL ?_ | (refine BLe.rows rfl ?_ fun _ _ => rfl; (first | rfl | (simp; done) | assumption | (simp [dsub_eq] <;> omega) | omega)) | (refine BLe.rows rfl rfl ?_; first | exact rows_take) | refine BLe.box ?_)
    · clear hx4
      intro s1 y2 g3 hy2
      conv => whnf
      refine seq_in tOk ?_
      conv => whnf
      refine And.intro (fun e => ?_) (fun e => ?_)
      · replace g3 := ite_t g3 e; clear e
        conv => whnf
        refine seq_in tOk ?_
        conv => whnf
        obtain ⟨g5, g3⟩ := gd_some g3
        obtain ⟨g6, g3⟩ := gd_some g3
        obtain ⟨x7, hx7, g3⟩ := bd_some g3
        refine draw_k tOk (by kernel_rfl) (fun j => match j with | 8 => some (.pure 0 (.d (.bool x7)) []) | _ => none) 10 [] [[], [], [true, true], [true, true, true], [], [], [false, false, false, false, true, true], [false, false, false, false, true, true, true], [true, true, true, true, true, true, true, true], [true, true, true, true, true, true, true, true, true]] [] (by decide) (by kernel_rfl) (by kernel_rfl) ?_
        conv => whnf
        refine And.intro g5 ?_
        clear g5
        conv => whnf
        refine And.intro g6 ?_
        clear g6
        conv => whnf
        refine And.intro (callD_any (laws_eqTreeWord_c hx7) (by kernel_rfl)) ?_
        conv => whnf
        refine And.intro (by kernel_rfl) ?_
        conv => whnf
        refine And.intro (fun e => ?_) (fun e => ?_)
        · replace g3 := ite_t g3 e; clear e
          conv => whnf
          obtain rfl := Option.some.inj g3
          obtain rfl := hy2 _ rfl
          obtain rfl := Option.some.inj h
          exact ⟨_, LE.refl _, And.intro rfl trivial⟩
        · replace g3 := ite_f g3 e; clear e
          conv => whnf
          obtain rfl := Option.some.inj g3
          refine ⟨_, rfl, le_mk ?_ ?_ ?_⟩ <;> (repeat' first | ((conv => whnf); first | exact trivial | refine And.intro ?_ ?_ | exact BLe.refl _ | exact VLe.refl _) | exact trivial | exact rfl | refine And.intro ?_ ?_ | exact BLe.refl _ | exact VLe.refl _ | exact VLe.any _ | exact VLe.nil_osl rfl | exact VLe.nil_sl rfl | exact VLe.built rfl rfl | (refine VLe.osl rfl ?_; (first | rfl | (simp; done) | assumption | (simp [dsub_eq] <;> omega) | omega)) | exact VLe.rows (by first | rfl | (simp; done) | assumption | (simp [dsub_eq] <;> omega) | omega) (fun _ _ => rfl) | exact VLe.rows (by simp [dsub_eq] <;> omega) rows_take | exact VLe.rows (by simp [dsub_eq] <;> omega) rows_dt | exact VLe.rows (by simp [dsub_eq] <;> omega) rows_vt | exact VLe.rows (by simp) (fun i _ => by simp [viewRow_eq, Nat.add_comm]) | refine VLe.aggL ?_ | (refine BLe.rows rfl ?_ fun _ _ => rfl; (first | rfl | (simp; done) | assumption | (simp [dsub_eq] <;> omega) | omega)) | (refine BLe.rows rfl rfl ?_; first | exact rows_take) | refine BLe.box ?_)
      · replace g3 := ite_f g3 e; clear e
        conv => whnf
        obtain rfl := Option.some.inj g3
        obtain rfl := hy2 _ rfl
        obtain rfl := Option.some.inj h
        exact ⟨_, LE.refl _, And.intro rfl trivial⟩

noncomputable def laws_eqTreeWorld_m (a0 : TreeWorld) (a1 : TreeWorld) : Option (Bool) :=
 bd (laws_eqTreeBridgeS_m a0.Bridges a1.Bridges) fun x1 =>
(if (!x1) = true then
 some false
else
 bd (laws_eqTreeLinkS_m a0.Links a1.Links) fun x2 =>
(if (!x2) = true then
 some false
else
 bd (laws_eqIntS_m a0.Down a1.Down) fun x3 =>
(if (!x3) = true then
 some false
else
 bd (laws_eqTreeSlotS_m a0.AtA a1.AtA) fun x4 =>
(if (!x4) = true then
 some false
else
 bd (laws_eqTreeSlotS_m a0.AtB a1.AtB) fun x5 =>
(if (!x5) = true then
 some false
else
 bd (laws_eqTreeWordS_m a0.Radio a1.Radio) fun x6 =>
(if (!x6) = true then
 some false
else
 some true))))))

theorem laws_eqTreeWorld_c {a0 : TreeWorld} {a1 : TreeWorld} {r : Bool} (h : laws_eqTreeWorld_m a0 a1 = some r) : PureC Try.prog 14 [.agg [.d (slD TreeBridge.enc a0.Bridges), .d (slD TreeLink.enc a0.Links), .d (slD encInt a0.Down), .d (slD TreeSlot.enc a0.AtA), .d (slD TreeSlot.enc a0.AtB), .d (slD TreeWord.enc a0.Radio)], .agg [.d (slD TreeBridge.enc a1.Bridges), .d (slD TreeLink.enc a1.Links), .d (slD encInt a1.Down), .d (slD TreeSlot.enc a1.AtA), .d (slD TreeSlot.enc a1.AtB), .d (slD TreeWord.enc a1.Radio)]] (.d (.bool r)) [] := by
  refine pureC_m tOk (fn := Try.f14) (c := codeOf Try.f14) rfl rfl (by kernel_rfl) rfl rfl (by simp) (by simp) (ids_of rfl) ?_
  unfold laws_eqTreeWorld_m at h
  conv => whnf
  refine seq_in tOk ?_
  conv => whnf
  obtain ⟨x1, hx1, h⟩ := bd_some h
  refine callC 0 (laws_eqTreeBridgeS_c hx1) (by kernel_rfl) (by kernel_rfl) ?_
  clear hx1
  conv => whnf
  refine And.intro (fun e => ?_) (fun e => ?_)
  · replace h := ite_t h e; clear e
    conv => whnf
    obtain rfl := Option.some.inj h
    exact ⟨_, LE.refl _, And.intro rfl trivial⟩
  · replace h := ite_f h e; clear e
    conv => whnf
    refine seq_in tOk ?_
    conv => whnf
    obtain ⟨x2, hx2, h⟩ := bd_some h
    refine callC 0 (laws_eqTreeLinkS_c hx2) (by kernel_rfl) (by kernel_rfl) ?_
    clear hx2
    conv => whnf
    refine And.intro (fun e => ?_) (fun e => ?_)
    · replace h := ite_t h e; clear e
      conv => whnf
      obtain rfl := Option.some.inj h
      exact ⟨_, LE.refl _, And.intro rfl trivial⟩
    · replace h := ite_f h e; clear e
      conv => whnf
      refine seq_in tOk ?_
      conv => whnf
      obtain ⟨x3, hx3, h⟩ := bd_some h
      refine callC 0 (laws_eqIntS_c hx3) (by kernel_rfl) (by kernel_rfl) ?_
      clear hx3
      conv => whnf
      refine And.intro (fun e => ?_) (fun e => ?_)
      · replace h := ite_t h e; clear e
        conv => whnf
        obtain rfl := Option.some.inj h
        exact ⟨_, LE.refl _, And.intro rfl trivial⟩
      · replace h := ite_f h e; clear e
        conv => whnf
        refine seq_in tOk ?_
        conv => whnf
        obtain ⟨x4, hx4, h⟩ := bd_some h
        refine callC 0 (laws_eqTreeSlotS_c hx4) (by kernel_rfl) (by kernel_rfl) ?_
        clear hx4
        conv => whnf
        refine And.intro (fun e => ?_) (fun e => ?_)
        · replace h := ite_t h e; clear e
          conv => whnf
          obtain rfl := Option.some.inj h
          exact ⟨_, LE.refl _, And.intro rfl trivial⟩
        · replace h := ite_f h e; clear e
          conv => whnf
          refine seq_in tOk ?_
          conv => whnf
          obtain ⟨x5, hx5, h⟩ := bd_some h
          refine callC 0 (laws_eqTreeSlotS_c hx5) (by kernel_rfl) (by kernel_rfl) ?_
          clear hx5
          conv => whnf
          refine And.intro (fun e => ?_) (fun e => ?_)
          · replace h := ite_t h e; clear e
            conv => whnf
            obtain rfl := Option.some.inj h
            exact ⟨_, LE.refl _, And.intro rfl trivial⟩
          · replace h := ite_f h e; clear e
            conv => whnf
            refine seq_in tOk ?_
            conv => whnf
            obtain ⟨x6, hx6, h⟩ := bd_some h
            refine callC 0 (laws_eqTreeWordS_c hx6) (by kernel_rfl) (by kernel_rfl) ?_
            clear hx6
            conv => whnf
            refine And.intro (fun e => ?_) (fun e => ?_)
            · replace h := ite_t h e; clear e
              conv => whnf
              obtain rfl := Option.some.inj h
              exact ⟨_, LE.refl _, And.intro rfl trivial⟩
            · replace h := ite_f h e; clear e
              conv => whnf
              obtain rfl := Option.some.inj h
              exact ⟨_, LE.refl _, And.intro rfl trivial⟩

noncomputable def laws_markTreeBridgeS_m (a0 : (List TreeBridge)) (a1 : Int) : Option (Int × (List TreeBridge)) :=
 bd (lp (σ := List TreeBridge × Int × Int) (β := (Int × (List TreeBridge) × Nat)) (fun s1 =>
(if (decide (s1.2.2 < ((s1.1.length : Nat) : Int))) = true then
 gd ((0 : Int) ≤ s1.2.2 ∧ s1.2.2 < ((s1.1.length : Nat) : Int)) <|
 bd (some (s1.1.set s1.2.2.toNat (⟨s1.2.1, (s1.1.getD s1.2.2.toNat default).Up, (⟨(((s1.1.getD s1.2.2.toNat default).Mind).Vector), ((s1.1.getD s1.2.2.toNat default).Mind).Link⟩ : TreeMind)⟩ : TreeBridge))) fun x6 =>
 gd ((3 : Int) ≠ 0) <|
 gd ((0 : Int) ≤ s1.2.2 ∧ s1.2.2 < ((s1.1.length : Nat) : Int)) <|
 bd (some (x6.set s1.2.2.toNat (⟨(x6.getD s1.2.2.toNat default).Id, (((IntKind.i64.wrap (s1.2.1 + 1) : Int).tmod 3) == 0), (⟨(((x6.getD s1.2.2.toNat default).Mind).Vector), ((x6.getD s1.2.2.toNat default).Mind).Link⟩ : TreeMind)⟩ : TreeBridge))) fun x9 =>
 gd ((0 : Int) ≤ s1.2.2 ∧ s1.2.2 < ((s1.1.length : Nat) : Int)) <|
 bd (some (x9.set s1.2.2.toNat ({ (x9.getD s1.2.2.toNat default) with Mind := (⟨{ (((x9.getD s1.2.2.toNat default).Mind).Vector) with Root := IntKind.i64.wrap ((IntKind.i64.wrap (s1.2.1 + 1)) + 1) }, ((x9.getD s1.2.2.toNat default).Mind).Link⟩ : TreeMind) }))) fun x11 =>
 gd ((0 : Int) ≤ s1.2.2 ∧ s1.2.2 < ((s1.1.length : Nat) : Int)) <|
 bd (some (x11.set s1.2.2.toNat ({ (x11.getD s1.2.2.toNat default) with Mind := (⟨{ (((x11.getD s1.2.2.toNat default).Mind).Vector) with Cost := IntKind.i64.wrap ((IntKind.i64.wrap ((IntKind.i64.wrap (s1.2.1 + 1)) + 1)) + 1) }, ((x11.getD s1.2.2.toNat default).Mind).Link⟩ : TreeMind) }))) fun x13 =>
 gd ((0 : Int) ≤ s1.2.2 ∧ s1.2.2 < ((s1.1.length : Nat) : Int)) <|
 bd (some (x13.set s1.2.2.toNat ({ (x13.getD s1.2.2.toNat default) with Mind := (⟨{ (((x13.getD s1.2.2.toNat default).Mind).Vector) with Age := IntKind.i64.wrap ((IntKind.i64.wrap ((IntKind.i64.wrap ((IntKind.i64.wrap (s1.2.1 + 1)) + 1)) + 1)) + 1) }, ((x13.getD s1.2.2.toNat default).Mind).Link⟩ : TreeMind) }))) fun x15 =>
 gd ((0 : Int) ≤ s1.2.2 ∧ s1.2.2 < ((s1.1.length : Nat) : Int)) <|
 bd (some (x15.set s1.2.2.toNat ({ (x15.getD s1.2.2.toNat default) with Mind := (⟨(((x15.getD s1.2.2.toNat default).Mind).Vector), IntKind.i64.wrap ((IntKind.i64.wrap ((IntKind.i64.wrap ((IntKind.i64.wrap ((IntKind.i64.wrap (s1.2.1 + 1)) + 1)) + 1)) + 1)) + 1)⟩ : TreeMind) }))) fun x17 =>
 some (.inl (x17, IntKind.i64.wrap ((IntKind.i64.wrap ((IntKind.i64.wrap ((IntKind.i64.wrap ((IntKind.i64.wrap ((IntKind.i64.wrap (s1.2.1 + 1)) + 1)) + 1)) + 1)) + 1)) + 1), IntKind.i64.wrap (s1.2.2 + 1)))
else
 some (.inr (s1.2.1, s1.1, s1.1.length)))) (a0, a1, 0)) fun x4 =>
 gd (x4.2.2 = a0.length) <|
 some (x4.1, x4.2.1)

theorem laws_markTreeBridgeS_c {a0 : (List TreeBridge)} {a1 : Int} {r : Int × (List TreeBridge)} (h : laws_markTreeBridgeS_m a0 a1 = some r) : EffC Try.prog 62 [.osl 9000 0 a0.length, .d (.int .i64 a1)] [(9000, .arr 58 6 a0.length (rows TreeBridge.enc a0))] (.d (.int .i64 r.1)) [(9000, .arr 58 6 a0.length (rows TreeBridge.enc r.2))] := by
  refine effC_m tOk (fn := Try.f62) (c := codeOf Try.f62) rfl rfl (by kernel_rfl) rfl rfl rfl rfl ?_
  unfold laws_markTreeBridgeS_m at h
  conv => whnf
  refine seq_in tOk ?_
  conv => whnf
  obtain ⟨x4, hx4, h⟩ := bd_some h
  refine loop_m tOk hx4 (fun s1 => ⟨0, 64, [(0, .osl 9000 0 s1.1.length), (1, .d (.int .i64 s1.2.1)), (5, .d (.int .i64 s1.2.2))], [], [(9000, .arr 58 6 s1.1.length (rows TreeBridge.enc s1.1))], [⟨[(0, .osl 9000 0 s1.1.length)], []⟩]⟩) ?_ ?_
  · refine le_mk ?_ ?_ ?_ <;> (repeat' first | ((conv => whnf); first | exact trivial | refine And.intro ?_ ?_ | exact BLe.refl _ | exact VLe.refl _) | exact trivial | exact rfl | refine And.intro ?_ ?_ | exact BLe.refl _ | exact VLe.refl _ | exact VLe.any _ | exact VLe.nil_osl rfl | exact VLe.nil_sl rfl | exact VLe.built rfl rfl | (refine VLe.osl rfl ?_; (first | rfl | (simp; done) | assumption | (simp [dsub_eq] <;> omega) | omega)) | exact VLe.rows (by first | rfl | (simp; done) | assumption | (simp [dsub_eq] <;> omega) | omega) (fun _ _ => rfl) | exact VLe.rows (by simp [dsub_eq] <;> omega) rows_take | exact VLe.rows (by simp [dsub_eq] <;> omega) rows_dt | exact VLe.rows (by simp [dsub_eq] <;> omega) rows_vt | exact VLe.rows (by simp) (fun i _ => by simp [viewRow_eq, Nat.add_comm]) | refine VLe.aggL ?_ | (refine BLe.rows rfl ?_ fun _ _ => rfl; (first | rfl | (simp; done) | assumption | (simp [dsub_eq] <;> omega) | omega)) | (refine BLe.rows rfl rfl ?_; first | exact rows_take) | refine BLe.box ?_)
  · clear hx4
    intro s1 y2 g3 hy2
    conv => whnf
    refine seq_in tOk ?_
    conv => whnf
    refine And.intro (fun e => ?_) (fun e => ?_)
    · replace g3 := ite_t g3 e; clear e
      conv => whnf
      refine seq_in tOk ?_
      conv => whnf
      obtain ⟨g5, g3⟩ := gd_some g3
      refine And.intro g5 ?_
      clear g5
      conv => whnf
      obtain ⟨x6, hx6, g3⟩ := bd_some g3
      replace hx6 := Option.some.inj hx6
      have hlx6 := set_len hx6
      try simp only [List.length_set] at hlx6
      refine ⟨rows TreeBridge.enc x6, store_rows2 hx6 ((by first | rfl | (simp; done) | assumption | (simp [dsub_eq] <;> omega) | omega)) rfl, ?_⟩
      conv => whnf
      obtain ⟨g7, g3⟩ := gd_some g3
      refine And.intro g7 ?_
      clear g7
      conv => whnf
      obtain ⟨g8, g3⟩ := gd_some g3
      refine And.intro g8 ?_
      clear g8
      conv => whnf
      obtain ⟨x9, hx9, g3⟩ := bd_some g3
      replace hx9 := Option.some.inj hx9
      have hlx9 := set_len hx9
      try simp only [List.length_set] at hlx9
      refine ⟨rows TreeBridge.enc x9, store_rows2 hx9 ((by first | rfl | (simp; done) | assumption | (simp [dsub_eq] <;> omega) | omega)) rfl, ?_⟩
      conv => whnf
      obtain ⟨g10, g3⟩ := gd_some g3
      refine And.intro g10 ?_
      clear g10
      conv => whnf
      obtain ⟨x11, hx11, g3⟩ := bd_some g3
      replace hx11 := Option.some.inj hx11
      have hlx11 := set_len hx11
      try simp only [List.length_set] at hlx11
      refine ⟨rows TreeBridge.enc x11, store_rows2 hx11 ((by first | rfl | (simp; done) | assumption | (simp [dsub_eq] <;> omega) | omega)) rfl, ?_⟩
      conv => whnf
      obtain ⟨g12, g3⟩ := gd_some g3
      refine And.intro g12 ?_
      clear g12
      conv => whnf
      obtain ⟨x13, hx13, g3⟩ := bd_some g3
      replace hx13 := Option.some.inj hx13
      have hlx13 := set_len hx13
      try simp only [List.length_set] at hlx13
      refine ⟨rows TreeBridge.enc x13, store_rows2 hx13 ((by first | rfl | (simp; done) | assumption | (simp [dsub_eq] <;> omega) | omega)) rfl, ?_⟩
      conv => whnf
      obtain ⟨g14, g3⟩ := gd_some g3
      refine And.intro g14 ?_
      clear g14
      conv => whnf
      obtain ⟨x15, hx15, g3⟩ := bd_some g3
      replace hx15 := Option.some.inj hx15
      have hlx15 := set_len hx15
      try simp only [List.length_set] at hlx15
      refine ⟨rows TreeBridge.enc x15, store_rows2 hx15 ((by first | rfl | (simp; done) | assumption | (simp [dsub_eq] <;> omega) | omega)) rfl, ?_⟩
      conv => whnf
      obtain ⟨g16, g3⟩ := gd_some g3
      refine And.intro g16 ?_
      clear g16
      conv => whnf
      obtain ⟨x17, hx17, g3⟩ := bd_some g3
      replace hx17 := Option.some.inj hx17
      have hlx17 := set_len hx17
      try simp only [List.length_set] at hlx17
      refine ⟨rows TreeBridge.enc x17, store_rows2 hx17 ((by first | rfl | (simp; done) | assumption | (simp [dsub_eq] <;> omega) | omega)) rfl, ?_⟩
      conv => whnf
      obtain rfl := Option.some.inj g3
      refine ⟨_, rfl, le_mk ?_ ?_ ?_⟩ <;> (repeat' first | ((conv => whnf); first | exact trivial | refine And.intro ?_ ?_ | exact BLe.refl _ | exact VLe.refl _) | exact trivial | exact rfl | refine And.intro ?_ ?_ | exact BLe.refl _ | exact VLe.refl _ | exact VLe.any _ | exact VLe.nil_osl rfl | exact VLe.nil_sl rfl | exact VLe.built rfl rfl | (refine VLe.osl rfl ?_; (first | rfl | (simp; done) | assumption | (simp [dsub_eq] <;> omega) | omega)) | exact VLe.rows (by first | rfl | (simp; done) | assumption | (simp [dsub_eq] <;> omega) | omega) (fun _ _ => rfl) | exact VLe.rows (by simp [dsub_eq] <;> omega) rows_take | exact VLe.rows (by simp [dsub_eq] <;> omega) rows_dt | exact VLe.rows (by simp [dsub_eq] <;> omega) rows_vt | exact VLe.rows (by simp) (fun i _ => by simp [viewRow_eq, Nat.add_comm]) | refine VLe.aggL ?_ | (refine BLe.rows rfl ?_ fun _ _ => rfl; (first | rfl | (simp; done) | assumption | (simp [dsub_eq] <;> omega) | omega)) | (refine BLe.rows rfl rfl ?_; first | exact rows_take) | refine BLe.box ?_)
    · replace g3 := ite_f g3 e; clear e
      conv => whnf
      obtain rfl := Option.some.inj g3
      obtain rfl := hy2 _ rfl
      obtain ⟨g19, h⟩ := gd_some h
      obtain rfl := Option.some.inj h
      refine ⟨⟨0, 64, [(4, .d (.int .i64 (s1.2.1, s1.1, s1.1.length).1))], [], [(9000, .arr 58 6 a0.length (rows TreeBridge.enc (s1.2.1, s1.1, s1.1.length).2.1))], [⟨[(0, .osl 9000 0 a0.length)], []⟩]⟩, ?_, And.intro rfl (And.intro ?_ ?_)⟩
      · refine LE.trans (S' := ⟨0, 64, [(4, .d (.int .i64 (s1.2.1, s1.1, s1.1.length).1))], [], [(9000, .arr 58 6 (s1.2.1, s1.1, s1.1.length).2.2 (rows TreeBridge.enc (s1.2.1, s1.1, s1.1.length).2.1))], [⟨[(0, .osl 9000 0 (s1.2.1, s1.1, s1.1.length).2.2)], []⟩]⟩) (le_mk ?_ ?_ ?_) (le_mk ?_ ?_ ?_) <;> (repeat' first | ((conv => whnf); first | exact trivial | refine And.intro ?_ ?_ | exact BLe.refl _ | exact VLe.refl _) | exact trivial | exact rfl | refine And.intro ?_ ?_ | exact BLe.refl _ | exact VLe.refl _ | exact VLe.any _ | exact VLe.nil_osl rfl | exact VLe.nil_sl rfl | exact VLe.built rfl rfl | (refine VLe.osl rfl ?_; (first | rfl | (simp; done) | assumption | (simp [dsub_eq] <;> omega) | omega)) | exact VLe.rows (by first | rfl | (simp; done) | assumption | (simp [dsub_eq] <;> omega) | omega) (fun _ _ => rfl) | exact VLe.rows (by simp [dsub_eq] <;> omega) rows_take | exact VLe.rows (by simp [dsub_eq] <;> omega) rows_dt | exact VLe.rows (by simp [dsub_eq] <;> omega) rows_vt | exact VLe.rows (by simp) (fun i _ => by simp [viewRow_eq, Nat.add_comm]) | refine VLe.aggL ?_ | (refine BLe.rows rfl ?_ fun _ _ => rfl; (first | rfl | (simp; done) | assumption | (simp [dsub_eq] <;> omega) | omega)) | (refine BLe.rows rfl rfl ?_; first | exact rows_take) | refine BLe.box ?_)
      · (repeat' first | ((conv => whnf); first | exact trivial | refine And.intro ?_ ?_ | exact BLe.refl _ | exact VLe.refl _) | exact trivial | exact rfl | refine And.intro ?_ ?_ | exact BLe.refl _ | exact VLe.refl _ | exact VLe.any _ | exact VLe.nil_osl rfl | exact VLe.nil_sl rfl | exact VLe.built rfl rfl | (refine VLe.osl rfl ?_; (first | rfl | (simp; done) | assumption | (simp [dsub_eq] <;> omega) | omega)) | exact VLe.rows (by first | rfl | (simp; done) | assumption | (simp [dsub_eq] <;> omega) | omega) (fun _ _ => rfl) | exact VLe.rows (by simp [dsub_eq] <;> omega) rows_take | exact VLe.rows (by simp [dsub_eq] <;> omega) rows_dt | exact VLe.rows (by simp [dsub_eq] <;> omega) rows_vt | exact VLe.rows (by simp) (fun i _ => by simp [viewRow_eq, Nat.add_comm]) | refine VLe.aggL ?_ | (refine BLe.rows rfl ?_ fun _ _ => rfl; (first | rfl | (simp; done) | assumption | (simp [dsub_eq] <;> omega) | omega)) | refine BLe.box ?_ | (simp; done))
      · (repeat' first | ((conv => whnf); first | exact trivial | refine And.intro ?_ ?_ | exact BLe.refl _ | exact VLe.refl _) | exact trivial | exact rfl | refine And.intro ?_ ?_ | exact BLe.refl _ | exact VLe.refl _ | exact VLe.any _ | exact VLe.nil_osl rfl | exact VLe.nil_sl rfl | exact VLe.built rfl rfl | (refine VLe.osl rfl ?_; (first | rfl | (simp; done) | assumption | (simp [dsub_eq] <;> omega) | omega)) | exact VLe.rows (by first | rfl | (simp; done) | assumption | (simp [dsub_eq] <;> omega) | omega) (fun _ _ => rfl) | exact VLe.rows (by simp [dsub_eq] <;> omega) rows_take | exact VLe.rows (by simp [dsub_eq] <;> omega) rows_dt | exact VLe.rows (by simp [dsub_eq] <;> omega) rows_vt | exact VLe.rows (by simp) (fun i _ => by simp [viewRow_eq, Nat.add_comm]) | refine VLe.aggL ?_ | (refine BLe.rows rfl ?_ fun _ _ => rfl; (first | rfl | (simp; done) | assumption | (simp [dsub_eq] <;> omega) | omega)) | refine BLe.box ?_ | (simp; done))

end Go.Proofs.Ytbolhcpkpncmfab
