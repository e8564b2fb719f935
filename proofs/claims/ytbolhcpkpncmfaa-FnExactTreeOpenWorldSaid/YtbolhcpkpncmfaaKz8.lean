/-
  What some of the program's functions compute: their models, and that the functions compute these; no condition.
-/
import Derived.Test.YtbolhcpkpncmfaaTyz
import Derived.Test.YtbolhcpkpncmfaaTbz
import Derived.Test.YtbolhcpkpncmfaaKz7
set_option linter.all false
namespace Go.Proofs.Ytbolhcpkpncmfaa
open Go Go.Ab
set_option maxRecDepth 100000
set_option maxHeartbeats 4000000
noncomputable def laws_toTreeWordS_m (a0 : (List TreeWord)) : Option ((List TreeWord)) :=
 gd ((0 : Int) ≤ ((a0.length : Nat) : Int) ∧ ((a0.length : Nat) : Int) ≤ ((a0.length : Nat) : Int) ∧ ((a0.length : Nat) : Int) * 40 ≤ 140737488355328 ∧ ((a0.length : Nat) : Int) ≤ 140737488355328) <|
 bd (lp (σ := List TreeWord × Int) (β := (Nat × (List TreeWord))) (fun s1 =>
(if (decide (s1.2 < ((a0.length : Nat) : Int))) = true then
 gd ((0 : Int) ≤ s1.2 ∧ s1.2 < ((a0.length : Nat) : Int)) <|
 bd (laws_toTreeWord_m ({ (a0.getD s1.2.toNat default) with Vector := ((a0.getD s1.2.toNat default).Vector) })) fun x6 =>
 gd ((0 : Int) ≤ s1.2 ∧ s1.2 < ((s1.1.length : Nat) : Int)) <|
 some (.inl (s1.1.set s1.2.toNat x6, IntKind.i64.wrap (s1.2 + 1)))
else
 some (.inr (s1.1.length, s1.1)))) ((List.replicate (((a0.length : Nat) : Int) : Int).toNat (default : TreeWord)), 0)) fun x4 =>
 some x4.2

theorem laws_toTreeWordS_c {a0 : (List TreeWord)} {r : (List TreeWord)} (h : laws_toTreeWordS_m a0 = some r) : PureC Try.prog 58 [.d (slD TreeWord.enc a0)] (.osl 5001 0 r.length) [⟨5001, 78, 5, r.length, rows TreeWord.enc r⟩] := by
  refine pureC_m tOk (fn := Try.f58) (c := codeOf Try.f58) rfl rfl (by kernel_rfl) rfl rfl (by simp [atomD]) (by simp) (ids_of rfl) ?_
  unfold laws_toTreeWordS_m at h
  conv => whnf
  obtain ⟨g9, h⟩ := gd_some h
  refine And.intro g9 ?_
  clear g9
  refine ⟨(List.replicate (((a0.length : Nat) : Int) : Int).toNat (default : TreeWord)).length, rows TreeWord.enc (List.replicate (((a0.length : Nat) : Int) : Int).toNat (default : TreeWord)), by simp, make_rows rfl, ?_⟩
  conv => whnf
  refine seq_in tOk ?_
  conv => whnf
  obtain ⟨x4, hx4, h⟩ := bd_some h
  refine loop_m tOk hx4 (fun s1 => ⟨0, 23, [(0, .d (slD TreeWord.enc a0)), (3, .osl 7 0 s1.1.length), (4, .d (.int .i64 s1.2))], [], [(7, .arr 78 5 s1.1.length (rows TreeWord.enc s1.1))], []⟩) ?_ ?_
  · refine le_mk ?_ ?_ ?_ <;> (repeat' first | ((conv => whnf); first | exact trivial | refine And.intro ?_ ?_ | exact BLe.refl _ | exact VLe.refl _) | exact trivial | exact rfl | refine And.intro ?_ ?_ | exact BLe.refl _ | exact VLe.refl _ | exact VLe.any _ | exact VLe.nil_osl rfl | exact VLe.nil_sl rfl | exact VLe.built rfl rfl | (refine VLe.osl rfl ?_; (first | rfl | (simp; done) | assumption | (simp [dsub_eq] <;> omega) | omega)) | exact VLe.rows (by first | rfl | (simp; done) | assumption | (simp [dsub_eq] <;> omega) | omega) (fun _ _ => rfl) | exact VLe.rows (by simp [dsub_eq] <;> omega) rows_take | exact VLe.rows (by simp [dsub_eq] <;> omega) rows_dt | exact VLe.rows (by simp [dsub_eq] <;> omega) rows_vt | exact VLe.rows (by simp) (fun i _ => by simp [viewRow_eq, Nat.add_comm]) | refine VLe.aggL ?_ | (refine BLe.rows rfl ?_ fun _ _ => rfl; (first | rfl | (simp; done) | assumption | (simp [dsub_eq] <;> omega) | omega)) | (refine BLe.rows rfl rfl ?_; first | exact rows_take) | refine BLe.box ?_)
  · clear hx4
    intro s1 y2 g3 hy2
    conv => whnf
    refine seq_in tOk ?_
    conv => whnf
    refine And.intro (fun e => ?_) (fun e => ?_)
    · replace g3 := ite_t g3 e; clear e
      conv => whnf
      refine seq_in tOk ?_
      conv => whnf
      obtain ⟨g5, g3⟩ := gd_some g3
      refine And.intro g5 ?_
      clear g5
      conv => whnf
      obtain ⟨x6, hx6, g3⟩ := bd_some g3
      refine callC 0 (laws_toTreeWord_c hx6) (by kernel_rfl) (by kernel_rfl) ?_
      clear hx6
      conv => whnf
      obtain ⟨g7, g3⟩ := gd_some g3
      refine And.intro g7 ?_
      clear g7
      conv => whnf
      refine ⟨rows TreeWord.enc (s1.1.set s1.2.toNat x6), store_rows' ((by first | rfl | (simp; done) | assumption | (simp [dsub_eq] <;> omega) | omega)) rfl, ?_⟩
      conv => whnf
      obtain rfl := Option.some.inj g3
      refine ⟨_, rfl, le_mk ?_ ?_ ?_⟩ <;> (repeat' first | ((conv => whnf); first | exact trivial | refine And.intro ?_ ?_ | exact BLe.refl _ | exact VLe.refl _) | exact trivial | exact rfl | refine And.intro ?_ ?_ | exact BLe.refl _ | exact VLe.refl _ | exact VLe.any _ | exact VLe.nil_osl rfl | exact VLe.nil_sl rfl | exact VLe.built rfl rfl | (refine VLe.osl rfl ?_; (first | rfl | (simp; done) | assumption | (simp [dsub_eq] <;> omega) | omega)) | exact VLe.rows (by first | rfl | (simp; done) | assumption | (simp [dsub_eq] <;> omega) | omega) (fun _ _ => rfl) | exact VLe.rows (by simp [dsub_eq] <;> omega) rows_take | exact VLe.rows (by simp [dsub_eq] <;> omega) rows_dt | exact VLe.rows (by simp [dsub_eq] <;> omega) rows_vt | exact VLe.rows (by simp) (fun i _ => by simp [viewRow_eq, Nat.add_comm]) | refine VLe.aggL ?_ | (refine BLe.rows rfl ?_ fun _ _ => rfl; (first | rfl | (simp; done) | assumption | (simp [dsub_eq] <;> omega) | omega)) | (refine BLe.rows rfl rfl ?_; first | exact rows_take) | refine BLe.box ?_)
    · replace g3 := ite_f g3 e; clear e
      conv => whnf
      obtain rfl := Option.some.inj g3
      obtain rfl := hy2 _ rfl
      obtain rfl := Option.some.inj h
      refine ⟨⟨0, 23, [(2, .osl 5001 0 (s1.1.length, s1.1).2.length)], [], [(5001, .arr 78 5 (s1.1.length, s1.1).2.length (rows TreeWord.enc (s1.1.length, s1.1).2))], []⟩, ?_, And.intro rfl ?_⟩
      · refine LE.trans (S' := ⟨0, 23, [(2, .osl 7 0 (s1.1.length, s1.1).1)], [], [(7, .arr 78 5 (s1.1.length, s1.1).1 (rows TreeWord.enc (s1.1.length, s1.1).2))], []⟩) (le_mk ?_ ?_ ?_) (LE.trans (S' := ⟨0, 23, [(2, .osl 5001 0 (s1.1.length, s1.1).1)], [], [(5001, .arr 78 5 (s1.1.length, s1.1).1 (rows TreeWord.enc (s1.1.length, s1.1).2))], []⟩) (le_swaps [(7, 5001)] rfl) (le_mk ?_ ?_ ?_)) <;> (repeat' first | ((conv => whnf); first | exact trivial | refine And.intro ?_ ?_ | exact BLe.refl _ | exact VLe.refl _) | exact trivial | exact rfl | refine And.intro ?_ ?_ | exact BLe.refl _ | exact VLe.refl _ | exact VLe.any _ | exact VLe.nil_osl rfl | exact VLe.nil_sl rfl | exact VLe.built rfl rfl | (refine VLe.osl rfl ?_; (first | rfl | (simp; done) | assumption | (simp [dsub_eq] <;> omega) | omega)) | exact VLe.rows (by first | rfl | (simp; done) | assumption | (simp [dsub_eq] <;> omega) | omega) (fun _ _ => rfl) | exact VLe.rows (by simp [dsub_eq] <;> omega) rows_take | exact VLe.rows (by simp [dsub_eq] <;> omega) rows_dt | exact VLe.rows (by simp [dsub_eq] <;> omega) rows_vt | exact VLe.rows (by simp) (fun i _ => by simp [viewRow_eq, Nat.add_comm]) | refine VLe.aggL ?_ | (refine BLe.rows rfl ?_ fun _ _ => rfl; (first | rfl | (simp; done) | assumption | (simp [dsub_eq] <;> omega) | omega)) | (refine BLe.rows rfl rfl ?_; first | exact rows_take) | refine BLe.box ?_)
      · exact And.intro (And.intro rfl (And.intro rfl (fun _ _ => rfl))) (trivial)

noncomputable def laws_toTreeWorld_m (a0 : TreeWorld) : Option (TreeWorld) :=
 bd (laws_toTreeBridgeS_m a0.Bridges) fun x1 =>
 bd (laws_toTreeLinkS_m a0.Links) fun x2 =>
 bd (laws_toIntS_m a0.Down) fun x3 =>
 bd (laws_toTreeSlotS_m a0.AtA) fun x4 =>
 bd (laws_toTreeSlotS_m a0.AtB) fun x5 =>
 bd (laws_toTreeWordS_m a0.Radio) fun x6 =>
 some (⟨x1, x2, x3, x4, x5, x6⟩ : TreeWorld)

theorem laws_toTreeWorld_c {a0 : TreeWorld} {r : TreeWorld} (h : laws_toTreeWorld_m a0 = some r) : PureC Try.prog 17 [.agg [.d (slD TreeBridge.enc a0.Bridges), .d (slD TreeLink.enc a0.Links), .d (slD encInt a0.Down), .d (slD TreeSlot.enc a0.AtA), .d (slD TreeSlot.enc a0.AtB), .d (slD TreeWord.enc a0.Radio)]] (.agg [.osl 5001 0 r.Bridges.length, .osl 5002 0 r.Links.length, .osl 5003 0 r.Down.length, .osl 5004 0 r.AtA.length, .osl 5005 0 r.AtB.length, .osl 5006 0 r.Radio.length]) [⟨5001, 74, 6, r.Bridges.length, rows TreeBridge.enc r.Bridges⟩, ⟨5002, 70, 3, r.Links.length, rows TreeLink.enc r.Links⟩, ⟨5003, 3, 1, r.Down.length, rows encInt r.Down⟩, ⟨5004, 112, 4, r.AtA.length, rows TreeSlot.enc r.AtA⟩, ⟨5005, 112, 4, r.AtB.length, rows TreeSlot.enc r.AtB⟩, ⟨5006, 78, 5, r.Radio.length, rows TreeWord.enc r.Radio⟩] := by
  refine pureC_m tOk (fn := Try.f17) (c := codeOf Try.f17) rfl rfl (by kernel_rfl) rfl rfl (by simp [atomD]) (by simp) (ids_of rfl) ?_
  unfold laws_toTreeWorld_m at h
  conv => whnf
  obtain ⟨x1, hx1, h⟩ := bd_some h
  refine callC 1000 (laws_toTreeBridgeS_c hx1) (by kernel_rfl) (by kernel_rfl) ?_
  clear hx1
  conv => whnf
  obtain ⟨x2, hx2, h⟩ := bd_some h
  refine callC 2000 (laws_toTreeLinkS_c hx2) (by kernel_rfl) (by kernel_rfl) ?_
  clear hx2
  conv => whnf
  obtain ⟨x3, hx3, h⟩ := bd_some h
  refine callC 3000 (laws_toIntS_c hx3) (by kernel_rfl) (by kernel_rfl) ?_
  clear hx3
  conv => whnf
  obtain ⟨x4, hx4, h⟩ := bd_some h
  refine callC 4000 (laws_toTreeSlotS_c hx4) (by kernel_rfl) (by kernel_rfl) ?_
  clear hx4
  conv => whnf
  obtain ⟨x5, hx5, h⟩ := bd_some h
  refine callC 5000 (laws_toTreeSlotS_c hx5) (by kernel_rfl) (by kernel_rfl) ?_
  clear hx5
  conv => whnf
  obtain ⟨x6, hx6, h⟩ := bd_some h
  refine callC 6000 (laws_toTreeWordS_c hx6) (by kernel_rfl) (by kernel_rfl) ?_
  clear hx6
  conv => whnf
  obtain rfl := Option.some.inj h
  refine ⟨⟨0, 29, [(2, .ref 2 0 0)], [], [(5006, .arr 78 5 x6.length (rows TreeWord.enc x6)), (5005, .arr 112 4 x5.length (rows TreeSlot.enc x5)), (5004, .arr 112 4 x4.length (rows TreeSlot.enc x4)), (5003, .arr 3 1 x3.length (rows encInt x3)), (5002, .arr 70 3 x2.length (rows TreeLink.enc x2)), (5001, .arr 74 6 x1.length (rows TreeBridge.enc x1)), (2, .box 31 [.osl 5001 0 x1.length, .osl 5002 0 x2.length, .osl 5003 0 x3.length, .osl 5004 0 x4.length, .osl 5005 0 x5.length, .osl 5006 0 x6.length])], []⟩, ?_, And.intro rfl ?_⟩
  · refine LE.trans (S' := ⟨0, 29, [(2, .ref 2 0 0)], [], [(11001, .arr 78 5 x6.length (rows TreeWord.enc x6)), (10001, .arr 112 4 x5.length (rows TreeSlot.enc x5)), (9001, .arr 112 4 x4.length (rows TreeSlot.enc x4)), (8001, .arr 3 1 x3.length (rows encInt x3)), (7001, .arr 70 3 x2.length (rows TreeLink.enc x2)), (6001, .arr 74 6 x1.length (rows TreeBridge.enc x1)), (2, .box 31 [.osl 6001 0 x1.length, .osl 7001 0 x2.length, .osl 8001 0 x3.length, .osl 9001 0 x4.length, .osl 10001 0 x5.length, .osl 11001 0 x6.length])], []⟩) (le_mk ?_ ?_ ?_) (le_swaps [(6001, 5001), (7001, 5002), (8001, 5003), (9001, 5004), (10001, 5005), (11001, 5006)] rfl) <;> (repeat' first | ((conv => whnf); first | exact trivial | refine And.intro ?_ ?_ | exact BLe.refl _ | exact VLe.refl _) | exact trivial | exact rfl | refine And.intro ?_ ?_ | exact BLe.refl _ | exact VLe.refl _ | exact VLe.any _ | exact VLe.nil_osl rfl | exact VLe.nil_sl rfl | exact VLe.built rfl rfl | (refine VLe.osl rfl ?_; (first | rfl | (simp; done) | assumption | (simp [dsub_eq] <;> omega) | omega)) | exact VLe.rows (by first | rfl | (simp; done) | assumption | (simp [dsub_eq] <;> omega) | omega) (fun _ _ => rfl) | exact VLe.rows (by simp [dsub_eq] <;> omega) rows_take | exact VLe.rows (by simp [dsub_eq] <;> omega) rows_dt | exact VLe.rows (by simp [dsub_eq] <;> omega) rows_vt | exact VLe.rows (by simp) (fun i _ => by simp [viewRow_eq, Nat.add_comm]) | refine VLe.aggL ?_ | (refine BLe.rows rfl ?_ fun _ _ => rfl; (first | rfl | (simp; done) | assumption | (simp [dsub_eq] <;> omega) | omega)) | (refine BLe.rows rfl rfl ?_; first | exact rows_take) | refine BLe.box ?_)
  · exact And.intro (And.intro rfl (And.intro rfl (fun _ _ => rfl))) (And.intro (And.intro rfl (And.intro rfl (fun _ _ => rfl))) (And.intro (And.intro rfl (And.intro rfl (fun _ _ => rfl))) (And.intro (And.intro rfl (And.intro rfl (fun _ _ => rfl))) (And.intro (And.intro rfl (And.intro rfl (fun _ _ => rfl))) (And.intro (And.intro rfl (And.intro rfl (fun _ _ => rfl))) (trivial))))))

noncomputable def spec_l82At_m (a0 : TreeWorld) (a1 : Int) (a2 : Int) : Option (TreeVector × Int) :=
 gd ((0 : Int) ≤ a2 ∧ a2 < ((a0.Links.length : Nat) : Int)) <|
(if (a1 == ((a0.Links.getD a2.toNat default).A)) = true then
 gd ((0 : Int) ≤ a2 ∧ a2 < ((a0.AtA.length : Nat) : Int)) <|
 some (((a0.AtA.getD a2.toNat default).Vector), (a0.Links.getD a2.toNat default).B)
else
(if (a1 == ((a0.Links.getD a2.toNat default).B)) = true then
 gd ((0 : Int) ≤ a2 ∧ a2 < ((a0.AtB.length : Nat) : Int)) <|
 some (((a0.AtB.getD a2.toNat default).Vector), (a0.Links.getD a2.toNat default).A)
else
 some ((⟨0, 0, 0⟩ : TreeVector), -1)))

theorem spec_l82At_c {a0 : TreeWorld} {a1 : Int} {a2 : Int} {r : TreeVector × Int} (h : spec_l82At_m a0 a1 a2 = some r) : PureC Try.prog 105 [.agg [.d (slD TreeBridge.enc a0.Bridges), .d (slD TreeLink.enc a0.Links), .d (slD encInt a0.Down), .d (slD TreeSlot.enc a0.AtA), .d (slD TreeSlot.enc a0.AtB), .d (slD TreeWord.enc a0.Radio)], .d (.int .i64 a1), .d (.int .i64 a2)] (.tup [.agg [.d (.int .i64 r.1.Root), .d (.int .i64 r.1.Cost), .d (.int .i64 r.1.Age)], .d (.int .i64 r.2)]) [] := by
  refine pureC_m tOk (fn := Try.f105) (c := codeOf Try.f105) rfl rfl (by kernel_rfl) rfl rfl (by simp) (by simp) (ids_of rfl) ?_
  unfold spec_l82At_m at h
  conv => whnf
  obtain ⟨g1, h⟩ := gd_some h
  refine And.intro g1 ?_
  clear g1
  conv => whnf
  refine seq_in tOk ?_
  conv => whnf
  refine And.intro (fun e => ?_) (fun e => ?_)
  · replace h := ite_t h e; clear e
    conv => whnf
    obtain ⟨g2, h⟩ := gd_some h
    refine draw_ek tOk (by kernel_rfl) (fun j => match j with | 8 => some (.app [(6, .box 49 [.d (.int .i64 0), .d (.int .i64 0), .d (.int .i64 0)])] (.any) [(6, .box 49 [.d (.int .i64 (((a0.AtA.getD a2.toNat default).Vector).Root)), .d (.int .i64 (((a0.AtA.getD a2.toNat default).Vector).Cost)), .d (.int .i64 (((a0.AtA.getD a2.toNat default).Vector).Age))])]) | _ => none) 10 [] [[], [true], [], [true, true, true], [true, true, true, true], [true, true, true, true, true], [], [false, false, false, false, false, false, true], [true, true, true, true, true, true], [true, true, true, true, true, true, true, true, true]] [] [6] (by decide) (by kernel_rfl) (chain_pure rfl (chain_app rfl rfl (chain_pure rfl (chain_pure rfl (chain_pure rfl (chain_pure rfl (chain_pure rfl (chain_pure rfl (chain_pure rfl (chain_pure rfl (chain_nil))))))))))) (by kernel_rfl) ?_
    conv => whnf
    refine And.intro g2 ?_
    clear g2
    conv => whnf
    refine And.intro (by (conv => whnf); exact ⟨rfl, rfl⟩) ?_
    conv => whnf
    refine And.intro (by kernel_rfl) ?_
    conv => whnf
    obtain rfl := Option.some.inj h
    exact ⟨_, LE.refl _, And.intro rfl trivial⟩
  · replace h := ite_f h e; clear e
    conv => whnf
    refine And.intro (fun e => ?_) (fun e => ?_)
    · replace h := ite_t h e; clear e
      conv => whnf
      obtain ⟨g3, h⟩ := gd_some h
      refine draw_ek tOk (by kernel_rfl) (fun j => match j with | 8 => some (.app [(6, .box 49 [.d (.int .i64 0), .d (.int .i64 0), .d (.int .i64 0)])] (.any) [(6, .box 49 [.d (.int .i64 (((a0.AtB.getD a2.toNat default).Vector).Root)), .d (.int .i64 (((a0.AtB.getD a2.toNat default).Vector).Cost)), .d (.int .i64 (((a0.AtB.getD a2.toNat default).Vector).Age))])]) | _ => none) 10 [] [[], [true], [], [true, true, true], [true, true, true, true], [true, true, true, true, true], [], [false, false, false, false, false, false, true], [true, true, true, true, true, true], [true, true, true, true, true, true, true, true, true]] [] [6] (by decide) (by kernel_rfl) (chain_pure rfl (chain_app rfl rfl (chain_pure rfl (chain_pure rfl (chain_pure rfl (chain_pure rfl (chain_pure rfl (chain_pure rfl (chain_pure rfl (chain_pure rfl (chain_nil))))))))))) (by kernel_rfl) ?_
      conv => whnf
      refine And.intro g3 ?_
      clear g3
      conv => whnf
      refine And.intro (by (conv => whnf); exact ⟨rfl, rfl⟩) ?_
      conv => whnf
      refine And.intro (by kernel_rfl) ?_
      conv => whnf
      obtain rfl := Option.some.inj h
      exact ⟨_, LE.refl _, And.intro rfl trivial⟩
    · replace h := ite_f h e; clear e
      conv => whnf
      obtain rfl := Option.some.inj h
      exact ⟨_, LE.refl _, And.intro rfl trivial⟩

noncomputable def spec_l82Far_m (a0 : TreeVector) (a1 : Int) : Option (TreeVector) :=
(if (((a0.Root == 0) || (a0.Age == 10)) || (decide ((IntKind.i64.wrap (a0.Cost + a1)) > 1000))) = true then
 some (⟨0, 0, 0⟩ : TreeVector)
else
 some (⟨a0.Root, IntKind.i64.wrap (a0.Cost + a1), IntKind.i64.wrap (a0.Age + 1)⟩ : TreeVector))

theorem spec_l82Far_c {a0 : TreeVector} {a1 : Int} {r : TreeVector} (h : spec_l82Far_m a0 a1 = some r) : PureC Try.prog 106 [.agg [.d (.int .i64 a0.Root), .d (.int .i64 a0.Cost), .d (.int .i64 a0.Age)], .d (.int .i64 a1)] (.agg [.d (.int .i64 r.Root), .d (.int .i64 r.Cost), .d (.int .i64 r.Age)]) [] := by
  refine pureC_m tOk (fn := Try.f106) (c := codeOf Try.f106) rfl rfl (by kernel_rfl) rfl rfl (by simp) (by simp) (ids_of rfl) ?_
  unfold spec_l82Far_m at h
  conv => whnf
  refine seq_in tOk ?_
  conv => whnf
  refine And.intro (fun e => ?_) (fun e => ?_)
  · replace h := ite_t h e; clear e
    conv => whnf
    obtain rfl := Option.some.inj h
    exact ⟨_, LE.refl _, And.intro rfl trivial⟩
  · replace h := ite_f h e; clear e
    conv => whnf
    obtain rfl := Option.some.inj h
    exact ⟨_, LE.refl _, And.intro rfl trivial⟩

noncomputable def spec_l82Better_m (a0 : TreeVector) (a1 : Int) (a2 : TreeVector) (a3 : Int) : Option (Bool) :=
(if (a0.Root != a2.Root) = true then
 some (decide (a0.Root < a2.Root))
else
(if (a0.Cost != a2.Cost) = true then
 some (decide (a0.Cost < a2.Cost))
else
 some (decide (a1 < a3))))

theorem spec_l82Better_c {a0 : TreeVector} {a1 : Int} {a2 : TreeVector} {a3 : Int} {r : Bool} (h : spec_l82Better_m a0 a1 a2 a3 = some r) : PureC Try.prog 107 [.agg [.d (.int .i64 a0.Root), .d (.int .i64 a0.Cost), .d (.int .i64 a0.Age)], .d (.int .i64 a1), .agg [.d (.int .i64 a2.Root), .d (.int .i64 a2.Cost), .d (.int .i64 a2.Age)], .d (.int .i64 a3)] (.d (.bool r)) [] := by
  refine pureC_m tOk (fn := Try.f107) (c := codeOf Try.f107) rfl rfl (by kernel_rfl) rfl rfl (by simp) (by simp) (ids_of rfl) ?_
  unfold spec_l82Better_m at h
  conv => whnf
  refine seq_in tOk ?_
  conv => whnf
  refine And.intro (fun e => ?_) (fun e => ?_)
  · replace h := ite_t h e; clear e
    conv => whnf
    obtain rfl := Option.some.inj h
    exact ⟨_, LE.refl _, And.intro rfl trivial⟩
  · replace h := ite_f h e; clear e
    conv => whnf
    refine seq_in tOk ?_
    conv => whnf
    refine And.intro (fun e => ?_) (fun e => ?_)
    · replace h := ite_t h e; clear e
      conv => whnf
      obtain rfl := Option.some.inj h
      exact ⟨_, LE.refl _, And.intro rfl trivial⟩
    · replace h := ite_f h e; clear e
      conv => whnf
      obtain rfl := Option.some.inj h
      exact ⟨_, LE.refl _, And.intro rfl trivial⟩

noncomputable def spec_l82Think_m (a0 : TreeWorld) (a1 : Int) : Option (TreeMind) :=
 gd ((0 : Int) ≤ a1 ∧ a1 < ((a0.Bridges.length : Nat) : Int)) <|
 bd (spec_l82Self_m ((a0.Bridges.getD a1.toNat default).Id)) fun x2 =>
 bd (lp (σ := Int × Int × Int × Int × Int × Int) (β := (Int × Int × Int × Int)) (fun s3 =>
(if (decide (s3.2.2.2.2.2 < ((a0.Links.length : Nat) : Int))) = true then
 bd (spec_l82At_m a0 a1 s3.2.2.2.2.2) fun x7 =>
(if (decide (x7.2 < 0)) = true then
 some (.inl (s3.1, s3.2.1, s3.2.2.1, s3.2.2.2.1, s3.2.2.2.2.1, IntKind.i64.wrap (s3.2.2.2.2.2 + 1)))
else
 gd ((0 : Int) ≤ s3.2.2.2.2.2 ∧ s3.2.2.2.2.2 < ((a0.Links.length : Nat) : Int)) <|
 bd (spec_l82Far_m x7.1 ((a0.Links.getD s3.2.2.2.2.2.toNat default).Cost)) fun x9 =>
 gd ((decide (x9.Root > 0)) = true → ((0 : Int) ≤ x7.2 ∧ x7.2 < ((a0.Bridges.length : Nat) : Int))) <|
 bd (gcall ((decide (x9.Root > 0)) = true) (spec_l82Better_m x9 ((a0.Bridges.getD x7.2.toNat default).Id) (⟨s3.1, s3.2.1, s3.2.2.1⟩ : TreeVector) s3.2.2.2.2.1)) fun x11 =>
(if ((decide (x9.Root > 0)) && x11) = true then
 gd ((0 : Int) ≤ x7.2 ∧ x7.2 < ((a0.Bridges.length : Nat) : Int)) <|
 some (.inl (x9.Root, x9.Cost, x9.Age, s3.2.2.2.2.2, (a0.Bridges.getD x7.2.toNat default).Id, IntKind.i64.wrap (s3.2.2.2.2.2 + 1)))
else
 some (.inl (s3.1, s3.2.1, s3.2.2.1, s3.2.2.2.1, s3.2.2.2.2.1, IntKind.i64.wrap (s3.2.2.2.2.2 + 1)))))
else
 some (.inr (s3.1, s3.2.1, s3.2.2.1, s3.2.2.2.1)))) (x2.Vector.Root, x2.Vector.Cost, x2.Vector.Age, x2.Link, 0, 0)) fun x6 =>
 some (⟨(⟨x6.1, x6.2.1, x6.2.2.1⟩ : TreeVector), x6.2.2.2⟩ : TreeMind)

theorem spec_l82Think_c {a0 : TreeWorld} {a1 : Int} {r : TreeMind} (h : spec_l82Think_m a0 a1 = some r) : PureC Try.prog 70 [.agg [.d (slD TreeBridge.enc a0.Bridges), .d (slD TreeLink.enc a0.Links), .d (slD encInt a0.Down), .d (slD TreeSlot.enc a0.AtA), .d (slD TreeSlot.enc a0.AtB), .d (slD TreeWord.enc a0.Radio)], .d (.int .i64 a1)] (.agg [.d (.int .i64 r.Vector.Root), .d (.int .i64 r.Vector.Cost), .d (.int .i64 r.Vector.Age), .d (.int .i64 r.Link)]) [] := by
  refine pureC_m tOk (fn := Try.f70) (c := codeOf Try.f70) rfl rfl (by kernel_rfl) rfl rfl (by simp) (by simp) (ids_of rfl) ?_
  unfold spec_l82Think_m at h
  conv => whnf
  obtain ⟨g1, h⟩ := gd_some h
  refine And.intro g1 ?_
  clear g1
  conv => whnf
  obtain ⟨x2, hx2, h⟩ := bd_some h
  refine callC 0 (spec_l82Self_c hx2) (by kernel_rfl) (by kernel_rfl) ?_
  clear hx2
  conv => whnf
  refine seq_in tOk ?_
  conv => whnf
  obtain ⟨x6, hx6, h⟩ := bd_some h
  refine loop_m tOk hx6 (fun s3 => ⟨0, 68, [(1, .d (.int .i64 a1)), (2, .ref 2 0 0), (4, .ref 4 0 0), (5, .ref 5 0 0), (6, .d (.int .i64 s3.2.2.2.2.1)), (7, .d (.int .i64 s3.2.2.2.2.2))], [], [(5, .box 51 [.d (.int .i64 s3.1), .d (.int .i64 s3.2.1), .d (.int .i64 s3.2.2.1), .d (.int .i64 s3.2.2.2.1)]), (4, .box 51 [.d (.int .i64 0), .d (.int .i64 0), .d (.int .i64 0), .d (.int .i64 0)]), (2, .box 31 [.d (slD TreeBridge.enc a0.Bridges), .d (slD TreeLink.enc a0.Links), .d (slD encInt a0.Down), .d (slD TreeSlot.enc a0.AtA), .d (slD TreeSlot.enc a0.AtB), .d (slD TreeWord.enc a0.Radio)])], []⟩) ?_ ?_
  · refine le_mk ?_ ?_ ?_ <;> (repeat' first | ((conv => whnf); first | exact trivial | refine And.intro ?_ ?_ | exact BLe.refl _ | exact VLe.refl _) | exact trivial | exact rfl | refine And.intro ?_ ?_ | exact BLe.refl _ | exact VLe.refl _ | exact VLe.any _ | exact VLe.nil_osl rfl | exact VLe.nil_sl rfl | exact VLe.built rfl rfl | (refine VLe.osl rfl ?_; (first | rfl | (simp; done) | assumption | (simp [dsub_eq] <;> omega) | omega)) | exact VLe.rows (by first | rfl | (simp; done) | assumption | (simp [dsub_eq] <;> omega) | omega) (fun _ _ => rfl) | exact VLe.rows (by simp [dsub_eq] <;> omega) rows_take | exact VLe.rows (by simp [dsub_eq] <;> omega) rows_dt | exact VLe.rows (by simp [dsub_eq] <;> omega) rows_vt | exact VLe.rows (by simp) (fun i _ => by simp [viewRow_eq, Nat.add_comm]) | refine VLe.aggL ?_ | (refine BLe.rows rfl ?_ fun _ _ => rfl; (first | rfl | (simp; done) | assumption | (simp [dsub_eq] <;> omega) | omega)) | (refine BLe.rows rfl rfl ?_; first | exact rows_take) | refine BLe.box ?_)
  · clear hx6
    intro s3 y4 g5 hy4
    conv => whnf
    refine seq_in tOk ?_
    conv => whnf
    refine And.intro (fun e => ?_) (fun e => ?_)
    · replace g5 := ite_t g5 e; clear e
      conv => whnf
      refine seq_in tOk ?_
      conv => whnf
      obtain ⟨x7, hx7, g5⟩ := bd_some g5
      refine callC 0 (spec_l82At_c hx7) (by kernel_rfl) (by kernel_rfl) ?_
      clear hx7
      conv => whnf
      refine seq_in tOk ?_
      conv => whnf
      refine And.intro (fun e => ?_) (fun e => ?_)
      · replace g5 := ite_t g5 e; clear e
        conv => whnf
        obtain rfl := Option.some.inj g5
        refine ⟨_, rfl, le_mk ?_ ?_ ?_⟩ <;> (repeat' first | ((conv => whnf); first | exact trivial | refine And.intro ?_ ?_ | exact BLe.refl _ | exact VLe.refl _) | exact trivial | exact rfl | refine And.intro ?_ ?_ | exact BLe.refl _ | exact VLe.refl _ | exact VLe.any _ | exact VLe.nil_osl rfl | exact VLe.nil_sl rfl | exact VLe.built rfl rfl | (refine VLe.osl rfl ?_; (first | rfl | (simp; done) | assumption | (simp [dsub_eq] <;> omega) | omega)) | exact VLe.rows (by first | rfl | (simp; done) | assumption | (simp [dsub_eq] <;> omega) | omega) (fun _ _ => rfl) | exact VLe.rows (by simp [dsub_eq] <;> omega) rows_take | exact VLe.rows (by simp [dsub_eq] <;> omega) rows_dt | exact VLe.rows (by simp [dsub_eq] <;> omega) rows_vt | exact VLe.rows (by simp) (fun i _ => by simp [viewRow_eq, Nat.add_comm]) | refine VLe.aggL ?_ | (refine BLe.rows rfl ?_ fun _ _ => rfl; (first | rfl | (simp; done) | assumption | (simp [dsub_eq] <;> omega) | omega)) | (refine BLe.rows rfl rfl ?_; first | exact rows_take) | refine BLe.box ?_)
      · replace g5 := ite_f g5 e; clear e
        conv => whnf
        obtain ⟨g8, g5⟩ := gd_some g5
        obtain ⟨x9, hx9, g5⟩ := bd_some g5
        refine draw_k tOk (by kernel_rfl) (fun j => match j with | 7 => some (.pure 0 (.agg [.d (.int .i64 x9.Root), .d (.int .i64 x9.Cost), .d (.int .i64 x9.Age)]) []) | _ => none) 9 [] [[], [], [false, true], [], [false, true, true, true], [false, true, true, true, true], [false, true, true, true, true, true], [true, true, true, true, true, true, true], []] [[true, true, true, true, true, true, true, true, true]] (by decide) (by kernel_rfl) (by kernel_rfl) ?_
        conv => whnf
        refine And.intro g8 ?_
        clear g8
        conv => whnf
        refine And.intro (callD_any (spec_l82Far_c hx9) (by kernel_rfl)) ?_
        conv => whnf
        refine And.intro (by kernel_rfl) ?_
        conv => whnf
        obtain ⟨g10, g5⟩ := gd_some g5
        obtain ⟨x11, hx11, g5⟩ := bd_some g5
        refine draw_k tOk (by kernel_rfl) (fun j => match j with | 14 => some (.pure 0 (.d (.bool x11)) []) | _ => none) 16 [] [[], [true], [true, true], [true, true, true], [true, true, true, true], [true, true, true, true], [true, true, true, true, false, true], [true, true, true, true], [true, true, true, true, false, true, true, true], [true, true, true, true, false, true, true, true, true], [true, true, true, true, false, true, true, true, true, true], [true, true, true, true], [true, true, true, true, false, false, false, false, false, false, false, true], [true, true, true, true], [true, true, true, true, true, true, true, true, true, true, true, true, true, true], [true, true, true, true, true, true, true, true, true, true, true, true, true, true, true]] [] (by decide) (by kernel_rfl) (by kernel_rfl) ?_
        conv => whnf
        refine And.intro g10 ?_
        clear g10
        conv => whnf
        refine And.intro (callDG_if rfl rfl rfl rfl (by intro c0; exact spec_l82Better_c (gcall_some hx11 c0))) ?_
        conv => whnf
        refine And.intro (by kernel_rfl) ?_
        conv => whnf
        refine And.intro (fun e => ?_) (fun e => ?_)
        · replace g5 := ite_t g5 e; clear e
          conv => whnf
          obtain ⟨g12, g5⟩ := gd_some g5
          refine And.intro g12 ?_
          clear g12
          conv => whnf
          obtain rfl := Option.some.inj g5
          refine ⟨_, rfl, le_mk ?_ ?_ ?_⟩ <;> (repeat' first | ((conv => whnf); first | exact trivial | refine And.intro ?_ ?_ | exact BLe.refl _ | exact VLe.refl _) | exact trivial | exact rfl | refine And.intro ?_ ?_ | exact BLe.refl _ | exact VLe.refl _ | exact VLe.any _ | exact VLe.nil_osl rfl | exact VLe.nil_sl rfl | exact VLe.built rfl rfl | (refine VLe.osl rfl ?_; (first | rfl | (simp; done) | assumption | (simp [dsub_eq] <;> omega) | omega)) | exact VLe.rows (by first | rfl | (simp; done) | assumption | (simp [dsub_eq] <;> omega) | omega) (fun _ _ => rfl) | exact VLe.rows (by simp [dsub_eq] <;> omega) rows_take | exact VLe.rows (by simp [dsub_eq] <;> omega) rows_dt | exact VLe.rows (by simp [dsub_eq] <;> omega) rows_vt | exact VLe.rows (by simp) (fun i _ => by simp [viewRow_eq, Nat.add_comm]) | refine VLe.aggL ?_ | (refine BLe.rows rfl ?_ fun _ _ => rfl; (first | rfl | (simp; done) | assumption | (simp [dsub_eq] <;> omega) | omega)) | (refine BLe.rows rfl rfl ?_; first | exact rows_take) | refine BLe.box ?_)
        · replace g5 := ite_f g5 e; clear e
          conv => whnf
          obtain rfl := Option.some.inj g5
          refine ⟨_, rfl, le_mk ?_ ?_ ?_⟩ <;> (repeat' first | ((conv => whnf); first | exact trivial | refine And.intro ?_ ?_ | exact BLe.refl _ | exact VLe.refl _) | exact trivial | exact rfl | refine And.intro ?_ ?_ | exact BLe.refl _ | exact VLe.refl _ | exact VLe.any _ | exact VLe.nil_osl rfl | exact VLe.nil_sl rfl | exact VLe.built rfl rfl | (refine VLe.osl rfl ?_; (first | rfl | (simp; done) | assumption | (simp [dsub_eq] <;> omega) | omega)) | exact VLe.rows (by first | rfl | (simp; done) | assumption | (simp [dsub_eq] <;> omega) | omega) (fun _ _ => rfl) | exact VLe.rows (by simp [dsub_eq] <;> omega) rows_take | exact VLe.rows (by simp [dsub_eq] <;> omega) rows_dt | exact VLe.rows (by simp [dsub_eq] <;> omega) rows_vt | exact VLe.rows (by simp) (fun i _ => by simp [viewRow_eq, Nat.add_comm]) | refine VLe.aggL ?_ | (refine BLe.rows rfl ?_ fun _ _ => rfl; (first | rfl | (simp; done) | assumption | (simp [dsub_eq] <;> omega) | omega)) | (refine BLe.rows rfl rfl ?_; first | exact rows_take) | refine BLe.box ?_)
    · replace g5 := ite_f g5 e; clear e
      conv => whnf
      obtain rfl := Option.some.inj g5
      obtain rfl := hy4 _ rfl
      obtain rfl := Option.some.inj h
      exact ⟨_, LE.refl _, And.intro rfl trivial⟩

noncomputable def spec_TreeThink_m (a0 : TreeWorld) (a1 : Int) : Option (TreeMind) :=
 bd (spec_TreeWorldOk_m a0) fun x1 =>
 bd (gcall ((!x1) = false) (spec_l81In_m a1 0 (IntKind.i64.wrap (((a0.Bridges.length : Nat) : Int) - 1)))) fun x2 =>
 gd (((!x1) || (!x2)) = false → ((0 : Int) ≤ a1 ∧ a1 < ((a0.Bridges.length : Nat) : Int))) <|
(if (((!x1) || (!x2)) || (!((a0.Bridges.getD a1.toNat default).Up))) = true then
 some (⟨(⟨0, 0, 0⟩ : TreeVector), 0⟩ : TreeMind)
else
 bd (spec_l82Think_m a0 a1) fun x4 =>
 some x4)

theorem spec_TreeThink_c {a0 : TreeWorld} {a1 : Int} {r : TreeMind} (h : spec_TreeThink_m a0 a1 = some r) : PureC Try.prog 20 [.agg [.d (slD TreeBridge.enc a0.Bridges), .d (slD TreeLink.enc a0.Links), .d (slD encInt a0.Down), .d (slD TreeSlot.enc a0.AtA), .d (slD TreeSlot.enc a0.AtB), .d (slD TreeWord.enc a0.Radio)], .d (.int .i64 a1)] (.agg [.d (.int .i64 r.Vector.Root), .d (.int .i64 r.Vector.Cost), .d (.int .i64 r.Vector.Age), .d (.int .i64 r.Link)]) [] := by
  refine pureC_m tOk (fn := Try.f20) (c := codeOf Try.f20) rfl rfl (by kernel_rfl) rfl rfl (by simp) (by simp) (ids_of rfl) ?_
  unfold spec_TreeThink_m at h
  conv => whnf
  refine seq_in tOk ?_
  conv => whnf
  obtain ⟨x1, hx1, h⟩ := bd_some h
  refine callC 0 (spec_TreeWorldOk_c hx1) (by kernel_rfl) (by kernel_rfl) ?_
  clear hx1
  conv => whnf
  obtain ⟨x2, hx2, h⟩ := bd_some h
  refine callG_m rfl rfl rfl rfl rfl rfl (by intro c0; exact spec_l81In_c (gcall_some hx2 c0)) ?_
  conv => whnf
  obtain ⟨g3, h⟩ := gd_some h
  refine And.intro g3 ?_
  clear g3
  conv => whnf
  refine And.intro (fun e => ?_) (fun e => ?_)
  · replace h := ite_t h e; clear e
    conv => whnf
    obtain rfl := Option.some.inj h
    exact ⟨_, LE.refl _, And.intro rfl trivial⟩
  · replace h := ite_f h e; clear e
    conv => whnf
    obtain ⟨x4, hx4, h⟩ := bd_some h
    refine callC 0 (spec_l82Think_c hx4) (by kernel_rfl) (by kernel_rfl) ?_
    clear hx4
    conv => whnf
    obtain rfl := Option.some.inj h
    exact ⟨_, LE.refl _, And.intro rfl trivial⟩

end Go.Proofs.Ytbolhcpkpncmfaa
