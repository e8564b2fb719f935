/-
  What some of the program's functions compute: their models, and that the functions compute these; no condition.
-/
import Derived.Test.YtbolhcpkpncmfaaTyz
import Derived.Test.YtbolhcpkpncmfaaTbz
import Derived.Test.YtbolhcpkpncmfaaKz3
set_option linter.all false
namespace Go.Proofs.Ytbolhcpkpncmfaa
open Go Go.Ab
set_option maxRecDepth 100000
set_option maxHeartbeats 4000000
noncomputable def laws_markTreeWorld_m (a0 : TreeWorld) (a1 : Int) : Option (Int × TreeWorld) :=
 bd (laws_markTreeBridgeS_m a0.Bridges a1) fun x1 =>
 gd (x1.2.length = a0.Bridges.length) <|
 bd (laws_markTreeLinkS_m a0.Links x1.1) fun x2 =>
 gd (x2.2.length = a0.Links.length) <|
 bd (laws_markIntS_m a0.Down x2.1) fun x3 =>
 gd (x3.2.length = a0.Down.length) <|
 bd (laws_markTreeSlotS_m a0.AtA x3.1) fun x4 =>
 gd (x4.2.length = a0.AtA.length) <|
 bd (laws_markTreeSlotS_m a0.AtB x4.1) fun x5 =>
 gd (x5.2.length = a0.AtB.length) <|
 bd (laws_markTreeWordS_m a0.Radio x5.1) fun x6 =>
 gd (x6.2.length = a0.Radio.length) <|
 some (x6.1, (⟨x1.2, x2.2, x3.2, x4.2, x5.2, x6.2⟩ : TreeWorld))

theorem laws_markTreeWorld_c {a0 : TreeWorld} {a1 : Int} {r : Int × TreeWorld} (h : laws_markTreeWorld_m a0 a1 = some r) : EffC Try.prog 30 [.agg [.osl 9000 0 a0.Bridges.length, .osl 9001 0 a0.Links.length, .osl 9002 0 a0.Down.length, .osl 9003 0 a0.AtA.length, .osl 9004 0 a0.AtB.length, .osl 9005 0 a0.Radio.length], .d (.int .i64 a1)] [(9000, .arr 74 6 a0.Bridges.length (rows TreeBridge.enc a0.Bridges)), (9001, .arr 70 3 a0.Links.length (rows TreeLink.enc a0.Links)), (9002, .arr 3 1 a0.Down.length (rows encInt a0.Down)), (9003, .arr 112 4 a0.AtA.length (rows TreeSlot.enc a0.AtA)), (9004, .arr 112 4 a0.AtB.length (rows TreeSlot.enc a0.AtB)), (9005, .arr 78 5 a0.Radio.length (rows TreeWord.enc a0.Radio))] (.d (.int .i64 r.1)) [(9000, .arr 74 6 a0.Bridges.length (rows TreeBridge.enc r.2.Bridges)), (9001, .arr 70 3 a0.Links.length (rows TreeLink.enc r.2.Links)), (9002, .arr 3 1 a0.Down.length (rows encInt r.2.Down)), (9003, .arr 112 4 a0.AtA.length (rows TreeSlot.enc r.2.AtA)), (9004, .arr 112 4 a0.AtB.length (rows TreeSlot.enc r.2.AtB)), (9005, .arr 78 5 a0.Radio.length (rows TreeWord.enc r.2.Radio))] := by
  refine effC_m tOk (fn := Try.f30) (c := codeOf Try.f30) rfl rfl (by kernel_rfl) rfl rfl rfl rfl ?_
  unfold laws_markTreeWorld_m at h
  conv => whnf
  obtain ⟨x1, hx1, h⟩ := bd_some h
  obtain ⟨g12, h⟩ := gd_some h
  refine callE [(9000, 9000)] 0 (laws_markTreeBridgeS_c hx1) (by (repeat' first | ((conv => whnf); first | exact trivial | refine And.intro ?_ ?_ | exact BLe.refl _ | exact VLe.refl _) | exact trivial | refine And.intro ?_ ?_ | exact VLe.refl _ | exact VLe.any _ | exact VLe.nil_osl rfl | exact VLe.nil_sl rfl | exact VLe.built rfl rfl | (refine VLe.osl rfl ?_; (first | rfl | (simp; done) | assumption | (simp [dsub_eq] <;> omega) | omega)) | exact VLe.rows (by first | rfl | (simp; done) | assumption | (simp [dsub_eq] <;> omega) | omega) (fun _ _ => rfl) | exact VLe.rows (by simp [dsub_eq] <;> omega) rows_take | exact VLe.rows (by simp [dsub_eq] <;> omega) rows_dt | exact VLe.rows (by simp [dsub_eq] <;> omega) rows_vt | exact VLe.rows (by simp) (fun i _ => by simp [viewRow_eq, Nat.add_comm]) | refine VLe.aggL ?_)) (by (repeat' first | ((conv => whnf); first | exact trivial | refine And.intro ?_ ?_ | exact BLe.refl _ | exact VLe.refl _) | exact trivial | exact rfl | refine And.intro ?_ ?_ | exact BLe.refl _ | exact VLe.refl _ | exact VLe.any _ | exact VLe.nil_osl rfl | exact VLe.nil_sl rfl | exact VLe.built rfl rfl | (refine VLe.osl rfl ?_; (first | rfl | (simp; done) | assumption | (simp [dsub_eq] <;> omega) | omega)) | exact VLe.rows (by first | rfl | (simp; done) | assumption | (simp [dsub_eq] <;> omega) | omega) (fun _ _ => rfl) | exact VLe.rows (by simp [dsub_eq] <;> omega) rows_take | exact VLe.rows (by simp [dsub_eq] <;> omega) rows_dt | exact VLe.rows (by simp [dsub_eq] <;> omega) rows_vt | exact VLe.rows (by simp) (fun i _ => by simp [viewRow_eq, Nat.add_comm]) | refine VLe.aggL ?_ | (refine BLe.rows rfl ?_ fun _ _ => rfl; (first | rfl | (simp; done) | assumption | (simp [dsub_eq] <;> omega) | omega)) | refine BLe.box ?_ | (simp; done))) rfl rfl ?_
  conv => whnf
  obtain ⟨x2, hx2, h⟩ := bd_some h
  obtain ⟨g11, h⟩ := gd_some h
  refine callE [(9000, 9001)] 0 (laws_markTreeLinkS_c hx2) (by (repeat' first | ((conv => whnf); first | exact trivial | refine And.intro ?_ ?_ | exact BLe.refl _ | exact VLe.refl _) | exact trivial | refine And.intro ?_ ?_ | exact VLe.refl _ | exact VLe.any _ | exact VLe.nil_osl rfl | exact VLe.nil_sl rfl | exact VLe.built rfl rfl | (refine VLe.osl rfl ?_; (first | rfl | (simp; done) | assumption | (simp [dsub_eq] <;> omega) | omega)) | exact VLe.rows (by first | rfl | (simp; done) | assumption | (simp [dsub_eq] <;> omega) | omega) (fun _ _ => rfl) | exact VLe.rows (by simp [dsub_eq] <;> omega) rows_take | exact VLe.rows (by simp [dsub_eq] <;> omega) rows_dt | exact VLe.rows (by simp [dsub_eq] <;> omega) rows_vt | exact VLe.rows (by simp) (fun i _ => by simp [viewRow_eq, Nat.add_comm]) | refine VLe.aggL ?_)) (by (repeat' first | ((conv => whnf); first | exact trivial | refine And.intro ?_ ?_ | exact BLe.refl _ | exact VLe.refl _) | exact trivial | exact rfl | refine And.intro ?_ ?_ | exact BLe.refl _ | exact VLe.refl _ | exact VLe.any _ | exact VLe.nil_osl rfl | exact VLe.nil_sl rfl | exact VLe.built rfl rfl | (refine VLe.osl rfl ?_; (first | rfl | (simp; done) | assumption | (simp [dsub_eq] <;> omega) | omega)) | exact VLe.rows (by first | rfl | (simp; done) | assumption | (simp [dsub_eq] <;> omega) | omega) (fun _ _ => rfl) | exact VLe.rows (by simp [dsub_eq] <;> omega) rows_take | exact VLe.rows (by simp [dsub_eq] <;> omega) rows_dt | exact VLe.rows (by simp [dsub_eq] <;> omega) rows_vt | exact VLe.rows (by simp) (fun i _ => by simp [viewRow_eq, Nat.add_comm]) | refine VLe.aggL ?_ | (refine BLe.rows rfl ?_ fun _ _ => rfl; (first | rfl | (simp; done) | assumption | (simp [dsub_eq] <;> omega) | omega)) | refine BLe.box ?_ | (simp; done))) rfl rfl ?_
  conv => whnf
  obtain ⟨x3, hx3, h⟩ := bd_some h
  obtain ⟨g10, h⟩ := gd_some h
  refine callE [(9000, 9002)] 0 (laws_markIntS_c hx3) (by (repeat' first | ((conv => whnf); first | exact trivial | refine And.intro ?_ ?_ | exact BLe.refl _ | exact VLe.refl _) | exact trivial | refine And.intro ?_ ?_ | exact VLe.refl _ | exact VLe.any _ | exact VLe.nil_osl rfl | exact VLe.nil_sl rfl | exact VLe.built rfl rfl | (refine VLe.osl rfl ?_; (first | rfl | (simp; done) | assumption | (simp [dsub_eq] <;> omega) | omega)) | exact VLe.rows (by first | rfl | (simp; done) | assumption | (simp [dsub_eq] <;> omega) | omega) (fun _ _ => rfl) | exact VLe.rows (by simp [dsub_eq] <;> omega) rows_take | exact VLe.rows (by simp [dsub_eq] <;> omega) rows_dt | exact VLe.rows (by simp [dsub_eq] <;> omega) rows_vt | exact VLe.rows (by simp) (fun i _ => by simp [viewRow_eq, Nat.add_comm]) | refine VLe.aggL ?_)) (by (repeat' first | ((conv => whnf); first | exact trivial | refine And.intro ?_ ?_ | exact BLe.refl _ | exact VLe.refl _) | exact trivial | exact rfl | refine And.intro ?_ ?_ | exact BLe.refl _ | exact VLe.refl _ | exact VLe.any _ | exact VLe.nil_osl rfl | exact VLe.nil_sl rfl | exact VLe.built rfl rfl | (refine VLe.osl rfl ?_; (first | rfl | (simp; done) | assumption | (simp [dsub_eq] <;> omega) | omega)) | exact VLe.rows (by first | rfl | (simp; done) | assumption | (simp [dsub_eq] <;> omega) | omega) (fun _ _ => rfl) | exact VLe.rows (by simp [dsub_eq] <;> omega) rows_take | exact VLe.rows (by simp [dsub_eq] <;> omega) rows_dt | exact VLe.rows (by simp [dsub_eq] <;> omega) rows_vt | exact VLe.rows (by simp) (fun i _ => by simp [viewRow_eq, Nat.add_comm]) | refine VLe.aggL ?_ | (refine BLe.rows rfl ?_ fun _ _ => rfl; (first | rfl | (simp; done) | assumption | (simp [dsub_eq] <;> omega) | omega)) | refine BLe.box ?_ | (simp; done))) rfl rfl ?_
  conv => whnf
  obtain ⟨x4, hx4, h⟩ := bd_some h
  obtain ⟨g9, h⟩ := gd_some h
  refine callE [(9000, 9003)] 0 (laws_markTreeSlotS_c hx4) (by (repeat' first | ((conv => whnf); first | exact trivial | refine And.intro ?_ ?_ | exact BLe.refl _ | exact VLe.refl _) | exact trivial | refine And.intro ?_ ?_ | exact VLe.refl _ | exact VLe.any _ | exact VLe.nil_osl rfl | exact VLe.nil_sl rfl | exact VLe.built rfl rfl | (refine VLe.osl rfl ?_; (first | rfl | (simp; done) | assumption | (simp [dsub_eq] <;> omega) | omega)) | exact VLe.rows (by first | rfl | (simp; done) | assumption | (simp [dsub_eq] <;> omega) | omega) (fun _ _ => rfl) | exact VLe.rows (by simp [dsub_eq] <;> omega) rows_take | exact VLe.rows (by simp [dsub_eq] <;> omega) rows_dt | exact VLe.rows (by simp [dsub_eq] <;> omega) rows_vt | exact VLe.rows (by simp) (fun i _ => by simp [viewRow_eq, Nat.add_comm]) | refine VLe.aggL ?_)) (by (repeat' first | ((conv => whnf); first | exact trivial | refine And.intro ?_ ?_ | exact BLe.refl _ | exact VLe.refl _) | exact trivial | exact rfl | refine And.intro ?_ ?_ | exact BLe.refl _ | exact VLe.refl _ | exact VLe.any _ | exact VLe.nil_osl rfl | exact VLe.nil_sl rfl | exact VLe.built rfl rfl | (refine VLe.osl rfl ?_; (first | rfl | (simp; done) | assumption | (simp [dsub_eq] <;> omega) | omega)) | exact VLe.rows (by first | rfl | (simp; done) | assumption | (simp [dsub_eq] <;> omega) | omega) (fun _ _ => rfl) | exact VLe.rows (by simp [dsub_eq] <;> omega) rows_take | exact VLe.rows (by simp [dsub_eq] <;> omega) rows_dt | exact VLe.rows (by simp [dsub_eq] <;> omega) rows_vt | exact VLe.rows (by simp) (fun i _ => by simp [viewRow_eq, Nat.add_comm]) | refine VLe.aggL ?_ | (refine BLe.rows rfl ?_ fun _ _ => rfl; (first | rfl | (simp; done) | assumption | (simp [dsub_eq] <;> omega) | omega)) | refine BLe.box ?_ | (simp; done))) rfl rfl ?_
  conv => whnf
  obtain ⟨x5, hx5, h⟩ := bd_some h
  obtain ⟨g8, h⟩ := gd_some h
  refine callE [(9000, 9004)] 0 (laws_markTreeSlotS_c hx5) (by (repeat' first | ((conv => whnf); first | exact trivial | refine And.intro ?_ ?_ | exact BLe.refl _ | exact VLe.refl _) | exact trivial | refine And.intro ?_ ?_ | exact VLe.refl _ | exact VLe.any _ | exact VLe.nil_osl rfl | exact VLe.nil_sl rfl | exact VLe.built rfl rfl | (refine VLe.osl rfl ?_; (first | rfl | (simp; done) | assumption | (simp [dsub_eq] <;> omega) | omega)) | exact VLe.rows (by first | rfl | (simp; done) | assumption | (simp [dsub_eq] <;> omega) | omega) (fun _ _ => rfl) | exact VLe.rows (by simp [dsub_eq] <;> omega) rows_take | exact VLe.rows (by simp [dsub_eq] <;> omega) rows_dt | exact VLe.rows (by simp [dsub_eq] <;> omega) rows_vt | exact VLe.rows (by simp) (fun i _ => by simp [viewRow_eq, Nat.add_comm]) | refine VLe.aggL ?_)) (by (repeat' first | ((conv => whnf); first | exact trivial | refine And.intro ?_ ?_ | exact BLe.refl _ | exact VLe.refl _) | exact trivial | exact rfl | refine And.intro ?_ ?_ | exact BLe.refl _ | exact VLe.refl _ | exact VLe.any _ | exact VLe.nil_osl rfl | exact VLe.nil_sl rfl | exact VLe.built rfl rfl | (refine VLe.osl rfl ?_; (first | rfl | (simp; done) | assumption | (simp [dsub_eq] <;> omega) | omega)) | exact VLe.rows (by first | rfl | (simp; done) | assumption | (simp [dsub_eq] <;> omega) | omega) (fun _ _ => rfl) | exact VLe.rows (by simp [dsub_eq] <;> omega) rows_take | exact VLe.rows (by simp [dsub_eq] <;> omega) rows_dt | exact VLe.rows (by simp [dsub_eq] <;> omega) rows_vt | exact VLe.rows (by simp) (fun i _ => by simp [viewRow_eq, Nat.add_comm]) | refine VLe.aggL ?_ | (refine BLe.rows rfl ?_ fun _ _ => rfl; (first | rfl | (simp; done) | assumption | (simp [dsub_eq] <;> omega) | omega)) | refine BLe.box ?_ | (simp; done))) rfl rfl ?_
  conv => whnf
  obtain ⟨x6, hx6, h⟩ := bd_some h
  obtain ⟨g7, h⟩ := gd_some h
  refine callE [(9000, 9005)] 0 (laws_markTreeWordS_c hx6) (by (repeat' first | ((conv => whnf); first | exact trivial | refine And.intro ?_ ?_ | exact BLe.refl _ | exact VLe.refl _) | exact trivial | refine And.intro ?_ ?_ | exact VLe.refl _ | exact VLe.any _ | exact VLe.nil_osl rfl | exact VLe.nil_sl rfl | exact VLe.built rfl rfl | (refine VLe.osl rfl ?_; (first | rfl | (simp; done) | assumption | (simp [dsub_eq] <;> omega) | omega)) | exact VLe.rows (by first | rfl | (simp; done) | assumption | (simp [dsub_eq] <;> omega) | omega) (fun _ _ => rfl) | exact VLe.rows (by simp [dsub_eq] <;> omega) rows_take | exact VLe.rows (by simp [dsub_eq] <;> omega) rows_dt | exact VLe.rows (by simp [dsub_eq] <;> omega) rows_vt | exact VLe.rows (by simp) (fun i _ => by simp [viewRow_eq, Nat.add_comm]) | refine VLe.aggL ?_)) (by (repeat' first | ((conv => whnf); first | exact trivial | refine And.intro ?_ ?_ | exact BLe.refl _ | exact VLe.refl _) | exact trivial | exact rfl | refine And.intro ?_ ?_ | exact BLe.refl _ | exact VLe.refl _ | exact VLe.any _ | exact VLe.nil_osl rfl | exact VLe.nil_sl rfl | exact VLe.built rfl rfl | (refine VLe.osl rfl ?_; (first | rfl | (simp; done) | assumption | (simp [dsub_eq] <;> omega) | omega)) | exact VLe.rows (by first | rfl | (simp; done) | assumption | (simp [dsub_eq] <;> omega) | omega) (fun _ _ => rfl) | exact VLe.rows (by simp [dsub_eq] <;> omega) rows_take | exact VLe.rows (by simp [dsub_eq] <;> omega) rows_dt | exact VLe.rows (by simp [dsub_eq] <;> omega) rows_vt | exact VLe.rows (by simp) (fun i _ => by simp [viewRow_eq, Nat.add_comm]) | refine VLe.aggL ?_ | (refine BLe.rows rfl ?_ fun _ _ => rfl; (first | rfl | (simp; done) | assumption | (simp [dsub_eq] <;> omega) | omega)) | refine BLe.box ?_ | (simp; done))) rfl rfl ?_
  conv => whnf
  obtain rfl := Option.some.inj h
  refine ⟨⟨0, 30, [(4, .d (.int .i64 x6.1))], [], [(9000, .arr 74 6 a0.Bridges.length (rows TreeBridge.enc x1.2)), (9001, .arr 70 3 a0.Links.length (rows TreeLink.enc x2.2)), (9002, .arr 3 1 a0.Down.length (rows encInt x3.2)), (9003, .arr 112 4 a0.AtA.length (rows TreeSlot.enc x4.2)), (9004, .arr 112 4 a0.AtB.length (rows TreeSlot.enc x5.2)), (9005, .arr 78 5 a0.Radio.length (rows TreeWord.enc x6.2))], [⟨[(0, .osl 9000 0 a0.Bridges.length), (1, .osl 9001 0 a0.Links.length), (2, .osl 9002 0 a0.Down.length), (3, .osl 9003 0 a0.AtA.length), (4, .osl 9004 0 a0.AtB.length), (5, .osl 9005 0 a0.Radio.length)], []⟩]⟩, ?_, And.intro rfl (And.intro ?_ ?_)⟩
  · refine le_mk ?_ ?_ ?_ <;> (repeat' first | ((conv => whnf); first | exact trivial | refine And.intro ?_ ?_ | exact BLe.refl _ | exact VLe.refl _) | exact trivial | exact rfl | refine And.intro ?_ ?_ | exact BLe.refl _ | exact VLe.refl _ | exact VLe.any _ | exact VLe.nil_osl rfl | exact VLe.nil_sl rfl | exact VLe.built rfl rfl | (refine VLe.osl rfl ?_; (first | rfl | (simp; done) | assumption | (simp [dsub_eq] <;> omega) | omega)) | exact VLe.rows (by first | rfl | (simp; done) | assumption | (simp [dsub_eq] <;> omega) | omega) (fun _ _ => rfl) | exact VLe.rows (by simp [dsub_eq] <;> omega) rows_take | exact VLe.rows (by simp [dsub_eq] <;> omega) rows_dt | exact VLe.rows (by simp [dsub_eq] <;> omega) rows_vt | exact VLe.rows (by simp) (fun i _ => by simp [viewRow_eq, Nat.add_comm]) | refine VLe.aggL ?_ | (refine BLe.rows rfl ?_ fun _ _ => rfl; (first | rfl | (simp; done) | assumption | (simp [dsub_eq] <;> omega) | omega)) | (refine BLe.rows rfl rfl ?_; first | exact rows_take) | refine BLe.box ?_)
  · (repeat' first | ((conv => whnf); first | exact trivial | refine And.intro ?_ ?_ | exact BLe.refl _ | exact VLe.refl _) | exact trivial | exact rfl | refine And.intro ?_ ?_ | exact BLe.refl _ | exact VLe.refl _ | exact VLe.any _ | exact VLe.nil_osl rfl | exact VLe.nil_sl rfl | exact VLe.built rfl rfl | (refine VLe.osl rfl ?_; (first | rfl | (simp; done) | assumption | (simp [dsub_eq] <;> omega) | omega)) | exact VLe.rows (by first | rfl | (simp; done) | assumption | (simp [dsub_eq] <;> omega) | omega) (fun _ _ => rfl) | exact VLe.rows (by simp [dsub_eq] <;> omega) rows_take | exact VLe.rows (by simp [dsub_eq] <;> omega) rows_dt | exact VLe.rows (by simp [dsub_eq] <;> omega) rows_vt | exact VLe.rows (by simp) (fun i _ => by simp [viewRow_eq, Nat.add_comm]) | refine VLe.aggL ?_ | (refine BLe.rows rfl ?_ fun _ _ => rfl; (first | rfl | (simp; done) | assumption | (simp [dsub_eq] <;> omega) | omega)) | refine BLe.box ?_ | (simp; done))
  · (repeat' first | ((conv => whnf); first | exact trivial | refine And.intro ?_ ?_ | exact BLe.refl _ | exact VLe.refl _) | exact trivial | exact rfl | refine And.intro ?_ ?_ | exact BLe.refl _ | exact VLe.refl _ | exact VLe.any _ | exact VLe.nil_osl rfl | exact VLe.nil_sl rfl | exact VLe.built rfl rfl | (refine VLe.osl rfl ?_; (first | rfl | (simp; done) | assumption | (simp [dsub_eq] <;> omega) | omega)) | exact VLe.rows (by first | rfl | (simp; done) | assumption | (simp [dsub_eq] <;> omega) | omega) (fun _ _ => rfl) | exact VLe.rows (by simp [dsub_eq] <;> omega) rows_take | exact VLe.rows (by simp [dsub_eq] <;> omega) rows_dt | exact VLe.rows (by simp [dsub_eq] <;> omega) rows_vt | exact VLe.rows (by simp) (fun i _ => by simp [viewRow_eq, Nat.add_comm]) | refine VLe.aggL ?_ | (refine BLe.rows rfl ?_ fun _ _ => rfl; (first | rfl | (simp; done) | assumption | (simp [dsub_eq] <;> omega) | omega)) | refine BLe.box ?_ | (simp; done))

noncomputable def laws_heldIntS_m (a0 : (List Int)) (a1 : Int) : Option (Int) :=
 bd (lp (σ := Int × Int) (β := (Unit ⊕ Int)) (fun s1 =>
(if (decide (s1.2 < ((a0.length : Nat) : Int))) = true then
 gd ((0 : Int) ≤ s1.2 ∧ s1.2 < ((a0.length : Nat) : Int)) <|
(if ((a0.getD s1.2.toNat default) != s1.1) = true then
 some (.inr (.inl ()))
else
 some (.inl (IntKind.i64.wrap (s1.1 + 1), IntKind.i64.wrap (s1.2 + 1))))
else
 some (.inr (.inr s1.1)))) (a1, 0)) fun x4 =>
(match x4 with
| .inl d6 =>
 some (-1)
| .inr d7 =>
 some d7)

theorem laws_heldIntS_c {a0 : (List Int)} {a1 : Int} {r : Int} (h : laws_heldIntS_m a0 a1 = some r) : PureC Try.prog 33 [.d (slD encInt a0), .d (.int .i64 a1)] (.d (.int .i64 r)) [] := by
  refine pureC_m tOk (fn := Try.f33) (c := codeOf Try.f33) rfl rfl (by kernel_rfl) rfl rfl (by simp) (by simp) (ids_of rfl) ?_
  unfold laws_heldIntS_m at h
  conv => whnf
  refine seq_in tOk ?_
  conv => whnf
  obtain ⟨x4, hx4, h⟩ := bd_some h
  refine loop_m tOk hx4 (fun s1 => ⟨0, 21, [(0, .d (slD encInt a0)), (1, .d (.int .i64 s1.1)), (5, .d (.int .i64 s1.2))], [], [], []⟩) ?_ ?_
  · refine le_mk ?_ ?_ ?_ <;> (repeat' first | ((conv => whnf); first | exact trivial | refine And.intro ?_ ?_ | exact BLe.refl _ | exact VLe.refl _) | exact trivial | exact rfl | refine And.intro ?_ ?_ | exact BLe.refl _ | exact VLe.refl _ | exact VLe.any _ | exact VLe.nil_osl rfl | exact VLe.nil_sl rfl | exact VLe.built rfl rfl | (refine VLe.osl rfl ?_; (first | rfl | (simp; done) | assumption | (simp [dsub_eq] <;> omega) | omega)) | exact VLe.rows (by first | rfl | (simp; done) | assumption | (simp [dsub_eq] <;> omega) | omega) (fun _ _ => rfl) | exact VLe.rows (by simp [dsub_eq] <;> omega) rows_take | exact VLe.rows (by simp [dsub_eq] <;> omega) rows_dt | exact VLe.rows (by simp [dsub_eq] <;> omega) rows_vt | exact VLe.rows (by simp) (fun i _ => by simp [viewRow_eq, Nat.add_comm]) | refine VLe.aggL ?_ | (refine BLe.rows rfl ?_ fun _ _ => rfl; (first | rfl | (simp; done) | assumption | (simp [dsub_eq] <;> omega) | omega)) | (refine BLe.rows rfl rfl ?_; first | exact rows_take) | refine BLe.box ?_)
  · clear hx4
    intro s1 y2 g3 hy2
    conv => whnf
    refine seq_in tOk ?_
    conv => whnf
    refine And.intro (fun e => ?_) (fun e => ?_)
    · replace g3 := ite_t g3 e; clear e
      conv => whnf
      refine seq_in tOk ?_
      conv => whnf
      refine seq_in tOk ?_
      conv => whnf
      obtain ⟨g5, g3⟩ := gd_some g3
      refine And.intro g5 ?_
      clear g5
      conv => whnf
      refine And.intro (fun e => ?_) (fun e => ?_)
      · replace g3 := ite_t g3 e; clear e
        conv => whnf
        obtain rfl := Option.some.inj g3
        obtain rfl := hy2 _ rfl
        obtain rfl := Option.some.inj h
        exact ⟨_, LE.refl _, And.intro rfl trivial⟩
      · replace g3 := ite_f g3 e; clear e
        conv => whnf
        obtain rfl := Option.some.inj g3
        refine ⟨_, rfl, le_mk ?_ ?_ ?_⟩ <;> (repeat' first | ((conv => whnf); first | exact trivial | refine And.intro ?_ ?_ | exact BLe.refl _ | exact VLe.refl _) | exact trivial | exact rfl | refine And.intro ?_ ?_ | exact BLe.refl _ | exact VLe.refl _ | exact VLe.any _ | exact VLe.nil_osl rfl | exact VLe.nil_sl rfl | exact VLe.built rfl rfl | (refine VLe.osl rfl ?_; (first | rfl | (simp; done) | assumption | (simp [dsub_eq] <;> omega) | omega)) | exact VLe.rows (by first | rfl | (simp; done) | assumption | (simp [dsub_eq] <;> omega) | omega) (fun _ _ => rfl) | exact VLe.rows (by simp [dsub_eq] <;> omega) rows_take | exact VLe.rows (by simp [dsub_eq] <;> omega) rows_dt | exact VLe.rows (by simp [dsub_eq] <;> omega) rows_vt | exact VLe.rows (by simp) (fun i _ => by simp [viewRow_eq, Nat.add_comm]) | refine VLe.aggL ?_ | (refine BLe.rows rfl ?_ fun _ _ => rfl; (first | rfl | (simp; done) | assumption | (simp [dsub_eq] <;> omega) | omega)) | (refine BLe.rows rfl rfl ?_; first | exact rows_take) | refine BLe.box ?_)
    · replace g3 := ite_f g3 e; clear e
      conv => whnf
      obtain rfl := Option.some.inj g3
      obtain rfl := hy2 _ rfl
      obtain rfl := Option.some.inj h
      exact ⟨_, LE.refl _, And.intro rfl trivial⟩

noncomputable def laws_FnExactTreePasses_m (a0 : TreeWorld) : Option (Bool) :=
 bd (laws_szTreeWorld_m a0 1048576) fun x1 =>
(if (decide (x1 < 0)) = true then
 some true
else
 bd (laws_toTreeWorld_m a0) fun x2 =>
 bd (spec_TreePasses_m x2) fun x3 =>
 bd (laws_toTreeWorld_m a0) fun x4 =>
 bd (impl_TreePasses_m x4) fun x5 =>
 bd (laws_eqIntS_m x5 x3) fun x6 =>
(if (!x6) = true then
 some false
else
 bd (laws_toTreeWorld_m a0) fun x7 =>
 bd (laws_eqTreeWorld_m x4 x7) fun x8 =>
(if (!x8) = true then
 some false
else
 bd (laws_markTreeWorld_m x4 1) fun x9 =>
 gd (x9.2.Bridges.length = x4.Bridges.length) <|
 gd (x9.2.Links.length = x4.Links.length) <|
 gd (x9.2.Down.length = x4.Down.length) <|
 gd (x9.2.AtA.length = x4.AtA.length) <|
 gd (x9.2.AtB.length = x4.AtB.length) <|
 gd (x9.2.Radio.length = x4.Radio.length) <|
 bd (gcall ((decide (x9.1 < 0)) = false) (laws_eqIntS_m x5 x3)) fun x10 =>
(if ((decide (x9.1 < 0)) || (!x10)) = true then
 some false
else
 bd (laws_markIntS_m x5 1) fun x11 =>
 gd (x11.2.length = x5.length) <|
 bd (laws_heldIntS_m x11.2 1) fun x12 =>
(if (decide (x12 < 0)) = true then
 some false
else
(if (x12 != x11.1) = true then
 some false
else
 bd (laws_toTreeWorld_m a0) fun x13 =>
 bd (impl_TreePasses_m x13) fun x14 =>
 bd (laws_eqIntS_m x14 x3) fun x15 =>
(if (!x15) = true then
 some false
else
 bd (laws_heldIntS_m x11.2 1) fun x16 =>
(if (decide (x16 < 0)) = true then
 some false
else
(if (x16 != x11.1) = true then
 some false
else
 some true)))))))))

theorem laws_FnExactTreePasses_c {a0 : TreeWorld} {r : Bool} (h : laws_FnExactTreePasses_m a0 = some r) : PureC Try.prog 7 [.agg [.d (slD TreeBridge.enc a0.Bridges), .d (slD TreeLink.enc a0.Links), .d (slD encInt a0.Down), .d (slD TreeSlot.enc a0.AtA), .d (slD TreeSlot.enc a0.AtB), .d (slD TreeWord.enc a0.Radio)]] (.d (.bool r)) [] := by
  refine pureC_m tOk (fn := Try.f7) (c := codeOf Try.f7) rfl rfl (by kernel_rfl) rfl rfl (by simp) (by simp) (ids_of rfl) ?_
  unfold laws_FnExactTreePasses_m at h
  conv => whnf
  obtain ⟨x1, hx1, h⟩ := bd_some h
  refine callC 0 (laws_szTreeWorld_c hx1) (by kernel_rfl) (by kernel_rfl) ?_
  clear hx1
  conv => whnf
  refine seq_in tOk ?_
  conv => whnf
  refine And.intro (fun e => ?_) (fun e => ?_)
  · replace h := ite_t h e; clear e
    conv => whnf
    obtain rfl := Option.some.inj h
    exact ⟨_, LE.refl _, And.intro rfl trivial⟩
  · replace h := ite_f h e; clear e
    conv => whnf
    obtain ⟨x2, hx2, h⟩ := bd_some h
    refine callC 1000 (laws_toTreeWorld_c hx2) (by kernel_rfl) (by kernel_rfl) ?_
    clear hx2
    conv => whnf
    obtain ⟨x3, hx3, h⟩ := bd_some h
    refine callC 2000 (spec_TreePasses_c hx3) (by kernel_rfl) (by kernel_rfl) ?_
    clear hx3
    conv => whnf
    obtain ⟨x4, hx4, h⟩ := bd_some h
    refine callC 3000 (laws_toTreeWorld_c hx4) (by kernel_rfl) (by kernel_rfl) ?_
    clear hx4
    conv => whnf
    obtain ⟨x5, hx5, h⟩ := bd_some h
    refine callC 4000 (impl_TreePasses_c hx5) (by kernel_rfl) (by kernel_rfl) ?_
    clear hx5
    conv => whnf
    refine seq_in tOk ?_
    conv => whnf
    obtain ⟨x6, hx6, h⟩ := bd_some h
    refine callC 0 (laws_eqIntS_c hx6) (by kernel_rfl) (by kernel_rfl) ?_
    clear hx6
    conv => whnf
    refine And.intro (fun e => ?_) (fun e => ?_)
    · replace h := ite_t h e; clear e
      conv => whnf
      obtain rfl := Option.some.inj h
      exact ⟨_, LE.refl _, And.intro rfl trivial⟩
    · replace h := ite_f h e; clear e
      conv => whnf
      refine seq_in tOk ?_
      conv => whnf
      obtain ⟨x7, hx7, h⟩ := bd_some h
      obtain ⟨x8, hx8, h⟩ := bd_some h
      refine draw_k tOk (by kernel_rfl) (fun j => match j with | 2 => some (.pure 5000 (.agg [.osl 5001 0 x7.Bridges.length, .osl 5002 0 x7.Links.length, .osl 5003 0 x7.Down.length, .osl 5004 0 x7.AtA.length, .osl 5005 0 x7.AtB.length, .osl 5006 0 x7.Radio.length]) [⟨5001, 74, 6, x7.Bridges.length, rows TreeBridge.enc x7.Bridges⟩, ⟨5002, 70, 3, x7.Links.length, rows TreeLink.enc x7.Links⟩, ⟨5003, 3, 1, x7.Down.length, rows encInt x7.Down⟩, ⟨5004, 112, 4, x7.AtA.length, rows TreeSlot.enc x7.AtA⟩, ⟨5005, 112, 4, x7.AtB.length, rows TreeSlot.enc x7.AtB⟩, ⟨5006, 78, 5, x7.Radio.length, rows TreeWord.enc x7.Radio⟩]) | 3 => some (.pure 0 (.d (.bool x8)) []) | _ => none) 5 [] [[], [], [false, true], [true, true, true], [true, true, true, true]] [] (by decide) (by kernel_rfl) (by kernel_rfl) ?_
      conv => whnf
      refine And.intro (callD_any (laws_toTreeWorld_c hx7) (by kernel_rfl)) ?_
      conv => whnf
      refine And.intro (callD_any (laws_eqTreeWorld_c hx8) (by kernel_rfl)) ?_
      conv => whnf
      refine And.intro (by kernel_rfl) ?_
      conv => whnf
      refine And.intro (fun e => ?_) (fun e => ?_)
      · replace h := ite_t h e; clear e
        conv => whnf
        obtain rfl := Option.some.inj h
        exact ⟨_, LE.refl _, And.intro rfl trivial⟩
      · replace h := ite_f h e; clear e
        conv => whnf
        obtain ⟨x9, hx9, h⟩ := bd_some h
        obtain ⟨g18, h⟩ := gd_some h
        obtain ⟨g19, h⟩ := gd_some h
        obtain ⟨g20, h⟩ := gd_some h
        obtain ⟨g21, h⟩ := gd_some h
        obtain ⟨g22, h⟩ := gd_some h
        obtain ⟨g23, h⟩ := gd_some h
        refine callE [(9000, 8001), (9001, 8002), (9002, 8003), (9003, 8004), (9004, 8005), (9005, 8006)] 0 (laws_markTreeWorld_c hx9) (by (repeat' first | ((conv => whnf); first | exact trivial | refine And.intro ?_ ?_ | exact BLe.refl _ | exact VLe.refl _) | exact trivial | refine And.intro ?_ ?_ | exact VLe.refl _ | exact VLe.any _ | exact VLe.nil_osl rfl | exact VLe.nil_sl rfl | exact VLe.built rfl rfl | (refine VLe.osl rfl ?_; (first | rfl | (simp; done) | assumption | (simp [dsub_eq] <;> omega) | omega)) | exact VLe.rows (by first | rfl | (simp; done) | assumption | (simp [dsub_eq] <;> omega) | omega) (fun _ _ => rfl) | exact VLe.rows (by simp [dsub_eq] <;> omega) rows_take | exact VLe.rows (by simp [dsub_eq] <;> omega) rows_dt | exact VLe.rows (by simp [dsub_eq] <;> omega) rows_vt | exact VLe.rows (by simp) (fun i _ => by simp [viewRow_eq, Nat.add_comm]) | refine VLe.aggL ?_)) (by (repeat' first | ((conv => whnf); first | exact trivial | refine And.intro ?_ ?_ | exact BLe.refl _ | exact VLe.refl _) | exact trivial | exact rfl | refine And.intro ?_ ?_ | exact BLe.refl _ | exact VLe.refl _ | exact VLe.any _ | exact VLe.nil_osl rfl | exact VLe.nil_sl rfl | exact VLe.built rfl rfl | (refine VLe.osl rfl ?_; (first | rfl | (simp; done) | assumption | (simp [dsub_eq] <;> omega) | omega)) | exact VLe.rows (by first | rfl | (simp; done) | assumption | (simp [dsub_eq] <;> omega) | omega) (fun _ _ => rfl) | exact VLe.rows (by simp [dsub_eq] <;> omega) rows_take | exact VLe.rows (by simp [dsub_eq] <;> omega) rows_dt | exact VLe.rows (by simp [dsub_eq] <;> omega) rows_vt | exact VLe.rows (by simp) (fun i _ => by simp [viewRow_eq, Nat.add_comm]) | refine VLe.aggL ?_ | (refine BLe.rows rfl ?_ fun _ _ => rfl; (first | rfl | (simp; done) | assumption | (simp [dsub_eq] <;> omega) | omega)) | refine BLe.box ?_ | (simp; done))) rfl rfl ?_
        conv => whnf
        refine seq_in tOk ?_
        conv => whnf
        obtain ⟨x10, hx10, h⟩ := bd_some h
        refine callG_m rfl rfl rfl rfl rfl rfl (by intro c0; exact laws_eqIntS_c (gcall_some hx10 c0)) ?_
        conv => whnf
        refine And.intro (fun e => ?_) (fun e => ?_)
        · replace h := ite_t h e; clear e
          conv => whnf
          obtain rfl := Option.some.inj h
          exact ⟨_, LE.refl _, And.intro rfl trivial⟩
        · replace h := ite_f h e; clear e
          conv => whnf
          obtain ⟨x11, hx11, h⟩ := bd_some h
          obtain ⟨g17, h⟩ := gd_some h
          refine callE [(9000, 9001)] 0 (laws_markIntS_c hx11) (by (repeat' first | ((conv => whnf); first | exact trivial | refine And.intro ?_ ?_ | exact BLe.refl _ | exact VLe.refl _) | exact trivial | refine And.intro ?_ ?_ | exact VLe.refl _ | exact VLe.any _ | exact VLe.nil_osl rfl | exact VLe.nil_sl rfl | exact VLe.built rfl rfl | (refine VLe.osl rfl ?_; (first | rfl | (simp; done) | assumption | (simp [dsub_eq] <;> omega) | omega)) | exact VLe.rows (by first | rfl | (simp; done) | assumption | (simp [dsub_eq] <;> omega) | omega) (fun _ _ => rfl) | exact VLe.rows (by simp [dsub_eq] <;> omega) rows_take | exact VLe.rows (by simp [dsub_eq] <;> omega) rows_dt | exact VLe.rows (by simp [dsub_eq] <;> omega) rows_vt | exact VLe.rows (by simp) (fun i _ => by simp [viewRow_eq, Nat.add_comm]) | refine VLe.aggL ?_)) (by (repeat' first | ((conv => whnf); first | exact trivial | refine And.intro ?_ ?_ | exact BLe.refl _ | exact VLe.refl _) | exact trivial | exact rfl | refine And.intro ?_ ?_ | exact BLe.refl _ | exact VLe.refl _ | exact VLe.any _ | exact VLe.nil_osl rfl | exact VLe.nil_sl rfl | exact VLe.built rfl rfl | (refine VLe.osl rfl ?_; (first | rfl | (simp; done) | assumption | (simp [dsub_eq] <;> omega) | omega)) | exact VLe.rows (by first | rfl | (simp; done) | assumption | (simp [dsub_eq] <;> omega) | omega) (fun _ _ => rfl) | exact VLe.rows (by simp [dsub_eq] <;> omega) rows_take | exact VLe.rows (by simp [dsub_eq] <;> omega) rows_dt | exact VLe.rows (by simp [dsub_eq] <;> omega) rows_vt | exact VLe.rows (by simp) (fun i _ => by simp [viewRow_eq, Nat.add_comm]) | refine VLe.aggL ?_ | (refine BLe.rows rfl ?_ fun _ _ => rfl; (first | rfl | (simp; done) | assumption | (simp [dsub_eq] <;> omega) | omega)) | refine BLe.box ?_ | (simp; done))) rfl rfl ?_
          conv => whnf
          obtain ⟨x12, hx12, h⟩ := bd_some h
          refine callW 0 (laws_heldIntS_c hx12) rfl (by (repeat' first | ((conv => whnf); first | exact trivial | refine And.intro ?_ ?_ | exact BLe.refl _ | exact VLe.refl _) | exact trivial | refine And.intro ?_ ?_ | exact VLe.refl _ | exact VLe.any _ | exact VLe.nil_osl rfl | exact VLe.nil_sl rfl | exact VLe.built rfl rfl | (refine VLe.osl rfl ?_; (first | rfl | (simp; done) | assumption | (simp [dsub_eq] <;> omega) | omega)) | exact VLe.rows (by first | rfl | (simp; done) | assumption | (simp [dsub_eq] <;> omega) | omega) (fun _ _ => rfl) | exact VLe.rows (by simp [dsub_eq] <;> omega) rows_take | exact VLe.rows (by simp [dsub_eq] <;> omega) rows_dt | exact VLe.rows (by simp [dsub_eq] <;> omega) rows_vt | exact VLe.rows (by simp) (fun i _ => by simp [viewRow_eq, Nat.add_comm]) | refine VLe.aggL ?_)) rfl ?_
          conv => whnf
          refine seq_in tOk ?_
          conv => whnf
          refine And.intro (fun e => ?_) (fun e => ?_)
          · replace h := ite_t h e; clear e
            conv => whnf
            obtain rfl := Option.some.inj h
            exact ⟨_, LE.refl _, And.intro rfl trivial⟩
          · replace h := ite_f h e; clear e
            conv => whnf
            refine seq_in tOk ?_
            conv => whnf
            refine And.intro (fun e => ?_) (fun e => ?_)
            · replace h := ite_t h e; clear e
              conv => whnf
              obtain rfl := Option.some.inj h
              exact ⟨_, LE.refl _, And.intro rfl trivial⟩
            · replace h := ite_f h e; clear e
              conv => whnf
              obtain ⟨x13, hx13, h⟩ := bd_some h
              refine callC 6000 (laws_toTreeWorld_c hx13) (by kernel_rfl) (by kernel_rfl) ?_
              clear hx13
              conv => whnf
              obtain ⟨x14, hx14, h⟩ := bd_some h
              refine callC 7000 (impl_TreePasses_c hx14) (by kernel_rfl) (by kernel_rfl) ?_
              clear hx14
              conv => whnf
              refine seq_in tOk ?_
              conv => whnf
              obtain ⟨x15, hx15, h⟩ := bd_some h
              refine callC 0 (laws_eqIntS_c hx15) (by kernel_rfl) (by kernel_rfl) ?_
              clear hx15
              conv => whnf
              refine And.intro (fun e => ?_) (fun e => ?_)
              · replace h := ite_t h e; clear e
                conv => whnf
                obtain rfl := Option.some.inj h
                exact ⟨_, LE.refl _, And.intro rfl trivial⟩
              · replace h := ite_f h e; clear e
                conv => whnf
                obtain ⟨x16, hx16, h⟩ := bd_some h
                refine callW 0 (laws_heldIntS_c hx16) rfl (by (repeat' first | ((conv => whnf); first | exact trivial | refine And.intro ?_ ?_ | exact BLe.refl _ | exact VLe.refl _) | exact trivial | refine And.intro ?_ ?_ | exact VLe.refl _ | exact VLe.any _ | exact VLe.nil_osl rfl | exact VLe.nil_sl rfl | exact VLe.built rfl rfl | (refine VLe.osl rfl ?_; (first | rfl | (simp; done) | assumption | (simp [dsub_eq] <;> omega) | omega)) | exact VLe.rows (by first | rfl | (simp; done) | assumption | (simp [dsub_eq] <;> omega) | omega) (fun _ _ => rfl) | exact VLe.rows (by simp [dsub_eq] <;> omega) rows_take | exact VLe.rows (by simp [dsub_eq] <;> omega) rows_dt | exact VLe.rows (by simp [dsub_eq] <;> omega) rows_vt | exact VLe.rows (by simp) (fun i _ => by simp [viewRow_eq, Nat.add_comm]) | refine VLe.aggL ?_)) rfl ?_
                conv => whnf
                refine seq_in tOk ?_
                conv => whnf
                refine And.intro (fun e => ?_) (fun e => ?_)
                · replace h := ite_t h e; clear e
                  conv => whnf
                  obtain rfl := Option.some.inj h
                  exact ⟨_, LE.refl _, And.intro rfl trivial⟩
                · replace h := ite_f h e; clear e
                  conv => whnf
                  refine seq_in tOk ?_
                  conv => whnf
                  refine And.intro (fun e => ?_) (fun e => ?_)
                  · replace h := ite_t h e; clear e
                    conv => whnf
                    obtain rfl := Option.some.inj h
                    exact ⟨_, LE.refl _, And.intro rfl trivial⟩
                  · replace h := ite_f h e; clear e
                    conv => whnf
                    obtain rfl := Option.some.inj h
                    exact ⟨_, LE.refl _, And.intro rfl trivial⟩

noncomputable def impl_clone_TreeLink_m (a0 : (List TreeLink)) : Option ((List TreeLink)) :=
 gd ((0 : Int) ≤ 0 ∧ 0 ≤ ((a0.length : Nat) : Int) ∧ ((a0.length : Nat) : Int) * 24 ≤ 140737488355328 ∧ ((a0.length : Nat) : Int) ≤ 140737488355328) <|
 gd ((((List.replicate (0 : Int).toNat (default : TreeLink)).length) + (a0.length)) * (24 + 1) ≤ 70368744177664) <|
 some ((List.replicate (0 : Int).toNat (default : TreeLink)) ++ a0)

theorem impl_clone_TreeLink_c {a0 : (List TreeLink)} {r : (List TreeLink)} (h : impl_clone_TreeLink_m a0 = some r) : PureC Try.prog 40 [.d (slD TreeLink.enc a0)] (.osl 5001 0 r.length) [⟨5001, 70, 3, r.length, rows TreeLink.enc r⟩] := by
  refine pureC_m tOk (fn := Try.f40) (c := codeOf Try.f40) rfl rfl (by kernel_rfl) rfl rfl (by simp [atomD]) (by simp) (ids_of rfl) ?_
  unfold impl_clone_TreeLink_m at h
  conv => whnf
  obtain ⟨g2, h⟩ := gd_some h
  refine And.intro g2 ?_
  clear g2
  refine ⟨(List.replicate (0 : Int).toNat (default : TreeLink)).length, rows TreeLink.enc (List.replicate (0 : Int).toNat (default : TreeLink)), by simp, make_rows rfl, ?_⟩
  conv => whnf
  obtain ⟨g1, h⟩ := gd_some h
  refine And.intro g1 ?_
  clear g1
  refine ⟨((List.replicate (0 : Int).toNat (default : TreeLink)) ++ a0).length, rows TreeLink.enc ((List.replicate (0 : Int).toNat (default : TreeLink)) ++ a0), (by first | rfl | (simp; done) | assumption | (simp [dsub_eq] <;> omega) | omega), (by first | exact app_rows (m := a0.length) (by first | rfl | (simp; done) | assumption | (simp [dsub_eq] <;> omega) | omega) (by first | rfl | (simp; done) | assumption | (simp [dsub_eq] <;> omega) | omega) (fun _ _ => rfl) (fun _ _ => rfl) | exact app_rows0 (m := a0.length) (by first | rfl | (simp; done) | assumption | (simp [dsub_eq] <;> omega) | omega) (fun _ _ => rfl) | exact app_rows (m := a0.length) (by first | rfl | (simp; done) | assumption | (simp [dsub_eq] <;> omega) | omega) (by first | rfl | (simp; done) | assumption | (simp [dsub_eq] <;> omega) | omega) (by first | exact fun _ _ => rfl | exact rows_take | (intro i hi; simp only [viewRow_eq, addOff_eq, Int.toNat_zero, Nat.zero_add, Nat.add_zero]; exact rows_take i hi) | exact rows_vt | exact rows_dt | (intro i hi; simp only [viewRow_eq, Nat.zero_add]) | (intro i hi; simp [viewRow_eq])) (by first | exact fun _ _ => rfl | exact rows_take | (intro i hi; simp only [viewRow_eq, addOff_eq, Int.toNat_zero, Nat.zero_add, Nat.add_zero]; exact rows_take i hi) | exact rows_vt | exact rows_dt | (intro i hi; simp only [viewRow_eq, Nat.zero_add]) | (intro i hi; simp [viewRow_eq])) | exact app_rows0 (m := a0.length) (by first | rfl | (simp; done) | assumption | (simp [dsub_eq] <;> omega) | omega) (by first | exact fun _ _ => rfl | exact rows_take | (intro i hi; simp only [viewRow_eq, addOff_eq, Int.toNat_zero, Nat.zero_add, Nat.add_zero]; exact rows_take i hi) | exact rows_vt | exact rows_dt | (intro i hi; simp only [viewRow_eq, Nat.zero_add]) | (intro i hi; simp [viewRow_eq]))), ?_⟩
  conv => whnf
  obtain rfl := Option.some.inj h
  refine ⟨⟨0, 8, [(2, .osl 5001 0 (((List.replicate (0 : Int).toNat (default : TreeLink)) ++ a0).length))], [], [(5001, .arr 70 3 (((List.replicate (0 : Int).toNat (default : TreeLink)) ++ a0).length) (rows TreeLink.enc ((List.replicate (0 : Int).toNat (default : TreeLink)) ++ a0)))], []⟩, ?_, And.intro rfl ?_⟩
  · refine LE.trans (S' := ⟨0, 8, [(2, .osl 5 0 (((List.replicate (0 : Int).toNat (default : TreeLink)) ++ a0).length))], [], [(5, .arr 70 3 (((List.replicate (0 : Int).toNat (default : TreeLink)) ++ a0).length) (rows TreeLink.enc ((List.replicate (0 : Int).toNat (default : TreeLink)) ++ a0)))], []⟩) (le_mk ?_ ?_ ?_) (le_swaps [(5, 5001)] rfl) <;> (repeat' first | ((conv => whnf); first | exact trivial | refine And.intro ?_ ?_ | exact BLe.refl _ | exact VLe.refl _) | exact trivial | exact rfl | refine And.intro ?_ ?_ | exact BLe.refl _ | exact VLe.refl _ | exact VLe.any _ | exact VLe.nil_osl rfl | exact VLe.nil_sl rfl | exact VLe.built rfl rfl | (refine VLe.osl rfl ?_; (first | rfl | (simp; done) | assumption | (simp [dsub_eq] <;> omega) | omega)) | exact VLe.rows (by first | rfl | (simp; done) | assumption | (simp [dsub_eq] <;> omega) | omega) (fun _ _ => rfl) | exact VLe.rows (by simp [dsub_eq] <;> omega) rows_take | exact VLe.rows (by simp [dsub_eq] <;> omega) rows_dt | exact VLe.rows (by simp [dsub_eq] <;> omega) rows_vt | exact VLe.rows (by simp) (fun i _ => by simp [viewRow_eq, Nat.add_comm]) | refine VLe.aggL ?_ | (refine BLe.rows rfl ?_ fun _ _ => rfl; (first | rfl | (simp; done) | assumption | (simp [dsub_eq] <;> omega) | omega)) | (refine BLe.rows rfl rfl ?_; first | exact rows_take) | refine BLe.box ?_)
  · exact And.intro (And.intro rfl (And.intro rfl (fun _ _ => rfl))) (trivial)

noncomputable def impl_selfMind_m (a0 : Int) : Option (TreeMind) :=
 some (⟨(⟨a0, 0, 0⟩ : TreeVector), -1⟩ : TreeMind)

theorem impl_selfMind_c {a0 : Int} {r : TreeMind} (h : impl_selfMind_m a0 = some r) : PureC Try.prog 41 [.d (.int .i64 a0)] (.agg [.d (.int .i64 r.Vector.Root), .d (.int .i64 r.Vector.Cost), .d (.int .i64 r.Vector.Age), .d (.int .i64 r.Link)]) [] := by
  refine pureC_m tOk (fn := Try.f41) (c := codeOf Try.f41) rfl rfl (by kernel_rfl) rfl rfl (by simp) (by simp) (ids_of rfl) ?_
  unfold impl_selfMind_m at h
  conv => whnf
  obtain rfl := Option.some.inj h
  exact ⟨_, LE.refl _, And.intro rfl trivial⟩

noncomputable def impl_TreeOpenWorld_m (a0 : (List Int)) (a1 : (List TreeLink)) : Option (TreeWorld × Bool) :=
 bd (impl_TreeLinksOk_m ((a0.length : Nat) : Int) a1) fun x1 =>
(if (!x1) = true then
 some ((⟨[], [], [], [], [], []⟩ : TreeWorld), false)
else
 bd (impl_clone_TreeLink_m a1) fun x2 =>
 gd ((0 : Int) ≤ ((a1.length : Nat) : Int) ∧ ((a1.length : Nat) : Int) ≤ ((a1.length : Nat) : Int) ∧ ((a1.length : Nat) : Int) * 32 ≤ 140737488355328 ∧ ((a1.length : Nat) : Int) ≤ 140737488355328) <|
 gd ((0 : Int) ≤ ((a1.length : Nat) : Int) ∧ ((a1.length : Nat) : Int) ≤ ((a1.length : Nat) : Int) ∧ ((a1.length : Nat) : Int) * 32 ≤ 140737488355328 ∧ ((a1.length : Nat) : Int) ≤ 140737488355328) <|
 bd (lp (σ := List TreeBridge × Int) (β := ((List TreeBridge) × Nat)) (fun s5 =>
(if (decide (s5.2 < ((a0.length : Nat) : Int))) = true then
 gd ((0 : Int) ≤ s5.2 ∧ s5.2 < ((a0.length : Nat) : Int)) <|
 bd (impl_selfMind_m (a0.getD s5.2.toNat default)) fun x10 =>
 gd (((s5.1.length) + (([(⟨(a0.getD s5.2.toNat default), true, x10⟩ : TreeBridge)] : List TreeBridge).length)) * (48 + 1) ≤ 70368744177664) <|
 some (.inl ((s5.1 ++ ([(⟨(a0.getD s5.2.toNat default), true, x10⟩ : TreeBridge)] : List TreeBridge)), IntKind.i64.wrap (s5.2 + 1)))
else
 some (.inr (s5.1, s5.1.length)))) (([] : List TreeBridge), 0)) fun x8 =>
 bd (impl_TreeWorldOk_m (⟨x8.1, x2, [], (List.replicate (((a1.length : Nat) : Int) : Int).toNat (default : TreeSlot)), (List.replicate (((a1.length : Nat) : Int) : Int).toNat (default : TreeSlot)), []⟩ : TreeWorld)) fun x13 =>
(if (!x13) = true then
 some ((⟨[], [], [], [], [], []⟩ : TreeWorld), false)
else
 some ((⟨x8.1, x2, [], (List.replicate (((a1.length : Nat) : Int) : Int).toNat (default : TreeSlot)), (List.replicate (((a1.length : Nat) : Int) : Int).toNat (default : TreeSlot)), []⟩ : TreeWorld), true)))

theorem impl_TreeOpenWorld_c {a0 : (List Int)} {a1 : (List TreeLink)} {r : TreeWorld × Bool} (h : impl_TreeOpenWorld_m a0 a1 = some r) : PureC Try.prog 10 [.d (slD encInt a0), .d (slD TreeLink.enc a1)] (.tup [.agg [.osl 5001 0 r.1.Bridges.length, .osl 5002 0 r.1.Links.length, .osl 5003 0 r.1.Down.length, .osl 5004 0 r.1.AtA.length, .osl 5005 0 r.1.AtB.length, .osl 5006 0 r.1.Radio.length], .d (.bool r.2)]) [⟨5001, 74, 6, r.1.Bridges.length, rows TreeBridge.enc r.1.Bridges⟩, ⟨5002, 70, 3, r.1.Links.length, rows TreeLink.enc r.1.Links⟩, ⟨5003, 3, 1, r.1.Down.length, rows encInt r.1.Down⟩, ⟨5004, 112, 4, r.1.AtA.length, rows TreeSlot.enc r.1.AtA⟩, ⟨5005, 112, 4, r.1.AtB.length, rows TreeSlot.enc r.1.AtB⟩, ⟨5006, 78, 5, r.1.Radio.length, rows TreeWord.enc r.1.Radio⟩] := by
  refine pureC_m tOk (fn := Try.f10) (c := codeOf Try.f10) rfl rfl (by kernel_rfl) rfl rfl (by simp [atomD]) (by simp) (ids_of rfl) ?_
  unfold impl_TreeOpenWorld_m at h
  conv => whnf
  refine seq_in tOk ?_
  conv => whnf
  obtain ⟨x1, hx1, h⟩ := bd_some h
  refine callC 0 (impl_TreeLinksOk_c hx1) (by kernel_rfl) (by kernel_rfl) ?_
  clear hx1
  conv => whnf
  refine And.intro (fun e => ?_) (fun e => ?_)
  · replace h := ite_t h e; clear e
    conv => whnf
    obtain rfl := Option.some.inj h
    refine ⟨⟨0, 45, [(4, .ref 4 0 0), (5, .d (.bool false))], [], [(5006, .arr 78 5 (([] : List TreeWord).length) (rows TreeWord.enc ([] : List TreeWord))), (5005, .arr 112 4 (([] : List TreeSlot).length) (rows TreeSlot.enc ([] : List TreeSlot))), (5004, .arr 112 4 (([] : List TreeSlot).length) (rows TreeSlot.enc ([] : List TreeSlot))), (5003, .arr 3 1 (([] : List Int).length) (rows encInt ([] : List Int))), (5002, .arr 70 3 (([] : List TreeLink).length) (rows TreeLink.enc ([] : List TreeLink))), (5001, .arr 74 6 (([] : List TreeBridge).length) (rows TreeBridge.enc ([] : List TreeBridge))), (4, .box 31 [.osl 5001 0 (([] : List TreeBridge).length), .osl 5002 0 (([] : List TreeLink).length), .osl 5003 0 (([] : List Int).length), .osl 5004 0 (([] : List TreeSlot).length), .osl 5005 0 (([] : List TreeSlot).length), .osl 5006 0 (([] : List TreeWord).length)])], []⟩, ?_, And.intro rfl ?_⟩
    · refine LE.trans (S' := ⟨0, 45, [(4, .ref 4 0 0), (5, .d (.bool false))], [], [(4, .box 31 [.d (.nil), .d (.nil), .d (.nil), .d (.nil), .d (.nil), .d (.nil)])], []⟩) (le_mk ?_ ?_ ?_) (LE.trans (S' := ⟨0, 45, [(4, .ref 4 0 0), (5, .d (.bool false))], [], [(5001, .arr 74 6 (([] : List TreeBridge).length) (rows TreeBridge.enc ([] : List TreeBridge))), (4, .box 31 [.d (.nil), .d (.nil), .d (.nil), .d (.nil), .d (.nil), .d (.nil)])], []⟩) (le_ph 5001 74 6 (rows TreeBridge.enc ([] : List TreeBridge)) rfl rfl) (LE.trans (S' := ⟨0, 45, [(4, .ref 4 0 0), (5, .d (.bool false))], [], [(5001, .arr 74 6 (([] : List TreeBridge).length) (rows TreeBridge.enc ([] : List TreeBridge))), (4, .box 31 [.osl 5001 0 (([] : List TreeBridge).length), .d (.nil), .d (.nil), .d (.nil), .d (.nil), .d (.nil)])], []⟩) (le_mk ?_ ?_ ?_) (LE.trans (S' := ⟨0, 45, [(4, .ref 4 0 0), (5, .d (.bool false))], [], [(5002, .arr 70 3 (([] : List TreeLink).length) (rows TreeLink.enc ([] : List TreeLink))), (5001, .arr 74 6 (([] : List TreeBridge).length) (rows TreeBridge.enc ([] : List TreeBridge))), (4, .box 31 [.osl 5001 0 (([] : List TreeBridge).length), .d (.nil), .d (.nil), .d (.nil), .d (.nil), .d (.nil)])], []⟩) (le_ph 5002 70 3 (rows TreeLink.enc ([] : List TreeLink)) rfl rfl) (LE.trans (S' := ⟨0, 45, [(4, .ref 4 0 0), (5, .d (.bool false))], [], [(5002, .arr 70 3 (([] : List TreeLink).length) (rows TreeLink.enc ([] : List TreeLink))), (5001, .arr 74 6 (([] : List TreeBridge).length) (rows TreeBridge.enc ([] : List TreeBridge))), (4, .box 31 [.osl 5001 0 (([] : List TreeBridge).length), .osl 5002 0 (([] : List TreeLink).length), .d (.nil), .d (.nil), .d (.nil), .d (.nil)])], []⟩) (le_mk ?_ ?_ ?_) (LE.trans (S' := ⟨0, 45, [(4, .ref 4 0 0), (5, .d (.bool false))], [], [(5003, .arr 3 1 (([] : List Int).length) (rows encInt ([] : List Int))), (5002, .arr 70 3 (([] : List TreeLink).length) (rows TreeLink.enc ([] : List TreeLink))), (5001, .arr 74 6 (([] : List TreeBridge).length) (rows TreeBridge.enc ([] : List TreeBridge))), (4, .box 31 [.osl 5001 0 (([] : List TreeBridge).length), .osl 5002 0 (([] : List TreeLink).length), .d (.nil), .d (.nil), .d (.nil), .d (.nil)])], []⟩) (le_ph 5003 3 1 (rows encInt ([] : List Int)) rfl rfl) (LE.trans (S' := ⟨0, 45, [(4, .ref 4 0 0), (5, .d (.bool false))], [], [(5003, .arr 3 1 (([] : List Int).length) (rows encInt ([] : List Int))), (5002, .arr 70 3 (([] : List TreeLink).length) (rows TreeLink.enc ([] : List TreeLink))), (5001, .arr 74 6 (([] : List TreeBridge).length) (rows TreeBridge.enc ([] : List TreeBridge))), (4, .box 31 [.osl 5001 0 (([] : List TreeBridge).length), .osl 5002 0 (([] : List TreeLink).length), .osl 5003 0 (([] : List Int).length), .d (.nil), .d (.nil), .d (.nil)])], []⟩) (le_mk ?_ ?_ ?_) (LE.trans (S' := ⟨0, 45, [(4, .ref 4 0 0), (5, .d (.bool false))], [], [(5004, .arr 112 4 (([] : List TreeSlot).length) (rows TreeSlot.enc ([] : List TreeSlot))), (5003, .arr 3 1 (([] : List Int).length) (rows encInt ([] : List Int))), (5002, .arr 70 3 (([] : List TreeLink).length) (rows TreeLink.enc ([] : List TreeLink))), (5001, .arr 74 6 (([] : List TreeBridge).length) (rows TreeBridge.enc ([] : List TreeBridge))), (4, .box 31 [.osl 5001 0 (([] : List TreeBridge).length), .osl 5002 0 (([] : List TreeLink).length), .osl 5003 0 (([] : List Int).length), .d (.nil), .d (.nil), .d (.nil)])], []⟩) (le_ph 5004 112 4 (rows TreeSlot.enc ([] : List TreeSlot)) rfl rfl) (LE.trans (S' := ⟨0, 45, [(4, .ref 4 0 0), (5, .d (.bool false))], [], [(5004, .arr 112 4 (([] : List TreeSlot).length) (rows TreeSlot.enc ([] : List TreeSlot))), (5003, .arr 3 1 (([] : List Int).length) (rows encInt ([] : List Int))), (5002, .arr 70 3 (([] : List TreeLink).length) (rows TreeLink.enc ([] : List TreeLink))), (5001, .arr 74 6 (([] : List TreeBridge).length) (rows TreeBridge.enc ([] : List TreeBridge))), (4, .box 31 [.osl 5001 0 (([] : List TreeBridge).length), .osl 5002 0 (([] : List TreeLink).length), .osl 5003 0 (([] : List Int).length), .osl 5004 0 (([] : List TreeSlot).length), .d (.nil), .d (.nil)])], []⟩) (le_mk ?_ ?_ ?_) (LE.trans (S' := ⟨0, 45, [(4, .ref 4 0 0), (5, .d (.bool false))], [], [(5005, .arr 112 4 (([] : List TreeSlot).length) (rows TreeSlot.enc ([] : List TreeSlot))), (5004, .arr 112 4 (([] : List TreeSlot).length) (rows TreeSlot.enc ([] : List TreeSlot))), (5003, .arr 3 1 (([] : List Int).length) (rows encInt ([] : List Int))), (5002, .arr 70 3 (([] : List TreeLink).length) (rows TreeLink.enc ([] : List TreeLink))), (5001, .arr 74 6 (([] : List TreeBridge).length) (rows TreeBridge.enc ([] : List TreeBridge))), (4, .box 31 [.osl 5001 0 (([] : List TreeBridge).length), .osl 5002 0 (([] : List TreeLink).length), .osl 5003 0 (([] : List Int).length), .osl 5004 0 (([] : List TreeSlot).length), .d (.nil), .d (.nil)])], []⟩) (le_ph 5005 112 4 (rows TreeSlot.enc ([] : List TreeSlot)) rfl rfl) (LE.trans (S' := ⟨0, 45, [(4, .ref 4 0 0), (5, .d (.bool false))], [], [(5005, .arr 112 4 (([] : List TreeSlot).length) (rows TreeSlot.enc ([] : List TreeSlot))), (5004, .arr 112 4 (([] : List TreeSlot).length) (rows TreeSlot.enc ([] : List TreeSlot))), (5003, .arr 3 1 (([] : List Int).length) (rows encInt ([] : List Int))), (5002, .arr 70 3 (([] : List TreeLink).length) (rows TreeLink.enc ([] : List TreeLink))), (5001, .arr 74 6 (([] : List TreeBridge).length) (rows TreeBridge.enc ([] : List TreeBridge))), (4, .box 31 [.osl 5001 0 (([] : List TreeBridge).length), .osl 5002 0 (([] : List TreeLink).length), .osl 5003 0 (([] : List Int).length), .osl 5004 0 (([] : List TreeSlot).length), .osl 5005 0 (([] : List TreeSlot).length), .d (.nil)])], []⟩) (le_mk ?_ ?_ ?_) (LE.trans (S' := ⟨0, 45, [(4, .ref 4 0 0), (5, .d (.bool false))], [], [(5006, .arr 78 5 (([] : List TreeWord).length) (rows TreeWord.enc ([] : List TreeWord))), (5005, .arr 112 4 (([] : List TreeSlot).length) (rows TreeSlot.enc ([] : List TreeSlot))), (5004, .arr 112 4 (([] : List TreeSlot).length) (rows TreeSlot.enc ([] : List TreeSlot))), (5003, .arr 3 1 (([] : List Int).length) (rows encInt ([] : List Int))), (5002, .arr 70 3 (([] : List TreeLink).length) (rows TreeLink.enc ([] : List TreeLink))), (5001, .arr 74 6 (([] : List TreeBridge).length) (rows TreeBridge.enc ([] : List TreeBridge))), (4, .box 31 [.osl 5001 0 (([] : List TreeBridge).length), .osl 5002 0 (([] : List TreeLink).length), .osl 5003 0 (([] : List Int).length), .osl 5004 0 (([] : List TreeSlot).length), .osl 5005 0 (([] : List TreeSlot).length), .d (.nil)])], []⟩) (le_ph 5006 78 5 (rows TreeWord.enc ([] : List TreeWord)) rfl rfl) (le_mk ?_ ?_ ?_)))))))))))) <;> (repeat' first | ((conv => whnf); first | exact trivial | refine And.intro ?_ ?_ | exact BLe.refl _ | exact VLe.refl _) | exact trivial | exact rfl | refine And.intro ?_ ?_ | exact BLe.refl _ | exact VLe.refl _ | exact VLe.any _ | exact VLe.nil_osl rfl | exact VLe.nil_sl rfl | exact VLe.built rfl rfl | (refine VLe.osl rfl ?_; (first | rfl | (simp; done) | assumption | (simp [dsub_eq] <;> omega) | omega)) | exact VLe.rows (by first | rfl | (simp; done) | assumption | (simp [dsub_eq] <;> omega) | omega) (fun _ _ => rfl) | exact VLe.rows (by simp [dsub_eq] <;> omega) rows_take | exact VLe.rows (by simp [dsub_eq] <;> omega) rows_dt | exact VLe.rows (by simp [dsub_eq] <;> omega) rows_vt | exact VLe.rows (by simp) (fun i _ => by simp [viewRow_eq, Nat.add_comm]) | refine VLe.aggL ?_ | (refine BLe.rows rfl ?_ fun _ _ => rfl; (first | rfl | (simp; done) | assumption | (simp [dsub_eq] <;> omega) | omega)) | (refine BLe.rows rfl rfl ?_; first | exact rows_take) | refine BLe.box ?_)
    · exact And.intro (And.intro rfl (And.intro rfl (fun _ _ => rfl))) (And.intro (And.intro rfl (And.intro rfl (fun _ _ => rfl))) (And.intro (And.intro rfl (And.intro rfl (fun _ _ => rfl))) (And.intro (And.intro rfl (And.intro rfl (fun _ _ => rfl))) (And.intro (And.intro rfl (And.intro rfl (fun _ _ => rfl))) (And.intro (And.intro rfl (And.intro rfl (fun _ _ => rfl))) (trivial))))))
  · replace h := ite_f h e; clear e
    conv => whnf
    obtain ⟨x2, hx2, h⟩ := bd_some h
    obtain ⟨g3, h⟩ := gd_some h
    obtain ⟨g4, h⟩ := gd_some h
    refine draw_k tOk (by kernel_rfl) (fun j => match j with | 1 => some (.pure 1000 (.osl 5001 0 x2.length) [⟨5001, 70, 3, x2.length, rows TreeLink.enc x2⟩]) | _ => none) 10 [] [[], [true], [], [false, false, true], [false, false, true, true], [], [false, false, false, false, false, true], [false, false, false, false, false, true, true], [true, true, true, true, true, true, true, true], []] [[true, true, true, true, true, true, true, true, true, true]] (by decide) (by kernel_rfl) (by kernel_rfl) ?_
    conv => whnf
    refine And.intro (callD_any (impl_clone_TreeLink_c hx2) (by kernel_rfl)) ?_
    conv => whnf
    refine And.intro g3 ?_
    clear g3
    refine ⟨(List.replicate (((a1.length : Nat) : Int) : Int).toNat (default : TreeSlot)).length, rows TreeSlot.enc (List.replicate (((a1.length : Nat) : Int) : Int).toNat (default : TreeSlot)), by simp, make_rows rfl, ?_⟩
    conv => whnf
    refine And.intro g4 ?_
    clear g4
    refine ⟨(List.replicate (((a1.length : Nat) : Int) : Int).toNat (default : TreeSlot)).length, rows TreeSlot.enc (List.replicate (((a1.length : Nat) : Int) : Int).toNat (default : TreeSlot)), by simp, make_rows rfl, ?_⟩
    conv => whnf
    refine And.intro (by kernel_rfl) ?_
    conv => whnf
    refine seq_in tOk ?_
    conv => whnf
    obtain ⟨x8, hx8, h⟩ := bd_some h
    refine loop_m tOk hx8 (fun s5 => ⟨0, 45, [(4, .ref 4 0 0), (6, .ref 6 0 0), (24, .d (slD encInt a0)), (25, .d (.int .i64 ((a0.length : Nat) : Int))), (26, .d (.int .i64 s5.2))], [], [(7001, .arr 74 6 s5.1.length (rows TreeBridge.enc s5.1)), (6, .box 31 [.osl 7001 0 s5.1.length, .osl 6001 0 x2.length, .d (.nil), .osl 19 0 ((List.replicate (((a1.length : Nat) : Int) : Int).toNat (default : TreeSlot)).length), .osl 22 0 ((List.replicate (((a1.length : Nat) : Int) : Int).toNat (default : TreeSlot)).length), .d (.nil)]), (22, .arr 112 4 ((List.replicate (((a1.length : Nat) : Int) : Int).toNat (default : TreeSlot)).length) (rows TreeSlot.enc (List.replicate (((a1.length : Nat) : Int) : Int).toNat (default : TreeSlot)))), (19, .arr 112 4 ((List.replicate (((a1.length : Nat) : Int) : Int).toNat (default : TreeSlot)).length) (rows TreeSlot.enc (List.replicate (((a1.length : Nat) : Int) : Int).toNat (default : TreeSlot)))), (6001, .arr 70 3 x2.length (rows TreeLink.enc x2)), (4, .box 31 [.d (.nil), .d (.nil), .d (.nil), .d (.nil), .d (.nil), .d (.nil)])], []⟩) ?_ ?_
    · refine LE.trans (S' := ⟨0, 45, [(4, .ref 4 0 0), (6, .ref 6 0 0), (24, .d (slD encInt a0)), (25, .d (.int .i64 ((a0.length : Nat) : Int))), (26, .d (.int .i64 0))], [], [(6, .box 31 [.d (.nil), .osl 6001 0 x2.length, .d (.nil), .osl 19 0 ((List.replicate (((a1.length : Nat) : Int) : Int).toNat (default : TreeSlot)).length), .osl 22 0 ((List.replicate (((a1.length : Nat) : Int) : Int).toNat (default : TreeSlot)).length), .d (.nil)]), (22, .arr 112 4 ((List.replicate (((a1.length : Nat) : Int) : Int).toNat (default : TreeSlot)).length) (rows TreeSlot.enc (List.replicate (((a1.length : Nat) : Int) : Int).toNat (default : TreeSlot)))), (19, .arr 112 4 ((List.replicate (((a1.length : Nat) : Int) : Int).toNat (default : TreeSlot)).length) (rows TreeSlot.enc (List.replicate (((a1.length : Nat) : Int) : Int).toNat (default : TreeSlot)))), (6001, .arr 70 3 x2.length (rows TreeLink.enc x2)), (4, .box 31 [.d (.nil), .d (.nil), .d (.nil), .d (.nil), .d (.nil), .d (.nil)])], []⟩) (le_mk ?_ ?_ ?_) (LE.trans (S' := ⟨0, 45, [(4, .ref 4 0 0), (6, .ref 6 0 0), (24, .d (slD encInt a0)), (25, .d (.int .i64 ((a0.length : Nat) : Int))), (26, .d (.int .i64 0))], [], [(7001, .arr 74 6 (([] : List TreeBridge).length) (rows TreeBridge.enc ([] : List TreeBridge))), (6, .box 31 [.d (.nil), .osl 6001 0 x2.length, .d (.nil), .osl 19 0 ((List.replicate (((a1.length : Nat) : Int) : Int).toNat (default : TreeSlot)).length), .osl 22 0 ((List.replicate (((a1.length : Nat) : Int) : Int).toNat (default : TreeSlot)).length), .d (.nil)]), (22, .arr 112 4 ((List.replicate (((a1.length : Nat) : Int) : Int).toNat (default : TreeSlot)).length) (rows TreeSlot.enc (List.replicate (((a1.length : Nat) : Int) : Int).toNat (default : TreeSlot)))), (19, .arr 112 4 ((List.replicate (((a1.length : Nat) : Int) : Int).toNat (default : TreeSlot)).length) (rows TreeSlot.enc (List.replicate (((a1.length : Nat) : Int) : Int).toNat (default : TreeSlot)))), (6001, .arr 70 3 x2.length (rows TreeLink.enc x2)), (4, .box 31 [.d (.nil), .d (.nil), .d (.nil), .d (.nil), .d (.nil), .d (.nil)])], []⟩) (le_ph 7001 74 6 (rows TreeBridge.enc ([] : List TreeBridge)) rfl rfl) (le_mk ?_ ?_ ?_)) <;> (repeat' first | ((conv => whnf); first | exact trivial | refine And.intro ?_ ?_ | exact BLe.refl _ | exact VLe.refl _) | exact trivial | exact rfl | refine And.intro ?_ ?_ | exact BLe.refl _ | exact VLe.refl _ | exact VLe.any _ | exact VLe.nil_osl rfl | exact VLe.nil_sl rfl | exact VLe.built rfl rfl | (refine VLe.osl rfl ?_; (first | rfl | (simp; done) | assumption | (simp [dsub_eq] <;> omega) | omega)) | exact VLe.rows (by first | rfl | (simp; done) | assumption | (simp [dsub_eq] <;> omega) | omega) (fun _ _ => rfl) | exact VLe.rows (by simp [dsub_eq] <;> omega) rows_take | exact VLe.rows (by simp [dsub_eq] <;> omega) rows_dt | exact VLe.rows (by simp [dsub_eq] <;> omega) rows_vt | exact VLe.rows (by simp) (fun i _ => by simp [viewRow_eq, Nat.add_comm]) | refine VLe.aggL ?_ | (refine BLe.rows rfl ?_ fun _ _ => rfl; (first | rfl | (simp; done) | assumption | (simp [dsub_eq] <;> omega) | omega)) | (refine BLe.rows rfl rfl ?_; first | exact rows_take) | refine BLe.box ?_)
    · clear hx8
      intro s5 y6 g7 hy6
      conv => whnf
      refine seq_in tOk ?_
      conv => whnf
      refine And.intro (fun e => ?_) (fun e => ?_)
      · replace g7 := ite_t g7 e; clear e
        conv => whnf
        refine seq_in tOk ?_
        conv => whnf
        obtain ⟨g9, g7⟩ := gd_some g7
        refine And.intro g9 ?_
        clear g9
        conv => whnf
        obtain ⟨x10, hx10, g7⟩ := bd_some g7
        refine draw_k tOk (by kernel_rfl) (fun j => match j with | 4 => some (.pure 0 (.agg [.d (.int .i64 x10.Vector.Root), .d (.int .i64 x10.Vector.Cost), .d (.int .i64 x10.Vector.Age), .d (.int .i64 x10.Link)]) []) | _ => none) 7 [] [[], [true], [], [], [false, false, false, true], [false, false, true, true, true], [false, false, true, true, true, true]] [[true, true, true, true, true, true, true], [true, true, true, true, true, true, true, true], [true, true, true, true, true, true, true, true, true]] (by decide) (by kernel_rfl) (by kernel_rfl) ?_
        conv => whnf
        refine And.intro (callD_any (impl_selfMind_c hx10) (by kernel_rfl)) ?_
        conv => whnf
        refine ⟨([(⟨(a0.getD s5.2.toNat default), true, x10⟩ : TreeBridge)] : List TreeBridge).length, rows TreeBridge.enc ([(⟨(a0.getD s5.2.toNat default), true, x10⟩ : TreeBridge)] : List TreeBridge), rfl, build_rows, ?_⟩
        conv => whnf
        refine And.intro (by kernel_rfl) ?_
        conv => whnf
        obtain ⟨g11, g7⟩ := gd_some g7
        refine And.intro g11 ?_
        clear g11
        refine ⟨(s5.1 ++ ([(⟨(a0.getD s5.2.toNat default), true, x10⟩ : TreeBridge)] : List TreeBridge)).length, rows TreeBridge.enc (s5.1 ++ ([(⟨(a0.getD s5.2.toNat default), true, x10⟩ : TreeBridge)] : List TreeBridge)), (by first | rfl | (simp; done) | assumption | (simp [dsub_eq] <;> omega) | omega), (by first | exact app_rows (m := ([(⟨(a0.getD s5.2.toNat default), true, x10⟩ : TreeBridge)] : List TreeBridge).length) (by first | rfl | (simp; done) | assumption | (simp [dsub_eq] <;> omega) | omega) (by first | rfl | (simp; done) | assumption | (simp [dsub_eq] <;> omega) | omega) (fun _ _ => rfl) (fun _ _ => rfl) | exact app_rows0 (m := ([(⟨(a0.getD s5.2.toNat default), true, x10⟩ : TreeBridge)] : List TreeBridge).length) (by first | rfl | (simp; done) | assumption | (simp [dsub_eq] <;> omega) | omega) (fun _ _ => rfl) | exact app_rows (m := ([(⟨(a0.getD s5.2.toNat default), true, x10⟩ : TreeBridge)] : List TreeBridge).length) (by first | rfl | (simp; done) | assumption | (simp [dsub_eq] <;> omega) | omega) (by first | rfl | (simp; done) | assumption | (simp [dsub_eq] <;> omega) | omega) (by first | exact fun _ _ => rfl | exact rows_take | (intro i hi; simp only [viewRow_eq, addOff_eq, Int.toNat_zero, Nat.zero_add, Nat.add_zero]; exact rows_take i hi) | exact rows_vt | exact rows_dt | (intro i hi; simp only [viewRow_eq, Nat.zero_add]) | (intro i hi; simp [viewRow_eq])) (by first | exact fun _ _ => rfl | exact rows_take | (intro i hi; simp only [viewRow_eq, addOff_eq, Int.toNat_zero, Nat.zero_add, Nat.add_zero]; exact rows_take i hi) | exact rows_vt | exact rows_dt | (intro i hi; simp only [viewRow_eq, Nat.zero_add]) | (intro i hi; simp [viewRow_eq])) | exact app_rows0 (m := ([(⟨(a0.getD s5.2.toNat default), true, x10⟩ : TreeBridge)] : List TreeBridge).length) (by first | rfl | (simp; done) | assumption | (simp [dsub_eq] <;> omega) | omega) (by first | exact fun _ _ => rfl | exact rows_take | (intro i hi; simp only [viewRow_eq, addOff_eq, Int.toNat_zero, Nat.zero_add, Nat.add_zero]; exact rows_take i hi) | exact rows_vt | exact rows_dt | (intro i hi; simp only [viewRow_eq, Nat.zero_add]) | (intro i hi; simp [viewRow_eq]))), ?_⟩
        conv => whnf
        obtain rfl := Option.some.inj g7
        refine ⟨_, rfl, le_mk ?_ ?_ ?_⟩ <;> (repeat' first | ((conv => whnf); first | exact trivial | refine And.intro ?_ ?_ | exact BLe.refl _ | exact VLe.refl _) | exact trivial | exact rfl | refine And.intro ?_ ?_ | exact BLe.refl _ | exact VLe.refl _ | exact VLe.any _ | exact VLe.nil_osl rfl | exact VLe.nil_sl rfl | exact VLe.built rfl rfl | (refine VLe.osl rfl ?_; (first | rfl | (simp; done) | assumption | (simp [dsub_eq] <;> omega) | omega)) | exact VLe.rows (by first | rfl | (simp; done) | assumption | (simp [dsub_eq] <;> omega) | omega) (fun _ _ => rfl) | exact VLe.rows (by simp [dsub_eq] <;> omega) rows_take | exact VLe.rows (by simp [dsub_eq] <;> omega) rows_dt | exact VLe.rows (by simp [dsub_eq] <;> omega) rows_vt | exact VLe.rows (by simp) (fun i _ => by simp [viewRow_eq, Nat.add_comm]) | refine VLe.aggL ?_ | (refine BLe.rows rfl ?_ fun _ _ => rfl; (first | rfl | (simp; done) | assumption | (simp [dsub_eq] <;> omega) | omega)) | (refine BLe.rows rfl rfl ?_; first | exact rows_take) | refine BLe.box ?_)
      · replace g7 := ite_f g7 e; clear e
        conv => whnf
        obtain rfl := Option.some.inj g7
        obtain rfl := hy6 _ rfl
        refine seq_in tOk ?_
        conv => whnf
        obtain ⟨x13, hx13, h⟩ := bd_some h
        refine callW (args1 := [.agg [.d (.sl (s5.1, s5.1.length).2 (rows TreeBridge.enc (s5.1, s5.1.length).1)), .d (slD TreeLink.enc x2), .d (.nil), .d (slD TreeSlot.enc (List.replicate (((a1.length : Nat) : Int) : Int).toNat (default : TreeSlot))), .d (slD TreeSlot.enc (List.replicate (((a1.length : Nat) : Int) : Int).toNat (default : TreeSlot))), .d (.nil)]]) 0 (impl_TreeWorldOk_c hx13) (by kernel_rfl) (by (repeat' first | ((conv => whnf); first | exact trivial | refine And.intro ?_ ?_ | exact BLe.refl _ | exact VLe.refl _) | exact trivial | refine And.intro ?_ ?_ | exact VLe.refl _ | exact VLe.any _ | exact VLe.nil_osl rfl | exact VLe.nil_sl rfl | exact VLe.built rfl rfl | (refine VLe.osl rfl ?_; (first | rfl | (simp; done) | assumption | (simp [dsub_eq] <;> omega) | omega)) | exact VLe.rows (by first | rfl | (simp; done) | assumption | (simp [dsub_eq] <;> omega) | omega) (fun _ _ => rfl) | exact VLe.rows (by simp [dsub_eq] <;> omega) rows_take | exact VLe.rows (by simp [dsub_eq] <;> omega) rows_dt | exact VLe.rows (by simp [dsub_eq] <;> omega) rows_vt | exact VLe.rows (by simp) (fun i _ => by simp [viewRow_eq, Nat.add_comm]) | refine VLe.aggL ?_)) (by kernel_rfl) ?_
        conv => whnf
        refine And.intro (fun e => ?_) (fun e => ?_)
        · replace h := ite_t h e; clear e
          conv => whnf
          obtain rfl := Option.some.inj h
          refine ⟨⟨0, 45, [(4, .ref 4 0 0), (5, .d (.bool false))], [], [(5006, .arr 78 5 (([] : List TreeWord).length) (rows TreeWord.enc ([] : List TreeWord))), (5005, .arr 112 4 (([] : List TreeSlot).length) (rows TreeSlot.enc ([] : List TreeSlot))), (5004, .arr 112 4 (([] : List TreeSlot).length) (rows TreeSlot.enc ([] : List TreeSlot))), (5003, .arr 3 1 (([] : List Int).length) (rows encInt ([] : List Int))), (5002, .arr 70 3 (([] : List TreeLink).length) (rows TreeLink.enc ([] : List TreeLink))), (5001, .arr 74 6 (([] : List TreeBridge).length) (rows TreeBridge.enc ([] : List TreeBridge))), (4, .box 31 [.osl 5001 0 (([] : List TreeBridge).length), .osl 5002 0 (([] : List TreeLink).length), .osl 5003 0 (([] : List Int).length), .osl 5004 0 (([] : List TreeSlot).length), .osl 5005 0 (([] : List TreeSlot).length), .osl 5006 0 (([] : List TreeWord).length)])], []⟩, ?_, And.intro rfl ?_⟩
          · refine LE.trans (S' := ⟨0, 45, [(4, .ref 4 0 0), (5, .d (.bool false))], [], [(4, .box 31 [.d (.nil), .d (.nil), .d (.nil), .d (.nil), .d (.nil), .d (.nil)])], []⟩) (le_mk ?_ ?_ ?_) (LE.trans (S' := ⟨0, 45, [(4, .ref 4 0 0), (5, .d (.bool false))], [], [(5001, .arr 74 6 (([] : List TreeBridge).length) (rows TreeBridge.enc ([] : List TreeBridge))), (4, .box 31 [.d (.nil), .d (.nil), .d (.nil), .d (.nil), .d (.nil), .d (.nil)])], []⟩) (le_ph 5001 74 6 (rows TreeBridge.enc ([] : List TreeBridge)) rfl rfl) (LE.trans (S' := ⟨0, 45, [(4, .ref 4 0 0), (5, .d (.bool false))], [], [(5001, .arr 74 6 (([] : List TreeBridge).length) (rows TreeBridge.enc ([] : List TreeBridge))), (4, .box 31 [.osl 5001 0 (([] : List TreeBridge).length), .d (.nil), .d (.nil), .d (.nil), .d (.nil), .d (.nil)])], []⟩) (le_mk ?_ ?_ ?_) (LE.trans (S' := ⟨0, 45, [(4, .ref 4 0 0), (5, .d (.bool false))], [], [(5002, .arr 70 3 (([] : List TreeLink).length) (rows TreeLink.enc ([] : List TreeLink))), (5001, .arr 74 6 (([] : List TreeBridge).length) (rows TreeBridge.enc ([] : List TreeBridge))), (4, .box 31 [.osl 5001 0 (([] : List TreeBridge).length), .d (.nil), .d (.nil), .d (.nil), .d (.nil), .d (.nil)])], []⟩) (le_ph 5002 70 3 (rows TreeLink.enc ([] : List TreeLink)) rfl rfl) (LE.trans (S' := ⟨0, 45, [(4, .ref 4 0 0), (5, .d (.bool false))], [], [(5002, .arr 70 3 (([] : List TreeLink).length) (rows TreeLink.enc ([] : List TreeLink))), (5001, .arr 74 6 (([] : List TreeBridge).length) (rows TreeBridge.enc ([] : List TreeBridge))), (4, .box 31 [.osl 5001 0 (([] : List TreeBridge).length), .osl 5002 0 (([] : List TreeLink).length), .d (.nil), .d (.nil), .d (.nil), .d (.nil)])], []⟩) (le_mk ?_ ?_ ?_) (LE.trans (S' := ⟨0, 45, [(4, .ref 4 0 0), (5, .d (.bool false))], [], [(5003, .arr 3 1 (([] : List Int).length) (rows encInt ([] : List Int))), (5002, .arr 70 3 (([] : List TreeLink).length) (rows TreeLink.enc ([] : List TreeLink))), (5001, .arr 74 6 (([] : List TreeBridge).length) (rows TreeBridge.enc ([] : List TreeBridge))), (4, .box 31 [.osl 5001 0 (([] : List TreeBridge).length), .osl 5002 0 (([] : List TreeLink).length), .d (.nil), .d (.nil), .d (.nil), .d (.nil)])], []⟩) (le_ph 5003 3 1 (rows encInt ([] : List Int)) rfl rfl) (LE.trans (S' := ⟨0, 45, [(4, .ref 4 0 0), (5, .d (.bool false))], [], [(5003, .arr 3 1 (([] : List Int).length) (rows encInt ([] : List Int))), (5002, .arr 70 3 (([] : List TreeLink).length) (rows TreeLink.enc ([] : List TreeLink))), (5001, .arr 74 6 (([] : List TreeBridge).length) (rows TreeBridge.enc ([] : List TreeBridge))), (4, .box 31 [.osl 5001 0 (([] : List TreeBridge).length), .osl 5002 0 (([] : List TreeLink).length), .osl 5003 0 (([] : List Int).length), .d (.nil), .d (.nil), .d (.nil)])], []⟩) (le_mk ?_ ?_ ?_) (LE.trans (S' := ⟨0, 45, [(4, .ref 4 0 0), (5, .d (.bool false))], [], [(5004, .arr 112 4 (([] : List TreeSlot).length) (rows TreeSlot.enc ([] : List TreeSlot))), (5003, .arr 3 1 (([] : List Int).length) (rows encInt ([] : List Int))), (5002, .arr 70 3 (([] : List TreeLink).length) (rows TreeLink.enc ([] : List TreeLink))), (5001, .arr 74 6 (([] : List TreeBridge).length) (rows TreeBridge.enc ([] : List TreeBridge))), (4, .box 31 [.osl 5001 0 (([] : List TreeBridge).length), .osl 5002 0 (([] : List TreeLink).length), .osl 5003 0 (([] : List Int).length), .d (.nil), .d (.nil), .d (.nil)])], []⟩) (le_ph 5004 112 4 (rows TreeSlot.enc ([] : List TreeSlot)) rfl rfl) (LE.trans (S' := ⟨0, 45, [(4, .ref 4 0 0), (5, .d (.bool false))], [], [(5004, .arr 112 4 (([] : List TreeSlot).length) (rows TreeSlot.enc ([] : List TreeSlot))), (5003, .arr 3 1 (([] : List Int).length) (rows encInt ([] : List Int))), (5002, .arr 70 3 (([] : List TreeLink).length) (rows TreeLink.enc ([] : List TreeLink))), (5001, .arr 74 6 (([] : List TreeBridge).length) (rows TreeBridge.enc ([] : List TreeBridge))), (4, .box 31 [.osl 5001 0 (([] : List TreeBridge).length), .osl 5002 0 (([] : List TreeLink).length), .osl 5003 0 (([] : List Int).length), .osl 5004 0 (([] : List TreeSlot).length), .d (.nil), .d (.nil)])], []⟩) (le_mk ?_ ?_ ?_) (LE.trans (S' := ⟨0, 45, [(4, .ref 4 0 0), (5, .d (.bool false))], [], [(5005, .arr 112 4 (([] : List TreeSlot).length) (rows TreeSlot.enc ([] : List TreeSlot))), (5004, .arr 112 4 (([] : List TreeSlot).length) (rows TreeSlot.enc ([] : List TreeSlot))), (5003, .arr 3 1 (([] : List Int).length) (rows encInt ([] : List Int))), (5002, .arr 70 3 (([] : List TreeLink).length) (rows TreeLink.enc ([] : List TreeLink))), (5001, .arr 74 6 (([] : List TreeBridge).length) (rows TreeBridge.enc ([] : List TreeBridge))), (4, .box 31 [.osl 5001 0 (([] : List TreeBridge).length), .osl 5002 0 (([] : List TreeLink).length), .osl 5003 0 (([] : List Int).length), .osl 5004 0 (([] : List TreeSlot).length), .d (.nil), .d (.nil)])], []⟩) (le_ph 5005 112 4 (rows TreeSlot.enc ([] : List TreeSlot)) rfl rfl) (LE.trans (S' := ⟨0, 45, [(4, .ref 4 0 0), (5, .d (.bool false))], [], [(5005, .arr 112 4 (([] : List TreeSlot).length) (rows TreeSlot.enc ([] : List TreeSlot))), (5004, .arr 112 4 (([] : List TreeSlot).length) (rows TreeSlot.enc ([] : List TreeSlot))), (5003, .arr 3 1 (([] : List Int).length) (rows encInt ([] : List Int))), (5002, .arr 70 3 (([] : List TreeLink).length) (rows TreeLink.enc ([] : List TreeLink))), (5001, .arr 74 6 (([] : List TreeBridge).length) (rows TreeBridge.enc ([] : List TreeBridge))), (4, .box 31 [.osl 5001 0 (([] : List TreeBridge).length), .osl 5002 0 (([] : List TreeLink).length), .osl 5003 0 (([] : List Int).length), .osl 5004 0 (([] : List TreeSlot).length), .osl 5005 0 (([] : List TreeSlot).length), .d (.nil)])], []⟩) (le_mk ?_ ?_ ?_) (LE.trans (S' := ⟨0, 45, [(4, .ref 4 0 0), (5, .d (.bool false))], [], [(5006, .arr 78 5 (([] : List TreeWord).length) (rows TreeWord.enc ([] : List TreeWord))), (5005, .arr 112 4 (([] : List TreeSlot).length) (rows TreeSlot.enc ([] : List TreeSlot))), (5004, .arr 112 4 (([] : List TreeSlot).length) (rows TreeSlot.enc ([] : List TreeSlot))), (5003, .arr 3 1 (([] : List Int).length) (rows encInt ([] : List Int))), (5002, .arr 70 3 (([] : List TreeLink).length) (rows TreeLink.enc ([] : List TreeLink))), (5001, .arr 74 6 (([] : List TreeBridge).length) (rows TreeBridge.enc ([] : List TreeBridge))), (4, .box 31 [.osl 5001 0 (([] : List TreeBridge).length), .osl 5002 0 (([] : List TreeLink).length), .osl 5003 0 (([] : List Int).length), .osl 5004 0 (([] : List TreeSlot).length), .osl 5005 0 (([] : List TreeSlot).length), .d (.nil)])], []⟩) (le_ph 5006 78 5 (rows TreeWord.enc ([] : List TreeWord)) rfl rfl) (le_mk ?_ ?_ ?_)))))))))))) <;> (repeat' first | ((conv => whnf); first | exact trivial | refine And.intro ?_ ?_ | exact BLe.refl _ | exact VLe.refl _) | exact trivial | exact rfl | refine And.intro ?_ ?_ | exact BLe.refl _ | exact VLe.refl _ | exact VLe.any _ | exact VLe.nil_osl rfl | exact VLe.nil_sl rfl | exact VLe.built rfl rfl | (refine VLe.osl rfl ?_; (first | rfl | (simp; done) | assumption | (simp [dsub_eq] <;> omega) | omega)) | exact VLe.rows (by first | rfl | (simp; done) | assumption | (simp [dsub_eq] <;> omega) | omega) (fun _ _ => rfl) | exact VLe.rows (by simp [dsub_eq] <;> omega) rows_take | exact VLe.rows (by simp [dsub_eq] <;> omega) rows_dt | exact VLe.rows (by simp [dsub_eq] <;> omega) rows_vt | exact VLe.rows (by simp) (fun i _ => by simp [viewRow_eq, Nat.add_comm]) | refine VLe.aggL ?_ | (refine BLe.rows rfl ?_ fun _ _ => rfl; (first | rfl | (simp; done) | assumption | (simp [dsub_eq] <;> omega) | omega)) | (refine BLe.rows rfl rfl ?_; first | exact rows_take) | refine BLe.box ?_)
          · exact And.intro (And.intro rfl (And.intro rfl (fun _ _ => rfl))) (And.intro (And.intro rfl (And.intro rfl (fun _ _ => rfl))) (And.intro (And.intro rfl (And.intro rfl (fun _ _ => rfl))) (And.intro (And.intro rfl (And.intro rfl (fun _ _ => rfl))) (And.intro (And.intro rfl (And.intro rfl (fun _ _ => rfl))) (And.intro (And.intro rfl (And.intro rfl (fun _ _ => rfl))) (trivial))))))
        · replace h := ite_f h e; clear e
          conv => whnf
          obtain rfl := Option.some.inj h
          refine ⟨⟨0, 45, [(4, .ref 4 0 0), (5, .d (.bool true))], [], [(5006, .arr 78 5 (([] : List TreeWord).length) (rows TreeWord.enc ([] : List TreeWord))), (5003, .arr 3 1 (([] : List Int).length) (rows encInt ([] : List Int))), (5001, .arr 74 6 (s5.1, s5.1.length).1.length (rows TreeBridge.enc (s5.1, s5.1.length).1)), (5005, .arr 112 4 ((List.replicate (((a1.length : Nat) : Int) : Int).toNat (default : TreeSlot)).length) (rows TreeSlot.enc (List.replicate (((a1.length : Nat) : Int) : Int).toNat (default : TreeSlot)))), (5004, .arr 112 4 ((List.replicate (((a1.length : Nat) : Int) : Int).toNat (default : TreeSlot)).length) (rows TreeSlot.enc (List.replicate (((a1.length : Nat) : Int) : Int).toNat (default : TreeSlot)))), (5002, .arr 70 3 x2.length (rows TreeLink.enc x2)), (4, .box 31 [.osl 5001 0 (s5.1, s5.1.length).1.length, .osl 5002 0 x2.length, .osl 5003 0 (([] : List Int).length), .osl 5004 0 ((List.replicate (((a1.length : Nat) : Int) : Int).toNat (default : TreeSlot)).length), .osl 5005 0 ((List.replicate (((a1.length : Nat) : Int) : Int).toNat (default : TreeSlot)).length), .osl 5006 0 (([] : List TreeWord).length)])], []⟩, ?_, And.intro rfl ?_⟩
          · refine LE.trans (S' := ⟨0, 45, [(4, .ref 4 0 0), (5, .d (.bool true))], [], [(7001, .arr 74 6 (s5.1, s5.1.length).2 (rows TreeBridge.enc (s5.1, s5.1.length).1)), (22, .arr 112 4 ((List.replicate (((a1.length : Nat) : Int) : Int).toNat (default : TreeSlot)).length) (rows TreeSlot.enc (List.replicate (((a1.length : Nat) : Int) : Int).toNat (default : TreeSlot)))), (19, .arr 112 4 ((List.replicate (((a1.length : Nat) : Int) : Int).toNat (default : TreeSlot)).length) (rows TreeSlot.enc (List.replicate (((a1.length : Nat) : Int) : Int).toNat (default : TreeSlot)))), (6001, .arr 70 3 x2.length (rows TreeLink.enc x2)), (4, .box 31 [.osl 7001 0 (s5.1, s5.1.length).2, .osl 6001 0 x2.length, .d (.nil), .osl 19 0 ((List.replicate (((a1.length : Nat) : Int) : Int).toNat (default : TreeSlot)).length), .osl 22 0 ((List.replicate (((a1.length : Nat) : Int) : Int).toNat (default : TreeSlot)).length), .d (.nil)])], []⟩) (le_mk ?_ ?_ ?_) (LE.trans (S' := ⟨0, 45, [(4, .ref 4 0 0), (5, .d (.bool true))], [], [(5001, .arr 74 6 (s5.1, s5.1.length).2 (rows TreeBridge.enc (s5.1, s5.1.length).1)), (5005, .arr 112 4 ((List.replicate (((a1.length : Nat) : Int) : Int).toNat (default : TreeSlot)).length) (rows TreeSlot.enc (List.replicate (((a1.length : Nat) : Int) : Int).toNat (default : TreeSlot)))), (5004, .arr 112 4 ((List.replicate (((a1.length : Nat) : Int) : Int).toNat (default : TreeSlot)).length) (rows TreeSlot.enc (List.replicate (((a1.length : Nat) : Int) : Int).toNat (default : TreeSlot)))), (5002, .arr 70 3 x2.length (rows TreeLink.enc x2)), (4, .box 31 [.osl 5001 0 (s5.1, s5.1.length).2, .osl 5002 0 x2.length, .d (.nil), .osl 5004 0 ((List.replicate (((a1.length : Nat) : Int) : Int).toNat (default : TreeSlot)).length), .osl 5005 0 ((List.replicate (((a1.length : Nat) : Int) : Int).toNat (default : TreeSlot)).length), .d (.nil)])], []⟩) (le_swaps [(7001, 5001), (6001, 5002), (19, 5004), (22, 5005)] rfl) (LE.trans (S' := ⟨0, 45, [(4, .ref 4 0 0), (5, .d (.bool true))], [], [(5001, .arr 74 6 (s5.1, s5.1.length).1.length (rows TreeBridge.enc (s5.1, s5.1.length).1)), (5005, .arr 112 4 ((List.replicate (((a1.length : Nat) : Int) : Int).toNat (default : TreeSlot)).length) (rows TreeSlot.enc (List.replicate (((a1.length : Nat) : Int) : Int).toNat (default : TreeSlot)))), (5004, .arr 112 4 ((List.replicate (((a1.length : Nat) : Int) : Int).toNat (default : TreeSlot)).length) (rows TreeSlot.enc (List.replicate (((a1.length : Nat) : Int) : Int).toNat (default : TreeSlot)))), (5002, .arr 70 3 x2.length (rows TreeLink.enc x2)), (4, .box 31 [.osl 5001 0 (s5.1, s5.1.length).1.length, .osl 5002 0 x2.length, .d (.nil), .osl 5004 0 ((List.replicate (((a1.length : Nat) : Int) : Int).toNat (default : TreeSlot)).length), .osl 5005 0 ((List.replicate (((a1.length : Nat) : Int) : Int).toNat (default : TreeSlot)).length), .d (.nil)])], []⟩) (le_mk ?_ ?_ ?_) (LE.trans (S' := ⟨0, 45, [(4, .ref 4 0 0), (5, .d (.bool true))], [], [(5003, .arr 3 1 (([] : List Int).length) (rows encInt ([] : List Int))), (5001, .arr 74 6 (s5.1, s5.1.length).1.length (rows TreeBridge.enc (s5.1, s5.1.length).1)), (5005, .arr 112 4 ((List.replicate (((a1.length : Nat) : Int) : Int).toNat (default : TreeSlot)).length) (rows TreeSlot.enc (List.replicate (((a1.length : Nat) : Int) : Int).toNat (default : TreeSlot)))), (5004, .arr 112 4 ((List.replicate (((a1.length : Nat) : Int) : Int).toNat (default : TreeSlot)).length) (rows TreeSlot.enc (List.replicate (((a1.length : Nat) : Int) : Int).toNat (default : TreeSlot)))), (5002, .arr 70 3 x2.length (rows TreeLink.enc x2)), (4, .box 31 [.osl 5001 0 (s5.1, s5.1.length).1.length, .osl 5002 0 x2.length, .d (.nil), .osl 5004 0 ((List.replicate (((a1.length : Nat) : Int) : Int).toNat (default : TreeSlot)).length), .osl 5005 0 ((List.replicate (((a1.length : Nat) : Int) : Int).toNat (default : TreeSlot)).length), .d (.nil)])], []⟩) (le_ph 5003 3 1 (rows encInt ([] : List Int)) rfl rfl) (LE.trans (S' := ⟨0, 45, [(4, .ref 4 0 0), (5, .d (.bool true))], [], [(5003, .arr 3 1 (([] : List Int).length) (rows encInt ([] : List Int))), (5001, .arr 74 6 (s5.1, s5.1.length).1.length (rows TreeBridge.enc (s5.1, s5.1.length).1)), (5005, .arr 112 4 ((List.replicate (((a1.length : Nat) : Int) : Int).toNat (default : TreeSlot)).length) (rows TreeSlot.enc (List.replicate (((a1.length : Nat) : Int) : Int).toNat (default : TreeSlot)))), (5004, .arr 112 4 ((List.replicate (((a1.length : Nat) : Int) : Int).toNat (default : TreeSlot)).length) (rows TreeSlot.enc (List.replicate (((a1.length : Nat) : Int) : Int).toNat (default : TreeSlot)))), (5002, .arr 70 3 x2.length (rows TreeLink.enc x2)), (4, .box 31 [.osl 5001 0 (s5.1, s5.1.length).1.length, .osl 5002 0 x2.length, .osl 5003 0 (([] : List Int).length), .osl 5004 0 ((List.replicate (((a1.length : Nat) : Int) : Int).toNat (default : TreeSlot)).length), .osl 5005 0 ((List.replicate (((a1.length : Nat) : Int) : Int).toNat (default : TreeSlot)).length), .d (.nil)])], []⟩) (le_mk ?_ ?_ ?_) (LE.trans (S' := ⟨0, 45, [(4, .ref 4 0 0), (5, .d (.bool true))], [], [(5006, .arr 78 5 (([] : List TreeWord).length) (rows TreeWord.enc ([] : List TreeWord))), (5003, .arr 3 1 (([] : List Int).length) (rows encInt ([] : List Int))), (5001, .arr 74 6 (s5.1, s5.1.length).1.length (rows TreeBridge.enc (s5.1, s5.1.length).1)), (5005, .arr 112 4 ((List.replicate (((a1.length : Nat) : Int) : Int).toNat (default : TreeSlot)).length) (rows TreeSlot.enc (List.replicate (((a1.length : Nat) : Int) : Int).toNat (default : TreeSlot)))), (5004, .arr 112 4 ((List.replicate (((a1.length : Nat) : Int) : Int).toNat (default : TreeSlot)).length) (rows TreeSlot.enc (List.replicate (((a1.length : Nat) : Int) : Int).toNat (default : TreeSlot)))), (5002, .arr 70 3 x2.length (rows TreeLink.enc x2)), (4, .box 31 [.osl 5001 0 (s5.1, s5.1.length).1.length, .osl 5002 0 x2.length, .osl 5003 0 (([] : List Int).length), .osl 5004 0 ((List.replicate (((a1.length : Nat) : Int) : Int).toNat (default : TreeSlot)).length), .osl 5005 0 ((List.replicate (((a1.length : Nat) : Int) : Int).toNat (default : TreeSlot)).length), .d (.nil)])], []⟩) (le_ph 5006 78 5 (rows TreeWord.enc ([] : List TreeWord)) rfl rfl) (le_mk ?_ ?_ ?_)))))) <;> (repeat' first | ((conv => whnf); first | exact trivial | refine And.intro ?_ ?_ | exact BLe.refl _ | exact VLe.refl _) | exact trivial | exact rfl | refine And.intro ?_ ?_ | exact BLe.refl _ | exact VLe.refl _ | exact VLe.any _ | exact VLe.nil_osl rfl | exact VLe.nil_sl rfl | exact VLe.built rfl rfl | (refine VLe.osl rfl ?_; (first | rfl | (simp; done) | assumption | (simp [dsub_eq] <;> omega) | omega)) | exact VLe.rows (by first | rfl | (simp; done) | assumption | (simp [dsub_eq] <;> omega) | omega) (fun _ _ => rfl) | exact VLe.rows (by simp [dsub_eq] <;> omega) rows_take | exact VLe.rows (by simp [dsub_eq] <;> omega) rows_dt | exact VLe.rows (by simp [dsub_eq] <;> omega) rows_vt | exact VLe.rows (by simp) (fun i _ => by simp [viewRow_eq, Nat.add_comm]) | refine VLe.aggL ?_ | (refine BLe.rows rfl ?_ fun _ _ => rfl; (first | rfl | (simp; done) | assumption | (simp [dsub_eq] <;> omega) | omega)) | (refine BLe.rows rfl rfl ?_; first | exact rows_take) | refine BLe.box ?_)
          · exact And.intro (And.intro rfl (And.intro rfl (fun _ _ => rfl))) (And.intro (And.intro rfl (And.intro rfl (fun _ _ => rfl))) (And.intro (And.intro rfl (And.intro rfl (fun _ _ => rfl))) (And.intro (And.intro rfl (And.intro rfl (fun _ _ => rfl))) (And.intro (And.intro rfl (And.intro rfl (fun _ _ => rfl))) (And.intro (And.intro rfl (And.intro rfl (fun _ _ => rfl))) (trivial))))))

noncomputable def impl_TreeWorld_isUp_m (a0 : TreeWorld) (a1 : Int) : Option (Bool) :=
 bd (impl_within_m a1 0 (IntKind.i64.wrap (((a0.Bridges.length : Nat) : Int) - 1))) fun x1 =>
 gd (x1 = true → ((0 : Int) ≤ a1 ∧ a1 < ((a0.Bridges.length : Nat) : Int))) <|
 some (x1 && (a0.Bridges.getD a1.toNat default).Up)

theorem impl_TreeWorld_isUp_c {a0 : TreeWorld} {a1 : Int} {r : Bool} (h : impl_TreeWorld_isUp_m a0 a1 = some r) : PureC Try.prog 71 [.rp [slD TreeBridge.enc a0.Bridges, slD TreeLink.enc a0.Links, slD encInt a0.Down, slD TreeSlot.enc a0.AtA, slD TreeSlot.enc a0.AtB, slD TreeWord.enc a0.Radio], .d (.int .i64 a1)] (.d (.bool r)) [] := by
  refine pureC_m tOk (fn := Try.f71) (c := codeOf Try.f71) rfl rfl (by kernel_rfl) rfl rfl (by simp) (by simp) (ids_of rfl) ?_
  unfold impl_TreeWorld_isUp_m at h
  conv => whnf
  obtain ⟨x1, hx1, h⟩ := bd_some h
  refine callC 0 (impl_within_c hx1) (by kernel_rfl) (by kernel_rfl) ?_
  clear hx1
  conv => whnf
  obtain ⟨g2, h⟩ := gd_some h
  refine And.intro g2 ?_
  clear g2
  conv => whnf
  obtain rfl := Option.some.inj h
  exact ⟨_, LE.refl _, And.intro rfl trivial⟩

noncomputable def impl_TreeWorld_think_m (a0 : TreeWorld) (a1 : Int) : Option (TreeMind) :=
 gd ((0 : Int) ≤ a1 ∧ a1 < ((a0.Bridges.length : Nat) : Int)) <|
 bd (impl_selfMind_m ((a0.Bridges.getD a1.toNat default).Id)) fun x2 =>
 bd (lp (σ := Int × Int × Int × Int × Int × Int) (β := (Int × Int × Int × Int)) (fun s3 =>
(if (decide (s3.2.2.2.2.1 < ((a0.Links.length : Nat) : Int))) = true then
 gd ((0 : Int) ≤ s3.2.2.2.2.1 ∧ s3.2.2.2.2.1 < ((a0.Links.length : Nat) : Int)) <|
 bd (lp (σ := Int × Int × Int × Int × Int × Int) (β := (Int × Int × Int × Int × Int)) (fun s8 =>
(if (decide (s8.2.2.2.2.1 < 2)) = true then
 bd (impl_TreeWorld_slot_m a0 s3.2.2.2.2.1 s8.2.2.2.2.1) fun x12 =>
 bd (impl_TreeWorld_bridgeAt_m a0 s3.2.2.2.2.1 s8.2.2.2.2.1) fun x13 =>
 bd (gcall ((x13 != a1) = false) (impl_TreeVector_nothing_m x12.Vector)) fun x14 =>
(if ((((x13 != a1) || x14) || (decide (x12.Vector.Age ≥ 10))) || (decide ((IntKind.i64.wrap (x12.Vector.Cost + ((a0.Links.getD s3.2.2.2.2.1.toNat default).Cost))) > 1000))) = true then
 some (.inl (s8.1, s8.2.1, s8.2.2.1, s8.2.2.2.1, IntKind.i64.wrap (s8.2.2.2.2.1 + 1), s8.2.2.2.2.2))
else
 bd (impl_TreeWorld_bridgeAt_m a0 s3.2.2.2.2.1 (IntKind.i64.wrap (1 - s8.2.2.2.2.1))) fun x15 =>
 gd ((0 : Int) ≤ x15 ∧ x15 < ((a0.Bridges.length : Nat) : Int)) <|
 bd (impl_TreeVector_compare_m (⟨x12.Vector.Root, IntKind.i64.wrap (x12.Vector.Cost + ((a0.Links.getD s3.2.2.2.2.1.toNat default).Cost)), IntKind.i64.wrap (x12.Vector.Age + 1)⟩ : TreeVector) (⟨s8.1, s8.2.1, s8.2.2.1⟩ : TreeVector)) fun x17 =>
(if ((decide (x17 < 0)) || ((x17 == 0) && (decide (((a0.Bridges.getD x15.toNat default).Id) < s8.2.2.2.2.2)))) = true then
 some (.inl (x12.Vector.Root, IntKind.i64.wrap (x12.Vector.Cost + ((a0.Links.getD s3.2.2.2.2.1.toNat default).Cost)), IntKind.i64.wrap (x12.Vector.Age + 1), s3.2.2.2.2.1, IntKind.i64.wrap (s8.2.2.2.2.1 + 1), (a0.Bridges.getD x15.toNat default).Id))
else
 some (.inl (s8.1, s8.2.1, s8.2.2.1, s8.2.2.2.1, IntKind.i64.wrap (s8.2.2.2.2.1 + 1), s8.2.2.2.2.2))))
else
 some (.inr (s8.2.2.2.2.2, s8.1, s8.2.1, s8.2.2.1, s8.2.2.2.1)))) (s3.1, s3.2.1, s3.2.2.1, s3.2.2.2.1, 0, s3.2.2.2.2.2)) fun x11 =>
 some (.inl (x11.2.1, x11.2.2.1, x11.2.2.2.1, x11.2.2.2.2, IntKind.i64.wrap (s3.2.2.2.2.1 + 1), x11.1))
else
 some (.inr (s3.1, s3.2.1, s3.2.2.1, s3.2.2.2.1)))) (x2.Vector.Root, x2.Vector.Cost, x2.Vector.Age, x2.Link, 0, 0)) fun x6 =>
 some (⟨(⟨x6.1, x6.2.1, x6.2.2.1⟩ : TreeVector), x6.2.2.2⟩ : TreeMind)

theorem impl_TreeWorld_think_c {a0 : TreeWorld} {a1 : Int} {r : TreeMind} (h : impl_TreeWorld_think_m a0 a1 = some r) : PureC Try.prog 72 [.rp [slD TreeBridge.enc a0.Bridges, slD TreeLink.enc a0.Links, slD encInt a0.Down, slD TreeSlot.enc a0.AtA, slD TreeSlot.enc a0.AtB, slD TreeWord.enc a0.Radio], .d (.int .i64 a1)] (.agg [.d (.int .i64 r.Vector.Root), .d (.int .i64 r.Vector.Cost), .d (.int .i64 r.Vector.Age), .d (.int .i64 r.Link)]) [] := by
  refine pureC_m tOk (fn := Try.f72) (c := codeOf Try.f72) rfl rfl (by kernel_rfl) rfl rfl (by simp) (by simp) (ids_of rfl) ?_
  unfold impl_TreeWorld_think_m at h
  conv => whnf
  obtain ⟨g1, h⟩ := gd_some h
  refine And.intro g1 ?_
  clear g1
  conv => whnf
  obtain ⟨x2, hx2, h⟩ := bd_some h
  refine callC 0 (impl_selfMind_c hx2) (by kernel_rfl) (by kernel_rfl) ?_
  clear hx2
  conv => whnf
  refine seq_in tOk ?_
  conv => whnf
  obtain ⟨x6, hx6, h⟩ := bd_some h
  refine loop_m tOk hx6 (fun s3 => ⟨0, 110, [(0, .rp [slD TreeBridge.enc a0.Bridges, slD TreeLink.enc a0.Links, slD encInt a0.Down, slD TreeSlot.enc a0.AtA, slD TreeSlot.enc a0.AtB, slD TreeWord.enc a0.Radio]), (1, .d (.int .i64 a1)), (4, .ref 4 0 0), (5, .ref 5 0 0), (6, .d (.int .i64 s3.2.2.2.2.2)), (25, .d (slD TreeLink.enc a0.Links)), (26, .d (.int .i64 ((a0.Links.length : Nat) : Int))), (27, .d (.int .i64 s3.2.2.2.2.1))], [], [(5, .box 51 [.d (.int .i64 s3.1), .d (.int .i64 s3.2.1), .d (.int .i64 s3.2.2.1), .d (.int .i64 s3.2.2.2.1)]), (4, .box 51 [.d (.int .i64 0), .d (.int .i64 0), .d (.int .i64 0), .d (.int .i64 0)])], []⟩) ?_ ?_
  · refine le_mk ?_ ?_ ?_ <;> (repeat' first | ((conv => whnf); first | exact trivial | refine And.intro ?_ ?_ | exact BLe.refl _ | exact VLe.refl _) | exact trivial | exact rfl | refine And.intro ?_ ?_ | exact BLe.refl _ | exact VLe.refl _ | exact VLe.any _ | exact VLe.nil_osl rfl | exact VLe.nil_sl rfl | exact VLe.built rfl rfl | (refine VLe.osl rfl ?_; (first | rfl | (simp; done) | assumption | (simp [dsub_eq] <;> omega) | omega)) | exact VLe.rows (by first | rfl | (simp; done) | assumption | (simp [dsub_eq] <;> omega) | omega) (fun _ _ => rfl) | exact VLe.rows (by simp [dsub_eq] <;> omega) rows_take | exact VLe.rows (by simp [dsub_eq] <;> omega) rows_dt | exact VLe.rows (by simp [dsub_eq] <;> omega) rows_vt | exact VLe.rows (by simp) (fun i _ => by simp [viewRow_eq, Nat.add_comm]) | refine VLe.aggL ?_ | (refine BLe.rows rfl ?_ fun _ _ => rfl; (first | rfl | (simp; done) | assumption | (simp [dsub_eq] <;> omega) | omega)) | (refine BLe.rows rfl rfl ?_; first | exact rows_take) | refine BLe.box ?_)
  · clear hx6
    intro s3 y4 g5 hy4
    conv => whnf
    refine seq_in tOk ?_
    conv => whnf
    refine And.intro (fun e => ?_) (fun e => ?_)
    · replace g5 := ite_t g5 e; clear e
      conv => whnf
      refine seq_in tOk ?_
      conv => whnf
      obtain ⟨g7, g5⟩ := gd_some g5
      refine And.intro g7 ?_
      clear g7
      conv => whnf
      obtain ⟨x11, hx11, g5⟩ := bd_some g5
      refine loop_m tOk hx11 (fun s8 => ⟨0, 110, [(0, .rp [slD TreeBridge.enc a0.Bridges, slD TreeLink.enc a0.Links, slD encInt a0.Down, slD TreeSlot.enc a0.AtA, slD TreeSlot.enc a0.AtB, slD TreeWord.enc a0.Radio]), (1, .d (.int .i64 a1)), (4, .ref 4 0 0), (5, .ref 5 0 0), (6, .d (.int .i64 s8.2.2.2.2.2)), (7, .d (.int .i64 s3.2.2.2.2.1)), (8, .ref 8 0 0), (25, .d (slD TreeLink.enc a0.Links)), (26, .d (.int .i64 ((a0.Links.length : Nat) : Int))), (27, .d (.int .i64 s3.2.2.2.2.1)), (32, .d (.int .i64 s8.2.2.2.2.1))], [], [(8, .box 70 [.d (.int .i64 ((a0.Links.getD s3.2.2.2.2.1.toNat default).A)), .d (.int .i64 ((a0.Links.getD s3.2.2.2.2.1.toNat default).B)), .d (.int .i64 ((a0.Links.getD s3.2.2.2.2.1.toNat default).Cost))]), (5, .box 51 [.d (.int .i64 s8.1), .d (.int .i64 s8.2.1), .d (.int .i64 s8.2.2.1), .d (.int .i64 s8.2.2.2.1)]), (4, .box 51 [.d (.int .i64 0), .d (.int .i64 0), .d (.int .i64 0), .d (.int .i64 0)])], []⟩) ?_ ?_
      · refine le_mk ?_ ?_ ?_ <;> (repeat' first | ((conv => whnf); first | exact trivial | refine And.intro ?_ ?_ | exact BLe.refl _ | exact VLe.refl _) | exact trivial | exact rfl | refine And.intro ?_ ?_ | exact BLe.refl _ | exact VLe.refl _ | exact VLe.any _ | exact VLe.nil_osl rfl | exact VLe.nil_sl rfl | exact VLe.built rfl rfl | (refine VLe.osl rfl ?_; (first | rfl | (simp; done) | assumption | (simp [dsub_eq] <;> omega) | omega)) | exact VLe.rows (by first | rfl | (simp; done) | assumption | (simp [dsub_eq] <;> omega) | omega) (fun _ _ => rfl) | exact VLe.rows (by simp [dsub_eq] <;> omega) rows_take | exact VLe.rows (by simp [dsub_eq] <;> omega) rows_dt | exact VLe.rows (by simp [dsub_eq] <;> omega) rows_vt | exact VLe.rows (by simp) (fun i _ => by simp [viewRow_eq, Nat.add_comm]) | refine VLe.aggL ?_ | (refine BLe.rows rfl ?_ fun _ _ => rfl; (first | rfl | (simp; done) | assumption | (simp [dsub_eq] <;> omega) | omega)) | (refine BLe.rows rfl rfl ?_; first | exact rows_take) | refine BLe.box ?_)
      · clear hx11
        intro s8 y9 g10 hy9
        conv => whnf
        refine seq_in tOk ?_
        conv => whnf
        refine And.intro (fun e => ?_) (fun e => ?_)
        · replace g10 := ite_t g10 e; clear e
          conv => whnf
          refine seq_in tOk ?_
          conv => whnf
          obtain ⟨x12, hx12, g10⟩ := bd_some g10
          refine callE [] 0 (impl_TreeWorld_slot_c hx12) (by (repeat' first | ((conv => whnf); first | exact trivial | refine And.intro ?_ ?_ | exact BLe.refl _ | exact VLe.refl _) | exact trivial | refine And.intro ?_ ?_ | exact VLe.refl _ | exact VLe.any _ | exact VLe.nil_osl rfl | exact VLe.nil_sl rfl | exact VLe.built rfl rfl | (refine VLe.osl rfl ?_; (first | rfl | (simp; done) | assumption | (simp [dsub_eq] <;> omega) | omega)) | exact VLe.rows (by first | rfl | (simp; done) | assumption | (simp [dsub_eq] <;> omega) | omega) (fun _ _ => rfl) | exact VLe.rows (by simp [dsub_eq] <;> omega) rows_take | exact VLe.rows (by simp [dsub_eq] <;> omega) rows_dt | exact VLe.rows (by simp [dsub_eq] <;> omega) rows_vt | exact VLe.rows (by simp) (fun i _ => by simp [viewRow_eq, Nat.add_comm]) | refine VLe.aggL ?_)) (by (repeat' first | ((conv => whnf); first | exact trivial | refine And.intro ?_ ?_ | exact BLe.refl _ | exact VLe.refl _) | exact trivial | exact rfl | refine And.intro ?_ ?_ | exact BLe.refl _ | exact VLe.refl _ | exact VLe.any _ | exact VLe.nil_osl rfl | exact VLe.nil_sl rfl | exact VLe.built rfl rfl | (refine VLe.osl rfl ?_; (first | rfl | (simp; done) | assumption | (simp [dsub_eq] <;> omega) | omega)) | exact VLe.rows (by first | rfl | (simp; done) | assumption | (simp [dsub_eq] <;> omega) | omega) (fun _ _ => rfl) | exact VLe.rows (by simp [dsub_eq] <;> omega) rows_take | exact VLe.rows (by simp [dsub_eq] <;> omega) rows_dt | exact VLe.rows (by simp [dsub_eq] <;> omega) rows_vt | exact VLe.rows (by simp) (fun i _ => by simp [viewRow_eq, Nat.add_comm]) | refine VLe.aggL ?_ | (refine BLe.rows rfl ?_ fun _ _ => rfl; (first | rfl | (simp; done) | assumption | (simp [dsub_eq] <;> omega) | omega)) | refine BLe.box ?_ | (simp; done))) rfl rfl ?_
          conv => whnf
          refine seq_in tOk ?_
          conv => whnf
          obtain ⟨x13, hx13, g10⟩ := bd_some g10
          refine callC 0 (impl_TreeWorld_bridgeAt_c hx13) (by kernel_rfl) (by kernel_rfl) ?_
          clear hx13
          conv => whnf
          obtain ⟨x14, hx14, g10⟩ := bd_some g10
          refine callG_m rfl rfl rfl rfl rfl rfl (by intro c0; exact impl_TreeVector_nothing_c (gcall_some hx14 c0)) ?_
          conv => whnf
          refine And.intro (fun e => ?_) (fun e => ?_)
          · replace g10 := ite_t g10 e; clear e
            conv => whnf
            obtain rfl := Option.some.inj g10
            refine ⟨_, rfl, le_mk ?_ ?_ ?_⟩ <;> (repeat' first | ((conv => whnf); first | exact trivial | refine And.intro ?_ ?_ | exact BLe.refl _ | exact VLe.refl _) | exact trivial | exact rfl | refine And.intro ?_ ?_ | exact BLe.refl _ | exact VLe.refl _ | exact VLe.any _ | exact VLe.nil_osl rfl | exact VLe.nil_sl rfl | exact VLe.built rfl rfl | (refine VLe.osl rfl ?_; (first | rfl | (simp; done) | assumption | (simp [dsub_eq] <;> omega) | omega)) | exact VLe.rows (by first | rfl | (simp; done) | assumption | (simp [dsub_eq] <;> omega) | omega) (fun _ _ => rfl) | exact VLe.rows (by simp [dsub_eq] <;> omega) rows_take | exact VLe.rows (by simp [dsub_eq] <;> omega) rows_dt | exact VLe.rows (by simp [dsub_eq] <;> omega) rows_vt | exact VLe.rows (by simp) (fun i _ => by simp [viewRow_eq, Nat.add_comm]) | refine VLe.aggL ?_ | (refine BLe.rows rfl ?_ fun _ _ => rfl; (first | rfl | (simp; done) | assumption | (simp [dsub_eq] <;> omega) | omega)) | (refine BLe.rows rfl rfl ?_; first | exact rows_take) | refine BLe.box ?_)
          · replace g10 := ite_f g10 e; clear e
            conv => whnf
            obtain ⟨x15, hx15, g10⟩ := bd_some g10
            obtain ⟨g16, g10⟩ := gd_some g10
            refine draw_k tOk (by kernel_rfl) (fun j => match j with | 8 => some (.pure 0 (.d (.int .i64 x15)) []) | _ => none) 13 [] [[], [true], [true, true], [true, true, true], [], [], [], [false, false, false, false, false, false, true], [false, false, false, false, true, true, true, true], [true, true, true, true, true, true, true, true, true], [true, true, true, true, true, true, true, true, true, true], [true, true, true, true, true, true, true, true, true, true, true], [true, true, true, true, true, true, true, true, true, true, true, true]] [] (by decide) (by kernel_rfl) (by kernel_rfl) ?_
            conv => whnf
            refine And.intro (callD_any (impl_TreeWorld_bridgeAt_c hx15) (by kernel_rfl)) ?_
            conv => whnf
            refine And.intro g16 ?_
            clear g16
            conv => whnf
            refine And.intro (by kernel_rfl) ?_
            conv => whnf
            obtain ⟨x17, hx17, g10⟩ := bd_some g10
            refine callC 0 (impl_TreeVector_compare_c hx17) (by kernel_rfl) (by kernel_rfl) ?_
            clear hx17
            conv => whnf
            refine And.intro (fun e => ?_) (fun e => ?_)
            · replace g10 := ite_t g10 e; clear e
              conv => whnf
              obtain rfl := Option.some.inj g10
              refine ⟨_, rfl, le_mk ?_ ?_ ?_⟩ <;> (repeat' first | ((conv => whnf); first | exact trivial | refine And.intro ?_ ?_ | exact BLe.refl _ | exact VLe.refl _) | exact trivial | exact rfl | refine And.intro ?_ ?_ | exact BLe.refl _ | exact VLe.refl _ | exact VLe.any _ | exact VLe.nil_osl rfl | exact VLe.nil_sl rfl | exact VLe.built rfl rfl | (refine VLe.osl rfl ?_; (first | rfl | (simp; done) | assumption | (simp [dsub_eq] <;> omega) | omega)) | exact VLe.rows (by first | rfl | (simp; done) | assumption | (simp [dsub_eq] <;> omega) | omega) (fun _ _ => rfl) | exact VLe.rows (by simp [dsub_eq] <;> omega) rows_take | exact VLe.rows (by simp [dsub_eq] <;> omega) rows_dt | exact VLe.rows (by simp [dsub_eq] <;> omega) rows_vt | exact VLe.rows (by simp) (fun i _ => by simp [viewRow_eq, Nat.add_comm]) | refine VLe.aggL ?_ | (refine BLe.rows rfl ?_ fun _ _ => rfl; (first | rfl | (simp; done) | assumption | (simp [dsub_eq] <;> omega) | omega)) | (refine BLe.rows rfl rfl ?_; first | exact rows_take) | refine BLe.box ?_)
            · replace g10 := ite_f g10 e; clear e
              conv => whnf
              obtain rfl := Option.some.inj g10
              refine ⟨_, rfl, le_mk ?_ ?_ ?_⟩ <;> (repeat' first | ((conv => whnf); first | exact trivial | refine And.intro ?_ ?_ | exact BLe.refl _ | exact VLe.refl _) | exact trivial | exact rfl | refine And.intro ?_ ?_ | exact BLe.refl _ | exact VLe.refl _ | exact VLe.any _ | exact VLe.nil_osl rfl | exact VLe.nil_sl rfl | exact VLe.built rfl rfl | (refine VLe.osl rfl ?_; (first | rfl | (simp; done) | assumption | (simp [dsub_eq] <;> omega) | omega)) | exact VLe.rows (by first | rfl | (simp; done) | assumption | (simp [dsub_eq] <;> omega) | omega) (fun _ _ => rfl) | exact VLe.rows (by simp [dsub_eq] <;> omega) rows_take | exact VLe.rows (by simp [dsub_eq] <;> omega) rows_dt | exact VLe.rows (by simp [dsub_eq] <;> omega) rows_vt | exact VLe.rows (by simp) (fun i _ => by simp [viewRow_eq, Nat.add_comm]) | refine VLe.aggL ?_ | (refine BLe.rows rfl ?_ fun _ _ => rfl; (first | rfl | (simp; done) | assumption | (simp [dsub_eq] <;> omega) | omega)) | (refine BLe.rows rfl rfl ?_; first | exact rows_take) | refine BLe.box ?_)
        · replace g10 := ite_f g10 e; clear e
          conv => whnf
          obtain rfl := Option.some.inj g10
          obtain rfl := hy9 _ rfl
          obtain rfl := Option.some.inj g5
          refine ⟨_, rfl, le_mk ?_ ?_ ?_⟩ <;> (repeat' first | ((conv => whnf); first | exact trivial | refine And.intro ?_ ?_ | exact BLe.refl _ | exact VLe.refl _) | exact trivial | exact rfl | refine And.intro ?_ ?_ | exact BLe.refl _ | exact VLe.refl _ | exact VLe.any _ | exact VLe.nil_osl rfl | exact VLe.nil_sl rfl | exact VLe.built rfl rfl | (refine VLe.osl rfl ?_; (first | rfl | (simp; done) | assumption | (simp [dsub_eq] <;> omega) | omega)) | exact VLe.rows (by first | rfl | (simp; done) | assumption | (simp [dsub_eq] <;> omega) | omega) (fun _ _ => rfl) | exact VLe.rows (by simp [dsub_eq] <;> omega) rows_take | exact VLe.rows (by simp [dsub_eq] <;> omega) rows_dt | exact VLe.rows (by simp [dsub_eq] <;> omega) rows_vt | exact VLe.rows (by simp) (fun i _ => by simp [viewRow_eq, Nat.add_comm]) | refine VLe.aggL ?_ | (refine BLe.rows rfl ?_ fun _ _ => rfl; (first | rfl | (simp; done) | assumption | (simp [dsub_eq] <;> omega) | omega)) | (refine BLe.rows rfl rfl ?_; first | exact rows_take) | refine BLe.box ?_)
    · replace g5 := ite_f g5 e; clear e
      conv => whnf
      obtain rfl := Option.some.inj g5
      obtain rfl := hy4 _ rfl
      obtain rfl := Option.some.inj h
      exact ⟨_, LE.refl _, And.intro rfl trivial⟩

noncomputable def impl_TreeThink_m (a0 : TreeWorld) (a1 : Int) : Option (TreeMind) :=
 bd (impl_TreeWorldOk_m a0) fun x1 =>
 bd (gcall ((!x1) = false) (impl_TreeWorld_isUp_m a0 a1)) fun x2 =>
(if ((!x1) || (!x2)) = true then
 some (⟨(⟨0, 0, 0⟩ : TreeVector), 0⟩ : TreeMind)
else
 bd (impl_TreeWorld_think_m a0 a1) fun x3 =>
 some x3)

theorem impl_TreeThink_c {a0 : TreeWorld} {a1 : Int} {r : TreeMind} (h : impl_TreeThink_m a0 a1 = some r) : PureC Try.prog 21 [.agg [.d (slD TreeBridge.enc a0.Bridges), .d (slD TreeLink.enc a0.Links), .d (slD encInt a0.Down), .d (slD TreeSlot.enc a0.AtA), .d (slD TreeSlot.enc a0.AtB), .d (slD TreeWord.enc a0.Radio)], .d (.int .i64 a1)] (.agg [.d (.int .i64 r.Vector.Root), .d (.int .i64 r.Vector.Cost), .d (.int .i64 r.Vector.Age), .d (.int .i64 r.Link)]) [] := by
  refine pureC_m tOk (fn := Try.f21) (c := codeOf Try.f21) rfl rfl (by kernel_rfl) rfl rfl (by simp) (by simp) (ids_of rfl) ?_
  unfold impl_TreeThink_m at h
  conv => whnf
  refine seq_in tOk ?_
  conv => whnf
  obtain ⟨x1, hx1, h⟩ := bd_some h
  refine callC 0 (impl_TreeWorldOk_c hx1) (by kernel_rfl) (by kernel_rfl) ?_
  clear hx1
  conv => whnf
  obtain ⟨x2, hx2, h⟩ := bd_some h
  refine callG_m rfl rfl rfl rfl rfl rfl (by intro c0; exact impl_TreeWorld_isUp_c (gcall_some hx2 c0)) ?_
  conv => whnf
  refine And.intro (fun e => ?_) (fun e => ?_)
  · replace h := ite_t h e; clear e
    conv => whnf
    obtain rfl := Option.some.inj h
    exact ⟨_, LE.refl _, And.intro rfl trivial⟩
  · replace h := ite_f h e; clear e
    conv => whnf
    obtain ⟨x3, hx3, h⟩ := bd_some h
    refine callC 0 (impl_TreeWorld_think_c hx3) (by kernel_rfl) (by kernel_rfl) ?_
    clear hx3
    conv => whnf
    obtain rfl := Option.some.inj h
    exact ⟨_, LE.refl _, And.intro rfl trivial⟩

end Go.Proofs.Ytbolhcpkpncmfaa
