/-
  What some of the program's functions compute: their models, and that the functions compute these; no condition.
-/
import Derived.Test.YtbolhcpkpncmfaaTyz
import Derived.Test.YtbolhcpkpncmfaaTbz
import Derived.Test.YtbolhcpkpncmfaaKz3
set_option linter.all false
namespace Go.Proofs.Ytbolhcpkpncmfaa
open Go Go.Ab
set_option maxRecDepth 100000
set_option maxHeartbeats 4000000
noncomputable def impl_TreeOpenWorld_m (a0 : (List Int)) (a1 : (List TreeLink)) : Option (TreeWorld × Bool) :=
 bd (impl_TreeLinksOk_m ((a0.length : Nat) : Int) a1) fun x1 =>
(if (!x1) = true then
 some ((⟨[], [], [], [], [], []⟩ : TreeWorld), false)
else
 bd (impl_clone_TreeLink_m a1) fun x2 =>
 gd ((0 : Int) ≤ ((a1.length : Nat) : Int) ∧ ((a1.length : Nat) : Int) ≤ ((a1.length : Nat) : Int) ∧ ((a1.length : Nat) : Int) * 32 ≤ 140737488355328 ∧ ((a1.length : Nat) : Int) ≤ 140737488355328) <|
 gd ((0 : Int) ≤ ((a1.length : Nat) : Int) ∧ ((a1.length : Nat) : Int) ≤ ((a1.length : Nat) : Int) ∧ ((a1.length : Nat) : Int) * 32 ≤ 140737488355328 ∧ ((a1.length : Nat) : Int) ≤ 140737488355328) <|
 bd (lp (σ := List TreeBridge × Int) (β := ((List TreeBridge) × Nat)) (fun s5 =>
(if (decide (s5.2 < ((a0.length : Nat) : Int))) = true then
 gd ((0 : Int) ≤ s5.2 ∧ s5.2 < ((a0.length : Nat) : Int)) <|
 bd (impl_selfMind_m (a0.getD s5.2.toNat default)) fun x10 =>
 gd (((s5.1.length) + (([(⟨(a0.getD s5.2.toNat default), true, x10⟩ : TreeBridge)] : List TreeBridge).length)) * (48 + 1) ≤ 70368744177664) <|
 some (.inl ((s5.1 ++ ([(⟨(a0.getD s5.2.toNat default), true, x10⟩ : TreeBridge)] : List TreeBridge)), IntKind.i64.wrap (s5.2 + 1)))
else
 some (.inr (s5.1, s5.1.length)))) (([] : List TreeBridge), 0)) fun x8 =>
 bd (impl_TreeWorldOk_m (⟨x8.1, x2, [], (List.replicate (((a1.length : Nat) : Int) : Int).toNat (default : TreeSlot)), (List.replicate (((a1.length : Nat) : Int) : Int).toNat (default : TreeSlot)), []⟩ : TreeWorld)) fun x13 =>
(if (!x13) = true then
 some ((⟨[], [], [], [], [], []⟩ : TreeWorld), false)
else
 some ((⟨x8.1, x2, [], (List.replicate (((a1.length : Nat) : Int) : Int).toNat (default : TreeSlot)), (List.replicate (((a1.length : Nat) : Int) : Int).toNat (default : TreeSlot)), []⟩ : TreeWorld), true)))

theorem impl_TreeOpenWorld_c {a0 : (List Int)} {a1 : (List TreeLink)} {r : TreeWorld × Bool} (h : impl_TreeOpenWorld_m a0 a1 = some r) : PureC Try.prog 10 [.d (slD encInt a0), .d (slD TreeLink.enc a1)] (.tup [.agg [.osl 5001 0 r.1.Bridges.length, .osl 5002 0 r.1.Links.length, .osl 5003 0 r.1.Down.length, .osl 5004 0 r.1.AtA.length, .osl 5005 0 r.1.AtB.length, .osl 5006 0 r.1.Radio.length], .d (.bool r.2)]) [⟨5001, 74, 6, r.1.Bridges.length, rows TreeBridge.enc r.1.Bridges⟩, ⟨5002, 70, 3, r.1.Links.length, rows TreeLink.enc r.1.Links⟩, ⟨5003, 3, 1, r.1.Down.length, rows encInt r.1.Down⟩, ⟨5004, 112, 4, r.1.AtA.length, rows TreeSlot.enc r.1.AtA⟩, ⟨5005, 112, 4, r.1.AtB.length, rows TreeSlot.enc r.1.AtB⟩, ⟨5006, 78, 5, r.1.Radio.length, rows TreeWord.enc r.1.Radio⟩] := by
  refine pureC_m tOk (fn := Try.f10) (c := codeOf Try.f10) rfl rfl (by kernel_rfl) rfl rfl (by simp [atomD]) (by simp) (ids_of rfl) ?_
  unfold impl_TreeOpenWorld_m at h
  conv => whnf
  refine seq_in tOk ?_
  conv => whnf
  obtain ⟨x1, hx1, h⟩ := bd_some h
  refine callC 0 (impl_TreeLinksOk_c hx1) (by kernel_rfl) (by kernel_rfl) ?_
  clear hx1
  conv => whnf
  refine And.intro (fun e => ?_) (fun e => ?_)
  · replace h := ite_t h e; clear e
    conv => whnf
    obtain rfl := Option.some.inj h
    refine ⟨⟨0, 45, [(4, .ref 4 0 0), (5, .d (.bool false))], [], [(5006, .arr 78 5 (([] : List TreeWord).length) (rows TreeWord.enc ([] : List TreeWord))), (5005, .arr 112 4 (([] : List TreeSlot).length) (rows TreeSlot.enc ([] : List TreeSlot))), (5004, .arr 112 4 (([] : List TreeSlot).length) (rows TreeSlot.enc ([] : List TreeSlot))), (5003, .arr 3 1 (([] : List Int).length) (rows encInt ([] : List Int))), (5002, .arr 70 3 (([] : List TreeLink).length) (rows TreeLink.enc ([] : List TreeLink))), (5001, .arr 74 6 (([] : List TreeBridge).length) (rows TreeBridge.enc ([] : List TreeBridge))), (4, .box 31 [.osl 5001 0 (([] : List TreeBridge).length), .osl 5002 0 (([] : List TreeLink).length), .osl 5003 0 (([] : List Int).length), .osl 5004 0 (([] : List TreeSlot).length), .osl 5005 0 (([] : List TreeSlot).length), .osl 5006 0 (([] : List TreeWord).length)])], []⟩, ?_, And.intro rfl ?_⟩
    · refine LE.trans (S' := ⟨0, 45, [(4, .ref 4 0 0), (5, .d (.bool false))], [], [(4, .box 31 [.d (.nil), .d (.nil), .d (.nil), .d (.nil), .d (.nil), .d (.nil)])], []⟩) (le_mk ?_ ?_ ?_) (LE.trans (S' := ⟨0, 45, [(4, .ref 4 0 0), (5, .d (.bool false))], [], [(5001, .arr 74 6 (([] : List TreeBridge).length) (rows TreeBridge.enc ([] : List TreeBridge))), (4, .box 31 [.d (.nil), .d (.nil), .d (.nil), .d (.nil), .d (.nil), .d (.nil)])], []⟩) (le_ph 5001 74 6 (rows TreeBridge.enc ([] : List TreeBridge)) rfl rfl) (LE.trans (S' := ⟨0, 45, [(4, .ref 4 0 0), (5, .d (.bool false))], [], [(5001, .arr 74 6 (([] : List TreeBridge).length) (rows TreeBridge.enc ([] : List TreeBridge))), (4, .box 31 [.osl 5001 0 (([] : List TreeBridge).length), .d (.nil), .d (.nil), .d (.nil), .d (.nil), .d (.nil)])], []⟩) (le_mk ?_ ?_ ?_) (LE.trans (S' := ⟨0, 45, [(4, .ref 4 0 0), (5, .d (.bool false))], [], [(5002, .arr 70 3 (([] : List TreeLink).length) (rows TreeLink.enc ([] : List TreeLink))), (5001, .arr 74 6 (([] : List TreeBridge).length) (rows TreeBridge.enc ([] : List TreeBridge))), (4, .box 31 [.osl 5001 0 (([] : List TreeBridge).length), .d (.nil), .d (.nil), .d (.nil), .d (.nil), .d (.nil)])], []⟩) (le_ph 5002 70 3 (rows TreeLink.enc ([] : List TreeLink)) rfl rfl) (LE.trans (S' := ⟨0, 45, [(4, .ref 4 0 0), (5, .d (.bool false))], [], [(5002, .arr 70 3 (([] : List TreeLink).length) (rows TreeLink.enc ([] : List TreeLink))), (5001, .arr 74 6 (([] : List TreeBridge).length) (rows TreeBridge.enc ([] : List TreeBridge))), (4, .box 31 [.osl 5001 0 (([] : List TreeBridge).length), .osl 5002 0 (([] : List TreeLink).length), .d (.nil), .d (.nil), .d (.nil), .d (.nil)])], []⟩) (le_mk ?_ ?_ ?_) (LE.trans (S' := ⟨0, 45, [(4, .ref 4 0 0), (5, .d (.bool false))], [], [(5003, .arr 3 1 (([] : List Int).length) (rows encInt ([] : List Int))), (5002, .arr 70 3 (([] : List TreeLink).length) (rows TreeLink.enc ([] : List TreeLink))), (5001, .arr 74 6 (([] : List TreeBridge).length) (rows TreeBridge.enc ([] : List TreeBridge))), (4, .box 31 [.osl 5001 0 (([] : List TreeBridge).length), .osl 5002 0 (([] : List TreeLink).length), .d (.nil), .d (.nil), .d (.nil), .d (.nil)])], []⟩) (le_ph 5003 3 1 (rows encInt ([] : List Int)) rfl rfl) (LE.trans (S' := ⟨0, 45, [(4, .ref 4 0 0), (5, .d (.bool false))], [], [(5003, .arr 3 1 (([] : List Int).length) (rows encInt ([] : List Int))), (5002, .arr 70 3 (([] : List TreeLink).length) (rows TreeLink.enc ([] : List TreeLink))), (5001, .arr 74 6 (([] : List TreeBridge).length) (rows TreeBridge.enc ([] : List TreeBridge))), (4, .box 31 [.osl 5001 0 (([] : List TreeBridge).length), .osl 5002 0 (([] : List TreeLink).length), .osl 5003 0 (([] : List Int).length), .d (.nil), .d (.nil), .d (.nil)])], []⟩) (le_mk ?_ ?_ ?_) (LE.trans (S' := ⟨0, 45, [(4, .ref 4 0 0), (5, .d (.bool false))], [], [(5004, .arr 112 4 (([] : List TreeSlot).length) (rows TreeSlot.enc ([] : List TreeSlot))), (5003, .arr 3 1 (([] : List Int).length) (rows encInt ([] : List Int))), (5002, .arr 70 3 (([] : List TreeLink).length) (rows TreeLink.enc ([] : List TreeLink))), (5001, .arr 74 6 (([] : List TreeBridge).length) (rows TreeBridge.enc ([] : List TreeBridge))), (4, .box 31 [.osl 5001 0 (([] : List TreeBridge).length), .osl 5002 0 (([] : List TreeLink).length), .osl 5003 0 (([] : List Int).length), .d (.nil), .d (.nil), .d (.nil)])], []⟩) (le_ph 5004 112 4 (rows TreeSlot.enc ([] : List TreeSlot)) rfl rfl) (LE.trans (S' := ⟨0, 45, [(4, .ref 4 0 0), (5, .d (.bool false))], [], [(5004, .arr 112 4 (([] : List TreeSlot).length) (rows TreeSlot.enc ([] : List TreeSlot))), (5003, .arr 3 1 (([] : List Int).length) (rows encInt ([] : List Int))), (5002, .arr 70 3 (([] : List TreeLink).length) (rows TreeLink.enc ([] : List TreeLink))), (5001, .arr 74 6 (([] : List TreeBridge).length) (rows TreeBridge.enc ([] : List TreeBridge))), (4, .box 31 [.osl 5001 0 (([] : List TreeBridge).length), .osl 5002 0 (([] : List TreeLink).length), .osl 5003 0 (([] : List Int).length), .osl 5004 0 (([] : List TreeSlot).length), .d (.nil), .d (.nil)])], []⟩) (le_mk ?_ ?_ ?_) (LE.trans (S' := ⟨0, 45, [(4, .ref 4 0 0), (5, .d (.bool false))], [], [(5005, .arr 112 4 (([] : List TreeSlot).length) (rows TreeSlot.enc ([] : List TreeSlot))), (5004, .arr 112 4 (([] : List TreeSlot).length) (rows TreeSlot.enc ([] : List TreeSlot))), (5003, .arr 3 1 (([] : List Int).length) (rows encInt ([] : List Int))), (5002, .arr 70 3 (([] : List TreeLink).length) (rows TreeLink.enc ([] : List TreeLink))), (5001, .arr 74 6 (([] : List TreeBridge).length) (rows TreeBridge.enc ([] : List TreeBridge))), (4, .box 31 [.osl 5001 0 (([] : List TreeBridge).length), .osl 5002 0 (([] : List TreeLink).length), .osl 5003 0 (([] : List Int).length), .osl 5004 0 (([] : List TreeSlot).length), .d (.nil), .d (.nil)])], []⟩) (le_ph 5005 112 4 (rows TreeSlot.enc ([] : List TreeSlot)) rfl rfl) (LE.trans (S' := ⟨0, 45, [(4, .ref 4 0 0), (5, .d (.bool false))], [], [(5005, .arr 112 4 (([] : List TreeSlot).length) (rows TreeSlot.enc ([] : List TreeSlot))), (5004, .arr 112 4 (([] : List TreeSlot).length) (rows TreeSlot.enc ([] : List TreeSlot))), (5003, .arr 3 1 (([] : List Int).length) (rows encInt ([] : List Int))), (5002, .arr 70 3 (([] : List TreeLink).length) (rows TreeLink.enc ([] : List TreeLink))), (5001, .arr 74 6 (([] : List TreeBridge).length) (rows TreeBridge.enc ([] : List TreeBridge))), (4, .box 31 [.osl 5001 0 (([] : List TreeBridge).length), .osl 5002 0 (([] : List TreeLink).length), .osl 5003 0 (([] : List Int).length), .osl 5004 0 (([] : List TreeSlot).length), .osl 5005 0 (([] : List TreeSlot).length), .d (.nil)])], []⟩) (le_mk ?_ ?_ ?_) (LE.trans (S' := ⟨0, 45, [(4, .ref 4 0 0), (5, .d (.bool false))], [], [(5006, .arr 78 5 (([] : List TreeWord).length) (rows TreeWord.enc ([] : List TreeWord))), (5005, .arr 112 4 (([] : List TreeSlot).length) (rows TreeSlot.enc ([] : List TreeSlot))), (5004, .arr 112 4 (([] : List TreeSlot).length) (rows TreeSlot.enc ([] : List TreeSlot))), (5003, .arr 3 1 (([] : List Int).length) (rows encInt ([] : List Int))), (5002, .arr 70 3 (([] : List TreeLink).length) (rows TreeLink.enc ([] : List TreeLink))), (5001, .arr 74 6 (([] : List TreeBridge).length) (rows TreeBridge.enc ([] : List TreeBridge))), (4, .box 31 [.osl 5001 0 (([] : List TreeBridge).length), .osl 5002 0 (([] : List TreeLink).length), .osl 5003 0 (([] : List Int).length), .osl 5004 0 (([] : List TreeSlot).length), .osl 5005 0 (([] : List TreeSlot).length), .d (.nil)])], []⟩) (le_ph 5006 78 5 (rows TreeWord.enc ([] : List TreeWord)) rfl rfl) (le_mk ?_ ?_ ?_)))))))))))) <;> (repeat' first | ((conv => whnf); first | exact trivial | refine And.intro ?_ ?_ | exact BLe.refl _ | exact VLe.refl _) | exact trivial | exact rfl | refine And.intro ?_ ?_ | exact BLe.refl _ | exact VLe.refl _ | exact VLe.any _ | exact VLe.nil_osl rfl | exact VLe.nil_sl rfl | exact VLe.built rfl rfl | (refine VLe.osl rfl ?_; (first | rfl | (simp; done) | assumption | (simp [dsub_eq] <;> omega) | omega)) | exact VLe.rows (by first | rfl | (simp; done) | assumption | (simp [dsub_eq] <;> omega) | omega) (fun _ _ => rfl) | exact VLe.rows (by simp [dsub_eq] <;> omega) rows_take | exact VLe.rows (by simp [dsub_eq] <;> omega) rows_dt | exact VLe.rows (by simp [dsub_eq] <;> omega) rows_vt | exact VLe.rows (by simp) (fun i _ => by simp [viewRow_eq, Nat.add_comm]) | refine VLe.aggL ?_ | (refine BLe.rows rfl ?_ fun _ _ => rfl; (first | rfl | (simp; done) | assumption | (simp [dsub_eq] <;> omega) | omega)) | (refine BLe.rows rfl rfl ?_; first | exact rows_take) | refine BLe.box ?_)
    · exact And.intro (And.intro rfl (And.intro rfl (fun _ _ => rfl))) (And.intro (And.intro rfl (And.intro rfl (fun _ _ => rfl))) (And.intro (And.intro rfl (And.intro rfl (fun _ _ => rfl))) (And.intro (And.intro rfl (And.intro rfl (fun _ _ => rfl))) (And.intro (And.intro rfl (And.intro rfl (fun _ _ => rfl))) (And.intro (And.intro rfl (And.intro rfl (fun _ _ => rfl))) (trivial))))))
  · replace h := ite_f h e; clear e
    conv => whnf
    obtain ⟨x2, hx2, h⟩ := bd_some h
    obtain ⟨g3, h⟩ := gd_some h
    obtain ⟨g4, h⟩ := gd_some h
    refine draw_k tOk (by kernel_rfl) (fun j => match j with | 1 => some (.pure 1000 (.osl 5001 0 x2.length) [⟨5001, 70, 3, x2.length, rows TreeLink.enc x2⟩]) | _ => none) 10 [] [[], [true], [], [false, false, true], [false, false, true, true], [], [false, false, false, false, false, true], [false, false, false, false, false, true, true], [true, true, true, true, true, true, true, true], []] [[true, true, true, true, true, true, true, true, true, true]] (by decide) (by kernel_rfl) (by kernel_rfl) ?_
    conv => whnf
    refine And.intro (callD_any (impl_clone_TreeLink_c hx2) (by kernel_rfl)) ?_
    conv => whnf
    refine And.intro g3 ?_
    clear g3
    refine ⟨(List.replicate (((a1.length : Nat) : Int) : Int).toNat (default : TreeSlot)).length, rows TreeSlot.enc (List.replicate (((a1.length : Nat) : Int) : Int).toNat (default : TreeSlot)), by simp, make_rows rfl, ?_⟩
    conv => whnf
    refine And.intro g4 ?_
    clear g4
    refine ⟨(List.replicate (((a1.length : Nat) : Int) : Int).toNat (default : TreeSlot)).length, rows TreeSlot.enc (List.replicate (((a1.length : Nat) : Int) : Int).toNat (default : TreeSlot)), by simp, make_rows rfl, ?_⟩
    conv => whnf
    refine And.intro (by kernel_rfl) ?_
    conv => whnf
    refine seq_in tOk ?_
    conv => whnf
    obtain ⟨x8, hx8, h⟩ := bd_some h
    refine loop_m tOk hx8 (fun s5 => ⟨0, 45, [(4, .ref 4 0 0), (6, .ref 6 0 0), (24, .d (slD encInt a0)), (25, .d (.int .i64 ((a0.length : Nat) : Int))), (26, .d (.int .i64 s5.2))], [], [(7001, .arr 74 6 s5.1.length (rows TreeBridge.enc s5.1)), (6, .box 31 [.osl 7001 0 s5.1.length, .osl 6001 0 x2.length, .d (.nil), .osl 19 0 ((List.replicate (((a1.length : Nat) : Int) : Int).toNat (default : TreeSlot)).length), .osl 22 0 ((List.replicate (((a1.length : Nat) : Int) : Int).toNat (default : TreeSlot)).length), .d (.nil)]), (22, .arr 112 4 ((List.replicate (((a1.length : Nat) : Int) : Int).toNat (default : TreeSlot)).length) (rows TreeSlot.enc (List.replicate (((a1.length : Nat) : Int) : Int).toNat (default : TreeSlot)))), (19, .arr 112 4 ((List.replicate (((a1.length : Nat) : Int) : Int).toNat (default : TreeSlot)).length) (rows TreeSlot.enc (List.replicate (((a1.length : Nat) : Int) : Int).toNat (default : TreeSlot)))), (6001, .arr 70 3 x2.length (rows TreeLink.enc x2)), (4, .box 31 [.d (.nil), .d (.nil), .d (.nil), .d (.nil), .d (.nil), .d (.nil)])], []⟩) ?_ ?_
    · refine LE.trans (S' := ⟨0, 45, [(4, .ref 4 0 0), (6, .ref 6 0 0), (24, .d (slD encInt a0)), (25, .d (.int .i64 ((a0.length : Nat) : Int))), (26, .d (.int .i64 0))], [], [(6, .box 31 [.d (.nil), .osl 6001 0 x2.length, .d (.nil), .osl 19 0 ((List.replicate (((a1.length : Nat) : Int) : Int).toNat (default : TreeSlot)).length), .osl 22 0 ((List.replicate (((a1.length : Nat) : Int) : Int).toNat (default : TreeSlot)).length), .d (.nil)]), (22, .arr 112 4 ((List.replicate (((a1.length : Nat) : Int) : Int).toNat (default : TreeSlot)).length) (rows TreeSlot.enc (List.replicate (((a1.length : Nat) : Int) : Int).toNat (default : TreeSlot)))), (19, .arr 112 4 ((List.replicate (((a1.length : Nat) : Int) : Int).toNat (default : TreeSlot)).length) (rows TreeSlot.enc (List.replicate (((a1.length : Nat) : Int) : Int).toNat (default : TreeSlot)))), (6001, .arr 70 3 x2.length (rows TreeLink.enc x2)), (4, .box 31 [.d (.nil), .d (.nil), .d (.nil), .d (.nil), .d (.nil), .d (.nil)])], []⟩) (le_mk ?_ ?_ ?_) (LE.trans (S' := ⟨0, 45, [(4, .ref 4 0 0), (6, .ref 6 0 0), (24, .d (slD encInt a0)), (25, .d (.int .i64 ((a0.length : Nat) : Int))), (26, .d (.int .i64 0))], [], [(7001, .arr 74 6 (([] : List TreeBridge).length) (rows TreeBridge.enc ([] : List TreeBridge))), (6, .box 31 [.d (.nil), .osl 6001 0 x2.length, .d (.nil), .osl 19 0 ((List.replicate (((a1.length : Nat) : Int) : Int).toNat (default : TreeSlot)).length), .osl 22 0 ((List.replicate (((a1.length : Nat) : Int) : Int).toNat (default : TreeSlot)).length), .d (.nil)]), (22, .arr 112 4 ((List.replicate (((a1.length : Nat) : Int) : Int).toNat (default : TreeSlot)).length) (rows TreeSlot.enc (List.replicate (((a1.length : Nat) : Int) : Int).toNat (default : TreeSlot)))), (19, .arr 112 4 ((List.replicate (((a1.length : Nat) : Int) : Int).toNat (default : TreeSlot)).length) (rows TreeSlot.enc (List.replicate (((a1.length : Nat) : Int) : Int).toNat (default : TreeSlot)))), (6001, .arr 70 3 x2.length (rows TreeLink.enc x2)), (4, .box 31 [.d (.nil), .d (.nil), .d (.nil), .d (.nil), .d (.nil), .d (.nil)])], []⟩) (le_ph 7001 74 6 (rows TreeBridge.enc ([] : List TreeBridge)) rfl rfl) (le_mk ?_ ?_ ?_)) <;> (repeat' first | ((conv => whnf); first | exact trivial | refine And.intro ?_ ?_ | exact BLe.refl _ | exact VLe.refl _) | exact trivial | exact rfl | refine And.intro ?_ ?_ | exact BLe.refl _ | exact VLe.refl _ | exact VLe.any _ | exact VLe.nil_osl rfl | exact VLe.nil_sl rfl | exact VLe.built rfl rfl | (refine VLe.osl rfl ?_; (first | rfl | (simp; done) | assumption | (simp [dsub_eq] <;> omega) | omega)) | exact VLe.rows (by first | rfl | (simp; done) | assumption | (simp [dsub_eq] <;> omega) | omega) (fun _ _ => rfl) | exact VLe.rows (by simp [dsub_eq] <;> omega) rows_take | exact VLe.rows (by simp [dsub_eq] <;> omega) rows_dt | exact VLe.rows (by simp [dsub_eq] <;> omega) rows_vt | exact VLe.rows (by simp) (fun i _ => by simp [viewRow_eq, Nat.add_comm]) | refine VLe.aggL ?_ | (refine BLe.rows rfl ?_ fun _ _ => rfl; (first | rfl | (simp; done) | assumption | (simp [dsub_eq] <;> omega) | omega)) | (refine BLe.rows rfl rfl ?_; first | exact rows_take) | refine BLe.box ?_)
    · clear hx8
      intro s5 y6 g7 hy6
      conv => whnf
      refine seq_in tOk ?_
      conv => whnf
      refine And.intro (fun e => ?_) (fun e => ?_)
      · replace g7 := ite_t g7 e; clear e
        conv => whnf
        refine seq_in tOk ?_
        conv => whnf
        obtain ⟨g9, g7⟩ := gd_some g7
        refine And.intro g9 ?_
        clear g9
        conv => whnf
        obtain ⟨x10, hx10, g7⟩ := bd_some g7
        refine draw_k tOk (by kernel_rfl) (fun j => match j with | 4 => some (.pure 0 (.agg [.d (.int .i64 x10.Vector.Root), .d (.int .i64 x10.Vector.Cost), .d (.int .i64 x10.Vector.Age), .d (.int .i64 x10.Link)]) []) | _ => none) 7 [] [[], [true], [], [], [false, false, false, true], [false, false, true, true, true], [false, false, true, true, true, true]] [[true, true, true, true, true, true, true], [true, true, true, true, true, true, true, true], [true, true, true, true, true, true, true, true, true]] (by decide) (by kernel_rfl) (by kernel_rfl) ?_
        conv => whnf
        refine And.intro (callD_any (impl_selfMind_c hx10) (by kernel_rfl)) ?_
        conv => whnf
        refine ⟨([(⟨(a0.getD s5.2.toNat default), true, x10⟩ : TreeBridge)] : List TreeBridge).length, rows TreeBridge.enc ([(⟨(a0.getD s5.2.toNat default), true, x10⟩ : TreeBridge)] : List TreeBridge), rfl, build_rows, ?_⟩
        conv => whnf
        refine And.intro (by kernel_rfl) ?_
        conv => whnf
        obtain ⟨g11, g7⟩ := gd_some g7
        refine And.intro g11 ?_
        clear g11
        refine ⟨(s5.1 ++ ([(⟨(a0.getD s5.2.toNat default), true, x10⟩ : TreeBridge)] : List TreeBridge)).length, rows TreeBridge.enc (s5.1 ++ ([(⟨(a0.getD s5.2.toNat default), true, x10⟩ : TreeBridge)] : List TreeBridge)), (by first | rfl | (simp; done) | assumption | (simp [dsub_eq] <;> omega) | omega), (by first | exact app_rows (m := ([(⟨(a0.getD s5.2.toNat default), true, x10⟩ : TreeBridge)] : List TreeBridge).length) (by first | rfl | (simp; done) | assumption | (simp [dsub_eq] <;> omega) | omega) (by first | rfl | (simp; done) | assumption | (simp [dsub_eq] <;> omega) | omega) (fun _ _ => rfl) (fun _ _ => rfl) | exact app_rows0 (m := ([(⟨(a0.getD s5.2.toNat default), true, x10⟩ : TreeBridge)] : List TreeBridge).length) (by first | rfl | (simp; done) | assumption | (simp [dsub_eq] <;> omega) | omega) (fun _ _ => rfl) | exact app_rows (m := ([(⟨(a0.getD s5.2.toNat default), true, x10⟩ : TreeBridge)] : List TreeBridge).length) (by first | rfl | (simp; done) | assumption | (simp [dsub_eq] <;> omega) | omega) (by first | rfl | (simp; done) | assumption | (simp [dsub_eq] <;> omega) | omega) (by first | exact fun _ _ => rfl | exact rows_take | exact rows_vt | exact rows_dt | (intro i hi; simp only [viewRow_eq, Nat.zero_add]) | (intro i hi; simp [viewRow_eq])) (by first | exact fun _ _ => rfl | exact rows_take | exact rows_vt | exact rows_dt | (intro i hi; simp only [viewRow_eq, Nat.zero_add]) | (intro i hi; simp [viewRow_eq])) | exact app_rows0 (m := ([(⟨(a0.getD s5.2.toNat default), true, x10⟩ : TreeBridge)] : List TreeBridge).length) (by first | rfl | (simp; done) | assumption | (simp [dsub_eq] <;> omega) | omega) (by first | exact fun _ _ => rfl | exact rows_take | exact rows_vt | exact rows_dt | (intro i hi; simp only [viewRow_eq, Nat.zero_add]) | (intro i hi; simp [viewRow_eq]))), ?_⟩
        conv => whnf
        obtain rfl := Option.some.inj g7
        refine ⟨_, rfl, le_mk ?_ ?_ ?_⟩ <;> (repeat' first | ((conv => whnf); first | exact trivial | refine And.intro ?_ ?_ | exact BLe.refl _ | exact VLe.refl _) | exact trivial | exact rfl | refine And.intro ?_ ?_ | exact BLe.refl _ | exact VLe.refl _ | exact VLe.any _ | exact VLe.nil_osl rfl | exact VLe.nil_sl rfl | exact VLe.built rfl rfl | (refine VLe.osl rfl ?_; (first | rfl | (simp; done) | assumption | (simp [dsub_eq] <;> omega) | omega)) | exact VLe.rows (by first | rfl | (simp; done) | assumption | (simp [dsub_eq] <;> omega) | omega) (fun _ _ => rfl) | exact VLe.rows (by simp [dsub_eq] <;> omega) rows_take | exact VLe.rows (by simp [dsub_eq] <;> omega) rows_dt | exact VLe.rows (by simp [dsub_eq] <;> omega) rows_vt | exact VLe.rows (by simp) (fun i _ => by simp [viewRow_eq, Nat.add_comm]) | refine VLe.aggL ?_ | (refine BLe.rows rfl ?_ fun _ _ => rfl; (first | rfl | (simp; done) | assumption | (simp [dsub_eq] <;> omega) | omega)) | (refine BLe.rows rfl rfl ?_; first | exact rows_take) | refine BLe.box ?_)
      · replace g7 := ite_f g7 e; clear e
        conv => whnf
        obtain rfl := Option.some.inj g7
        obtain rfl := hy6 _ rfl
        refine seq_in tOk ?_
        conv => whnf
        obtain ⟨x13, hx13, h⟩ := bd_some h
        refine callW (args1 := [.agg [.d (.sl (s5.1, s5.1.length).2 (rows TreeBridge.enc (s5.1, s5.1.length).1)), .d (slD TreeLink.enc x2), .d (.nil), .d (slD TreeSlot.enc (List.replicate (((a1.length : Nat) : Int) : Int).toNat (default : TreeSlot))), .d (slD TreeSlot.enc (List.replicate (((a1.length : Nat) : Int) : Int).toNat (default : TreeSlot))), .d (.nil)]]) 0 (impl_TreeWorldOk_c hx13) (by kernel_rfl) (by (repeat' first | ((conv => whnf); first | exact trivial | refine And.intro ?_ ?_ | exact BLe.refl _ | exact VLe.refl _) | exact trivial | refine And.intro ?_ ?_ | exact VLe.refl _ | exact VLe.any _ | exact VLe.nil_osl rfl | exact VLe.nil_sl rfl | exact VLe.built rfl rfl | (refine VLe.osl rfl ?_; (first | rfl | (simp; done) | assumption | (simp [dsub_eq] <;> omega) | omega)) | exact VLe.rows (by first | rfl | (simp; done) | assumption | (simp [dsub_eq] <;> omega) | omega) (fun _ _ => rfl) | exact VLe.rows (by simp [dsub_eq] <;> omega) rows_take | exact VLe.rows (by simp [dsub_eq] <;> omega) rows_dt | exact VLe.rows (by simp [dsub_eq] <;> omega) rows_vt | exact VLe.rows (by simp) (fun i _ => by simp [viewRow_eq, Nat.add_comm]) | refine VLe.aggL ?_)) (by kernel_rfl) ?_
        conv => whnf
        refine And.intro (fun e => ?_) (fun e => ?_)
        · replace h := ite_t h e; clear e
          conv => whnf
          obtain rfl := Option.some.inj h
          refine ⟨⟨0, 45, [(4, .ref 4 0 0), (5, .d (.bool false))], [], [(5006, .arr 78 5 (([] : List TreeWord).length) (rows TreeWord.enc ([] : List TreeWord))), (5005, .arr 112 4 (([] : List TreeSlot).length) (rows TreeSlot.enc ([] : List TreeSlot))), (5004, .arr 112 4 (([] : List TreeSlot).length) (rows TreeSlot.enc ([] : List TreeSlot))), (5003, .arr 3 1 (([] : List Int).length) (rows encInt ([] : List Int))), (5002, .arr 70 3 (([] : List TreeLink).length) (rows TreeLink.enc ([] : List TreeLink))), (5001, .arr 74 6 (([] : List TreeBridge).length) (rows TreeBridge.enc ([] : List TreeBridge))), (4, .box 31 [.osl 5001 0 (([] : List TreeBridge).length), .osl 5002 0 (([] : List TreeLink).length), .osl 5003 0 (([] : List Int).length), .osl 5004 0 (([] : List TreeSlot).length), .osl 5005 0 (([] : List TreeSlot).length), .osl 5006 0 (([] : List TreeWord).length)])], []⟩, ?_, And.intro rfl ?_⟩
          · refine LE.trans (S' := ⟨0, 45, [(4, .ref 4 0 0), (5, .d (.bool false))], [], [(4, .box 31 [.d (.nil), .d (.nil), .d (.nil), .d (.nil), .d (.nil), .d (.nil)])], []⟩) (le_mk ?_ ?_ ?_) (LE.trans (S' := ⟨0, 45, [(4, .ref 4 0 0), (5, .d (.bool false))], [], [(5001, .arr 74 6 (([] : List TreeBridge).length) (rows TreeBridge.enc ([] : List TreeBridge))), (4, .box 31 [.d (.nil), .d (.nil), .d (.nil), .d (.nil), .d (.nil), .d (.nil)])], []⟩) (le_ph 5001 74 6 (rows TreeBridge.enc ([] : List TreeBridge)) rfl rfl) (LE.trans (S' := ⟨0, 45, [(4, .ref 4 0 0), (5, .d (.bool false))], [], [(5001, .arr 74 6 (([] : List TreeBridge).length) (rows TreeBridge.enc ([] : List TreeBridge))), (4, .box 31 [.osl 5001 0 (([] : List TreeBridge).length), .d (.nil), .d (.nil), .d (.nil), .d (.nil), .d (.nil)])], []⟩) (le_mk ?_ ?_ ?_) (LE.trans (S' := ⟨0, 45, [(4, .ref 4 0 0), (5, .d (.bool false))], [], [(5002, .arr 70 3 (([] : List TreeLink).length) (rows TreeLink.enc ([] : List TreeLink))), (5001, .arr 74 6 (([] : List TreeBridge).length) (rows TreeBridge.enc ([] : List TreeBridge))), (4, .box 31 [.osl 5001 0 (([] : List TreeBridge).length), .d (.nil), .d (.nil), .d (.nil), .d (.nil), .d (.nil)])], []⟩) (le_ph 5002 70 3 (rows TreeLink.enc ([] : List TreeLink)) rfl rfl) (LE.trans (S' := ⟨0, 45, [(4, .ref 4 0 0), (5, .d (.bool false))], [], [(5002, .arr 70 3 (([] : List TreeLink).length) (rows TreeLink.enc ([] : List TreeLink))), (5001, .arr 74 6 (([] : List TreeBridge).length) (rows TreeBridge.enc ([] : List TreeBridge))), (4, .box 31 [.osl 5001 0 (([] : List TreeBridge).length), .osl 5002 0 (([] : List TreeLink).length), .d (.nil), .d (.nil), .d (.nil), .d (.nil)])], []⟩) (le_mk ?_ ?_ ?_) (LE.trans (S' := ⟨0, 45, [(4, .ref 4 0 0), (5, .d (.bool false))], [], [(5003, .arr 3 1 (([] : List Int).length) (rows encInt ([] : List Int))), (5002, .arr 70 3 (([] : List TreeLink).length) (rows TreeLink.enc ([] : List TreeLink))), (5001, .arr 74 6 (([] : List TreeBridge).length) (rows TreeBridge.enc ([] : List TreeBridge))), (4, .box 31 [.osl 5001 0 (([] : List TreeBridge).length), .osl 5002 0 (([] : List TreeLink).length), .d (.nil), .d (.nil), .d (.nil), .d (.nil)])], []⟩) (le_ph 5003 3 1 (rows encInt ([] : List Int)) rfl rfl) (LE.trans (S' := ⟨0, 45, [(4, .ref 4 0 0), (5, .d (.bool false))], [], [(5003, .arr 3 1 (([] : List Int).length) (rows encInt ([] : List Int))), (5002, .arr 70 3 (([] : List TreeLink).length) (rows TreeLink.enc ([] : List TreeLink))), (5001, .arr 74 6 (([] : List TreeBridge).length) (rows TreeBridge.enc ([] : List TreeBridge))), (4, .box 31 [.osl 5001 0 (([] : List TreeBridge).length), .osl 5002 0 (([] : List TreeLink).length), .osl 5003 0 (([] : List Int).length), .d (.nil), .d (.nil), .d (.nil)])], []⟩) (le_mk ?_ ?_ ?_) (LE.trans (S' := ⟨0, 45, [(4, .ref 4 0 0), (5, .d (.bool false))], [], [(5004, .arr 112 4 (([] : List TreeSlot).length) (rows TreeSlot.enc ([] : List TreeSlot))), (5003, .arr 3 1 (([] : List Int).length) (rows encInt ([] : List Int))), (5002, .arr 70 3 (([] : List TreeLink).length) (rows TreeLink.enc ([] : List TreeLink))), (5001, .arr 74 6 (([] : List TreeBridge).length) (rows TreeBridge.enc ([] : List TreeBridge))), (4, .box 31 [.osl 5001 0 (([] : List TreeBridge).length), .osl 5002 0 (([] : List TreeLink).length), .osl 5003 0 (([] : List Int).length), .d (.nil), .d (.nil), .d (.nil)])], []⟩) (le_ph 5004 112 4 (rows TreeSlot.enc ([] : List TreeSlot)) rfl rfl) (LE.trans (S' := ⟨0, 45, [(4, .ref 4 0 0), (5, .d (.bool false))], [], [(5004, .arr 112 4 (([] : List TreeSlot).length) (rows TreeSlot.enc ([] : List TreeSlot))), (5003, .arr 3 1 (([] : List Int).length) (rows encInt ([] : List Int))), (5002, .arr 70 3 (([] : List TreeLink).length) (rows TreeLink.enc ([] : List TreeLink))), (5001, .arr 74 6 (([] : List TreeBridge).length) (rows TreeBridge.enc ([] : List TreeBridge))), (4, .box 31 [.osl 5001 0 (([] : List TreeBridge).length), .osl 5002 0 (([] : List TreeLink).length), .osl 5003 0 (([] : List Int).length), .osl 5004 0 (([] : List TreeSlot).length), .d (.nil), .d (.nil)])], []⟩) (le_mk ?_ ?_ ?_) (LE.trans (S' := ⟨0, 45, [(4, .ref 4 0 0), (5, .d (.bool false))], [], [(5005, .arr 112 4 (([] : List TreeSlot).length) (rows TreeSlot.enc ([] : List TreeSlot))), (5004, .arr 112 4 (([] : List TreeSlot).length) (rows TreeSlot.enc ([] : List TreeSlot))), (5003, .arr 3 1 (([] : List Int).length) (rows encInt ([] : List Int))), (5002, .arr 70 3 (([] : List TreeLink).length) (rows TreeLink.enc ([] : List TreeLink))), (5001, .arr 74 6 (([] : List TreeBridge).length) (rows TreeBridge.enc ([] : List TreeBridge))), (4, .box 31 [.osl 5001 0 (([] : List TreeBridge).length), .osl 5002 0 (([] : List TreeLink).length), .osl 5003 0 (([] : List Int).length), .osl 5004 0 (([] : List TreeSlot).length), .d (.nil), .d (.nil)])], []⟩) (le_ph 5005 112 4 (rows TreeSlot.enc ([] : List TreeSlot)) rfl rfl) (LE.trans (S' := ⟨0, 45, [(4, .ref 4 0 0), (5, .d (.bool false))], [], [(5005, .arr 112 4 (([] : List TreeSlot).length) (rows TreeSlot.enc ([] : List TreeSlot))), (5004, .arr 112 4 (([] : List TreeSlot).length) (rows TreeSlot.enc ([] : List TreeSlot))), (5003, .arr 3 1 (([] : List Int).length) (rows encInt ([] : List Int))), (5002, .arr 70 3 (([] : List TreeLink).length) (rows TreeLink.enc ([] : List TreeLink))), (5001, .arr 74 6 (([] : List TreeBridge).length) (rows TreeBridge.enc ([] : List TreeBridge))), (4, .box 31 [.osl 5001 0 (([] : List TreeBridge).length), .osl 5002 0 (([] : List TreeLink).length), .osl 5003 0 (([] : List Int).length), .osl 5004 0 (([] : List TreeSlot).length), .osl 5005 0 (([] : List TreeSlot).length), .d (.nil)])], []⟩) (le_mk ?_ ?_ ?_) (LE.trans (S' := ⟨0, 45, [(4, .ref 4 0 0), (5, .d (.bool false))], [], [(5006, .arr 78 5 (([] : List TreeWord).length) (rows TreeWord.enc ([] : List TreeWord))), (5005, .arr 112 4 (([] : List TreeSlot).length) (rows TreeSlot.enc ([] : List TreeSlot))), (5004, .arr 112 4 (([] : List TreeSlot).length) (rows TreeSlot.enc ([] : List TreeSlot))), (5003, .arr 3 1 (([] : List Int).length) (rows encInt ([] : List Int))), (5002, .arr 70 3 (([] : List TreeLink).length) (rows TreeLink.enc ([] : List TreeLink))), (5001, .arr 74 6 (([] : List TreeBridge).length) (rows TreeBridge.enc ([] : List TreeBridge))), (4, .box 31 [.osl 5001 0 (([] : List TreeBridge).length), .osl 5002 0 (([] : List TreeLink).length), .osl 5003 0 (([] : List Int).length), .osl 5004 0 (([] : List TreeSlot).length), .osl 5005 0 (([] : List TreeSlot).length), .d (.nil)])], []⟩) (le_ph 5006 78 5 (rows TreeWord.enc ([] : List TreeWord)) rfl rfl) (le_mk ?_ ?_ ?_)))))))))))) <;> (repeat' first | ((conv => whnf); first | exact trivial | refine And.intro ?_ ?_ | exact BLe.refl _ | exact VLe.refl _) | exact trivial | exact rfl | refine And.intro ?_ ?_ | exact BLe.refl _ | exact VLe.refl _ | exact VLe.any _ | exact VLe.nil_osl rfl | exact VLe.nil_sl rfl | exact VLe.built rfl rfl | (refine VLe.osl rfl ?_; (first | rfl | (simp; done) | assumption | (simp [dsub_eq] <;> omega) | omega)) | exact VLe.rows (by first | rfl | (simp; done) | assumption | (simp [dsub_eq] <;> omega) | omega) (fun _ _ => rfl) | exact VLe.rows (by simp [dsub_eq] <;> omega) rows_take | exact VLe.rows (by simp [dsub_eq] <;> omega) rows_dt | exact VLe.rows (by simp [dsub_eq] <;> omega) rows_vt | exact VLe.rows (by simp) (fun i _ => by simp [viewRow_eq, Nat.add_comm]) | refine VLe.aggL ?_ | (refine BLe.rows rfl ?_ fun _ _ => rfl; (first | rfl | (simp; done) | assumption | (simp [dsub_eq] <;> omega) | omega)) | (refine BLe.rows rfl rfl ?_; first | exact rows_take) | refine BLe.box ?_)
          · exact And.intro (And.intro rfl (And.intro rfl (fun _ _ => rfl))) (And.intro (And.intro rfl (And.intro rfl (fun _ _ => rfl))) (And.intro (And.intro rfl (And.intro rfl (fun _ _ => rfl))) (And.intro (And.intro rfl (And.intro rfl (fun _ _ => rfl))) (And.intro (And.intro rfl (And.intro rfl (fun _ _ => rfl))) (And.intro (And.intro rfl (And.intro rfl (fun _ _ => rfl))) (trivial))))))
        · replace h := ite_f h e; clear e
          conv => whnf
          obtain rfl := Option.some.inj h
          refine ⟨⟨0, 45, [(4, .ref 4 0 0), (5, .d (.bool true))], [], [(5006, .arr 78 5 (([] : List TreeWord).length) (rows TreeWord.enc ([] : List TreeWord))), (5003, .arr 3 1 (([] : List Int).length) (rows encInt ([] : List Int))), (5001, .arr 74 6 (s5.1, s5.1.length).1.length (rows TreeBridge.enc (s5.1, s5.1.length).1)), (5005, .arr 112 4 ((List.replicate (((a1.length : Nat) : Int) : Int).toNat (default : TreeSlot)).length) (rows TreeSlot.enc (List.replicate (((a1.length : Nat) : Int) : Int).toNat (default : TreeSlot)))), (5004, .arr 112 4 ((List.replicate (((a1.length : Nat) : Int) : Int).toNat (default : TreeSlot)).length) (rows TreeSlot.enc (List.replicate (((a1.length : Nat) : Int) : Int).toNat (default : TreeSlot)))), (5002, .arr 70 3 x2.length (rows TreeLink.enc x2)), (4, .box 31 [.osl 5001 0 (s5.1, s5.1.length).1.length, .osl 5002 0 x2.length, .osl 5003 0 (([] : List Int).length), .osl 5004 0 ((List.replicate (((a1.length : Nat) : Int) : Int).toNat (default : TreeSlot)).length), .osl 5005 0 ((List.replicate (((a1.length : Nat) : Int) : Int).toNat (default : TreeSlot)).length), .osl 5006 0 (([] : List TreeWord).length)])], []⟩, ?_, And.intro rfl ?_⟩
          · refine LE.trans (S' := ⟨0, 45, [(4, .ref 4 0 0), (5, .d (.bool true))], [], [(7001, .arr 74 6 (s5.1, s5.1.length).2 (rows TreeBridge.enc (s5.1, s5.1.length).1)), (22, .arr 112 4 ((List.replicate (((a1.length : Nat) : Int) : Int).toNat (default : TreeSlot)).length) (rows TreeSlot.enc (List.replicate (((a1.length : Nat) : Int) : Int).toNat (default : TreeSlot)))), (19, .arr 112 4 ((List.replicate (((a1.length : Nat) : Int) : Int).toNat (default : TreeSlot)).length) (rows TreeSlot.enc (List.replicate (((a1.length : Nat) : Int) : Int).toNat (default : TreeSlot)))), (6001, .arr 70 3 x2.length (rows TreeLink.enc x2)), (4, .box 31 [.osl 7001 0 (s5.1, s5.1.length).2, .osl 6001 0 x2.length, .d (.nil), .osl 19 0 ((List.replicate (((a1.length : Nat) : Int) : Int).toNat (default : TreeSlot)).length), .osl 22 0 ((List.replicate (((a1.length : Nat) : Int) : Int).toNat (default : TreeSlot)).length), .d (.nil)])], []⟩) (le_mk ?_ ?_ ?_) (LE.trans (S' := ⟨0, 45, [(4, .ref 4 0 0), (5, .d (.bool true))], [], [(5001, .arr 74 6 (s5.1, s5.1.length).2 (rows TreeBridge.enc (s5.1, s5.1.length).1)), (5005, .arr 112 4 ((List.replicate (((a1.length : Nat) : Int) : Int).toNat (default : TreeSlot)).length) (rows TreeSlot.enc (List.replicate (((a1.length : Nat) : Int) : Int).toNat (default : TreeSlot)))), (5004, .arr 112 4 ((List.replicate (((a1.length : Nat) : Int) : Int).toNat (default : TreeSlot)).length) (rows TreeSlot.enc (List.replicate (((a1.length : Nat) : Int) : Int).toNat (default : TreeSlot)))), (5002, .arr 70 3 x2.length (rows TreeLink.enc x2)), (4, .box 31 [.osl 5001 0 (s5.1, s5.1.length).2, .osl 5002 0 x2.length, .d (.nil), .osl 5004 0 ((List.replicate (((a1.length : Nat) : Int) : Int).toNat (default : TreeSlot)).length), .osl 5005 0 ((List.replicate (((a1.length : Nat) : Int) : Int).toNat (default : TreeSlot)).length), .d (.nil)])], []⟩) (le_swaps [(7001, 5001), (6001, 5002), (19, 5004), (22, 5005)] rfl) (LE.trans (S' := ⟨0, 45, [(4, .ref 4 0 0), (5, .d (.bool true))], [], [(5001, .arr 74 6 (s5.1, s5.1.length).1.length (rows TreeBridge.enc (s5.1, s5.1.length).1)), (5005, .arr 112 4 ((List.replicate (((a1.length : Nat) : Int) : Int).toNat (default : TreeSlot)).length) (rows TreeSlot.enc (List.replicate (((a1.length : Nat) : Int) : Int).toNat (default : TreeSlot)))), (5004, .arr 112 4 ((List.replicate (((a1.length : Nat) : Int) : Int).toNat (default : TreeSlot)).length) (rows TreeSlot.enc (List.replicate (((a1.length : Nat) : Int) : Int).toNat (default : TreeSlot)))), (5002, .arr 70 3 x2.length (rows TreeLink.enc x2)), (4, .box 31 [.osl 5001 0 (s5.1, s5.1.length).1.length, .osl 5002 0 x2.length, .d (.nil), .osl 5004 0 ((List.replicate (((a1.length : Nat) : Int) : Int).toNat (default : TreeSlot)).length), .osl 5005 0 ((List.replicate (((a1.length : Nat) : Int) : Int).toNat (default : TreeSlot)).length), .d (.nil)])], []⟩) (le_mk ?_ ?_ ?_) (LE.trans (S' := ⟨0, 45, [(4, .ref 4 0 0), (5, .d (.bool true))], [], [(5003, .arr 3 1 (([] : List Int).length) (rows encInt ([] : List Int))), (5001, .arr 74 6 (s5.1, s5.1.length).1.length (rows TreeBridge.enc (s5.1, s5.1.length).1)), (5005, .arr 112 4 ((List.replicate (((a1.length : Nat) : Int) : Int).toNat (default : TreeSlot)).length) (rows TreeSlot.enc (List.replicate (((a1.length : Nat) : Int) : Int).toNat (default : TreeSlot)))), (5004, .arr 112 4 ((List.replicate (((a1.length : Nat) : Int) : Int).toNat (default : TreeSlot)).length) (rows TreeSlot.enc (List.replicate (((a1.length : Nat) : Int) : Int).toNat (default : TreeSlot)))), (5002, .arr 70 3 x2.length (rows TreeLink.enc x2)), (4, .box 31 [.osl 5001 0 (s5.1, s5.1.length).1.length, .osl 5002 0 x2.length, .d (.nil), .osl 5004 0 ((List.replicate (((a1.length : Nat) : Int) : Int).toNat (default : TreeSlot)).length), .osl 5005 0 ((List.replicate (((a1.length : Nat) : Int) : Int).toNat (default : TreeSlot)).length), .d (.nil)])], []⟩) (le_ph 5003 3 1 (rows encInt ([] : List Int)) rfl rfl) (LE.trans (S' := ⟨0, 45, [(4, .ref 4 0 0), (5, .d (.bool true))], [], [(5003, .arr 3 1 (([] : List Int).length) (rows encInt ([] : List Int))), (5001, .arr 74 6 (s5.1, s5.1.length).1.length (rows TreeBridge.enc (s5.1, s5.1.length).1)), (5005, .arr 112 4 ((List.replicate (((a1.length : Nat) : Int) : Int).toNat (default : TreeSlot)).length) (rows TreeSlot.enc (List.replicate (((a1.length : Nat) : Int) : Int).toNat (default : TreeSlot)))), (5004, .arr 112 4 ((List.replicate (((a1.length : Nat) : Int) : Int).toNat (default : TreeSlot)).length) (rows TreeSlot.enc (List.replicate (((a1.length : Nat) : Int) : Int).toNat (default : TreeSlot)))), (5002, .arr 70 3 x2.length (rows TreeLink.enc x2)), (4, .box 31 [.osl 5001 0 (s5.1, s5.1.length).1.length, .osl 5002 0 x2.length, .osl 5003 0 (([] : List Int).length), .osl 5004 0 ((List.replicate (((a1.length : Nat) : Int) : Int).toNat (default : TreeSlot)).length), .osl 5005 0 ((List.replicate (((a1.length : Nat) : Int) : Int).toNat (default : TreeSlot)).length), .d (.nil)])], []⟩) (le_mk ?_ ?_ ?_) (LE.trans (S' := ⟨0, 45, [(4, .ref 4 0 0), (5, .d (.bool true))], [], [(5006, .arr 78 5 (([] : List TreeWord).length) (rows TreeWord.enc ([] : List TreeWord))), (5003, .arr 3 1 (([] : List Int).length) (rows encInt ([] : List Int))), (5001, .arr 74 6 (s5.1, s5.1.length).1.length (rows TreeBridge.enc (s5.1, s5.1.length).1)), (5005, .arr 112 4 ((List.replicate (((a1.length : Nat) : Int) : Int).toNat (default : TreeSlot)).length) (rows TreeSlot.enc (List.replicate (((a1.length : Nat) : Int) : Int).toNat (default : TreeSlot)))), (5004, .arr 112 4 ((List.replicate (((a1.length : Nat) : Int) : Int).toNat (default : TreeSlot)).length) (rows TreeSlot.enc (List.replicate (((a1.length : Nat) : Int) : Int).toNat (default : TreeSlot)))), (5002, .arr 70 3 x2.length (rows TreeLink.enc x2)), (4, .box 31 [.osl 5001 0 (s5.1, s5.1.length).1.length, .osl 5002 0 x2.length, .osl 5003 0 (([] : List Int).length), .osl 5004 0 ((List.replicate (((a1.length : Nat) : Int) : Int).toNat (default : TreeSlot)).length), .osl 5005 0 ((List.replicate (((a1.length : Nat) : Int) : Int).toNat (default : TreeSlot)).length), .d (.nil)])], []⟩) (le_ph 5006 78 5 (rows TreeWord.enc ([] : List TreeWord)) rfl rfl) (le_mk ?_ ?_ ?_)))))) <;> (repeat' first | ((conv => whnf); first | exact trivial | refine And.intro ?_ ?_ | exact BLe.refl _ | exact VLe.refl _) | exact trivial | exact rfl | refine And.intro ?_ ?_ | exact BLe.refl _ | exact VLe.refl _ | exact VLe.any _ | exact VLe.nil_osl rfl | exact VLe.nil_sl rfl | exact VLe.built rfl rfl | (refine VLe.osl rfl ?_; (first | rfl | (simp; done) | assumption | (simp [dsub_eq] <;> omega) | omega)) | exact VLe.rows (by first | rfl | (simp; done) | assumption | (simp [dsub_eq] <;> omega) | omega) (fun _ _ => rfl) | exact VLe.rows (by simp [dsub_eq] <;> omega) rows_take | exact VLe.rows (by simp [dsub_eq] <;> omega) rows_dt | exact VLe.rows (by simp [dsub_eq] <;> omega) rows_vt | exact VLe.rows (by simp) (fun i _ => by simp [viewRow_eq, Nat.add_comm]) | refine VLe.aggL ?_ | (refine BLe.rows rfl ?_ fun _ _ => rfl; (first | rfl | (simp; done) | assumption | (simp [dsub_eq] <;> omega) | omega)) | (refine BLe.rows rfl rfl ?_; first | exact rows_take) | refine BLe.box ?_)
          · exact And.intro (And.intro rfl (And.intro rfl (fun _ _ => rfl))) (And.intro (And.intro rfl (And.intro rfl (fun _ _ => rfl))) (And.intro (And.intro rfl (And.intro rfl (fun _ _ => rfl))) (And.intro (And.intro rfl (And.intro rfl (fun _ _ => rfl))) (And.intro (And.intro rfl (And.intro rfl (fun _ _ => rfl))) (And.intro (And.intro rfl (And.intro rfl (fun _ _ => rfl))) (trivial))))))

noncomputable def laws_eqTreeVector_m (a0 : TreeVector) (a1 : TreeVector) : Option (Bool) :=
(if (a0.Root != a1.Root) = true then
 some false
else
(if (a0.Cost != a1.Cost) = true then
 some false
else
(if (a0.Age != a1.Age) = true then
 some false
else
 some true)))

theorem laws_eqTreeVector_c {a0 : TreeVector} {a1 : TreeVector} {r : Bool} (h : laws_eqTreeVector_m a0 a1 = some r) : PureC Try.prog 73 [.agg [.d (.int .i64 a0.Root), .d (.int .i64 a0.Cost), .d (.int .i64 a0.Age)], .agg [.d (.int .i64 a1.Root), .d (.int .i64 a1.Cost), .d (.int .i64 a1.Age)]] (.d (.bool r)) [] := by
  refine pureC_m tOk (fn := Try.f73) (c := codeOf Try.f73) rfl rfl (by kernel_rfl) rfl rfl (by simp) (by simp) (ids_of rfl) ?_
  unfold laws_eqTreeVector_m at h
  conv => whnf
  refine seq_in tOk ?_
  conv => whnf
  refine And.intro (fun e => ?_) (fun e => ?_)
  · replace h := ite_t h e; clear e
    conv => whnf
    obtain rfl := Option.some.inj h
    exact ⟨_, LE.refl _, And.intro rfl trivial⟩
  · replace h := ite_f h e; clear e
    conv => whnf
    refine seq_in tOk ?_
    conv => whnf
    refine And.intro (fun e => ?_) (fun e => ?_)
    · replace h := ite_t h e; clear e
      conv => whnf
      obtain rfl := Option.some.inj h
      exact ⟨_, LE.refl _, And.intro rfl trivial⟩
    · replace h := ite_f h e; clear e
      conv => whnf
      refine seq_in tOk ?_
      conv => whnf
      refine And.intro (fun e => ?_) (fun e => ?_)
      · replace h := ite_t h e; clear e
        conv => whnf
        obtain rfl := Option.some.inj h
        exact ⟨_, LE.refl _, And.intro rfl trivial⟩
      · replace h := ite_f h e; clear e
        conv => whnf
        obtain rfl := Option.some.inj h
        exact ⟨_, LE.refl _, And.intro rfl trivial⟩

noncomputable def laws_eqTreeMind_m (a0 : TreeMind) (a1 : TreeMind) : Option (Bool) :=
 bd (laws_eqTreeVector_m a0.Vector a1.Vector) fun x1 =>
(if (!x1) = true then
 some false
else
(if (a0.Link != a1.Link) = true then
 some false
else
 some true))

theorem laws_eqTreeMind_c {a0 : TreeMind} {a1 : TreeMind} {r : Bool} (h : laws_eqTreeMind_m a0 a1 = some r) : PureC Try.prog 22 [.agg [.d (.int .i64 a0.Vector.Root), .d (.int .i64 a0.Vector.Cost), .d (.int .i64 a0.Vector.Age), .d (.int .i64 a0.Link)], .agg [.d (.int .i64 a1.Vector.Root), .d (.int .i64 a1.Vector.Cost), .d (.int .i64 a1.Vector.Age), .d (.int .i64 a1.Link)]] (.d (.bool r)) [] := by
  refine pureC_m tOk (fn := Try.f22) (c := codeOf Try.f22) rfl rfl (by kernel_rfl) rfl rfl (by simp) (by simp) (ids_of rfl) ?_
  unfold laws_eqTreeMind_m at h
  conv => whnf
  refine seq_in tOk ?_
  conv => whnf
  obtain ⟨x1, hx1, h⟩ := bd_some h
  refine callC 0 (laws_eqTreeVector_c hx1) (by kernel_rfl) (by kernel_rfl) ?_
  clear hx1
  conv => whnf
  refine And.intro (fun e => ?_) (fun e => ?_)
  · replace h := ite_t h e; clear e
    conv => whnf
    obtain rfl := Option.some.inj h
    exact ⟨_, LE.refl _, And.intro rfl trivial⟩
  · replace h := ite_f h e; clear e
    conv => whnf
    refine seq_in tOk ?_
    conv => whnf
    refine And.intro (fun e => ?_) (fun e => ?_)
    · replace h := ite_t h e; clear e
      conv => whnf
      obtain rfl := Option.some.inj h
      exact ⟨_, LE.refl _, And.intro rfl trivial⟩
    · replace h := ite_f h e; clear e
      conv => whnf
      obtain rfl := Option.some.inj h
      exact ⟨_, LE.refl _, And.intro rfl trivial⟩

noncomputable def laws_eqTreeBridge_m (a0 : TreeBridge) (a1 : TreeBridge) : Option (Bool) :=
(if (a0.Id != a1.Id) = true then
 some false
else
(if (!(a0.Up == a1.Up)) = true then
 some false
else
 bd (laws_eqTreeMind_m a0.Mind a1.Mind) fun x1 =>
(if (!x1) = true then
 some false
else
 some true)))

theorem laws_eqTreeBridge_c {a0 : TreeBridge} {a1 : TreeBridge} {r : Bool} (h : laws_eqTreeBridge_m a0 a1 = some r) : PureC Try.prog 102 [.agg [.d (.int .i64 a0.Id), .d (.bool a0.Up), .d (.int .i64 a0.Mind.Vector.Root), .d (.int .i64 a0.Mind.Vector.Cost), .d (.int .i64 a0.Mind.Vector.Age), .d (.int .i64 a0.Mind.Link)], .agg [.d (.int .i64 a1.Id), .d (.bool a1.Up), .d (.int .i64 a1.Mind.Vector.Root), .d (.int .i64 a1.Mind.Vector.Cost), .d (.int .i64 a1.Mind.Vector.Age), .d (.int .i64 a1.Mind.Link)]] (.d (.bool r)) [] := by
  refine pureC_m tOk (fn := Try.f102) (c := codeOf Try.f102) rfl rfl (by kernel_rfl) rfl rfl (by simp) (by simp) (ids_of rfl) ?_
  unfold laws_eqTreeBridge_m at h
  conv => whnf
  refine seq_in tOk ?_
  conv => whnf
  refine And.intro (fun e => ?_) (fun e => ?_)
  · replace h := ite_t h e; clear e
    conv => whnf
    obtain rfl := Option.some.inj h
    exact ⟨_, LE.refl _, And.intro rfl trivial⟩
  · replace h := ite_f h e; clear e
    conv => whnf
    refine seq_in tOk ?_
    conv => whnf
    refine And.intro (fun e => ?_) (fun e => ?_)
    · replace h := ite_t h e; clear e
      conv => whnf
      obtain rfl := Option.some.inj h
      exact ⟨_, LE.refl _, And.intro rfl trivial⟩
    · replace h := ite_f h e; clear e
      conv => whnf
      refine seq_in tOk ?_
      conv => whnf
      obtain ⟨x1, hx1, h⟩ := bd_some h
      refine callC 0 (laws_eqTreeMind_c hx1) (by kernel_rfl) (by kernel_rfl) ?_
      clear hx1
      conv => whnf
      refine And.intro (fun e => ?_) (fun e => ?_)
      · replace h := ite_t h e; clear e
        conv => whnf
        obtain rfl := Option.some.inj h
        exact ⟨_, LE.refl _, And.intro rfl trivial⟩
      · replace h := ite_f h e; clear e
        conv => whnf
        obtain rfl := Option.some.inj h
        exact ⟨_, LE.refl _, And.intro rfl trivial⟩

noncomputable def laws_eqTreeBridgeS_m (a0 : (List TreeBridge)) (a1 : (List TreeBridge)) : Option (Bool) :=
(if (((a0.length : Nat) : Int) != ((a1.length : Nat) : Int)) = true then
 some false
else
 bd (lp (σ := Int) (β := (Unit ⊕ Unit)) (fun s1 =>
(if (decide (s1 < ((a0.length : Nat) : Int))) = true then
 gd ((0 : Int) ≤ s1 ∧ s1 < ((a0.length : Nat) : Int)) <|
 gd ((0 : Int) ≤ s1 ∧ s1 < ((a1.length : Nat) : Int)) <|
 bd (laws_eqTreeBridge_m ({ (a0.getD s1.toNat default) with Mind := (⟨(((a0.getD s1.toNat default).Mind).Vector), ((a0.getD s1.toNat default).Mind).Link⟩ : TreeMind) }) ({ (a1.getD s1.toNat default) with Mind := (⟨(((a1.getD s1.toNat default).Mind).Vector), ((a1.getD s1.toNat default).Mind).Link⟩ : TreeMind) })) fun x7 =>
(if (!x7) = true then
 some (.inr (.inl ()))
else
 some (.inl (IntKind.i64.wrap (s1 + 1))))
else
 some (.inr (.inr ())))) 0) fun x4 =>
(match x4 with
| .inl d8 =>
 some false
| .inr d9 =>
 some true))

theorem laws_eqTreeBridgeS_c {a0 : (List TreeBridge)} {a1 : (List TreeBridge)} {r : Bool} (h : laws_eqTreeBridgeS_m a0 a1 = some r) : PureC Try.prog 66 [.d (slD TreeBridge.enc a0), .d (slD TreeBridge.enc a1)] (.d (.bool r)) [] := by
  refine pureC_m tOk (fn := Try.f66) (c := codeOf Try.f66) rfl rfl (by kernel_rfl) rfl rfl (by simp) (by simp) (ids_of rfl) ?_
  unfold laws_eqTreeBridgeS_m at h
  conv => whnf
  refine seq_in tOk ?_
  conv => whnf
  refine And.intro (fun e => ?_) (fun e => ?_)
  · replace h := ite_t h e; clear e
    conv => whnf
    obtain rfl := Option.some.inj h
    exact ⟨_, LE.refl _, And.intro rfl trivial⟩
  · replace h := ite_f h e; clear e
    conv => whnf
    refine seq_in tOk ?_
    conv => whnf
    obtain ⟨x4, hx4, h⟩ := bd_some h
    refine loop_m tOk hx4 (fun s1 => ⟨0, 27, [(0, .d (slD TreeBridge.enc a0)), (1, .d (slD TreeBridge.enc a1)), (5, .d (.int .i64 s1))], [], [], []⟩) ?_ ?_
    · refine le_mk ?_ ?_ ?_ <;> (repeat' first | ((conv => whnf); first | exact trivial | refine And.intro ?_ ?_ | exact BLe.refl _ | exact VLe.refl _) | exact trivial | exact rfl | refine And.intro ?_ ?_ | exact BLe.refl _ | exact VLe.refl _ | exact VLe.any _ | exact VLe.nil_osl rfl | exact VLe.nil_sl rfl | exact VLe.built rfl rfl | (refine VLe.osl rfl ?_; (first | rfl | (simp; done) | assumption | (simp [dsub_eq] <;> omega) | omega)) | exact VLe.rows (by first | rfl | (simp; done) | assumption | (simp [dsub_eq] <;> omega) | omega) (fun _ _ => rfl) | exact VLe.rows (by simp [dsub_eq] <;> omega) rows_take | exact VLe.rows (by simp [dsub_eq] <;> omega) rows_dt | exact VLe.rows (by simp [dsub_eq] <;> omega) rows_vt | exact VLe.rows (by simp) (fun i _ => by simp [viewRow_eq, Nat.add_comm]) | refine VLe.aggL ?_ | (refine BLe.rows rfl ?_ fun _ _ => rfl; (first | rfl | (simp; done) | assumption | (simp [dsub_eq] <;> omega) | omega)) | (refine BLe.rows rfl rfl ?_; first | exact rows_take) | refine BLe.box ?_)
    · clear hx4
      intro s1 y2 g3 hy2
      conv => whnf
      refine seq_in tOk ?_
      conv => whnf
      refine And.intro (fun e => ?_) (fun e => ?_)
      · replace g3 := ite_t g3 e; clear e
        conv => whnf
        refine seq_in tOk ?_
        conv => whnf
        obtain ⟨g5, g3⟩ := gd_some g3
        obtain ⟨g6, g3⟩ := gd_some g3
        obtain ⟨x7, hx7, g3⟩ := bd_some g3
        refine draw_k tOk (by kernel_rfl) (fun j => match j with | 8 => some (.pure 0 (.d (.bool x7)) []) | _ => none) 10 [] [[], [], [true, true], [true, true, true], [], [], [false, false, false, false, true, true], [false, false, false, false, true, true, true], [true, true, true, true, true, true, true, true], [true, true, true, true, true, true, true, true, true]] [] (by decide) (by kernel_rfl) (by kernel_rfl) ?_
        conv => whnf
        refine And.intro g5 ?_
        clear g5
        conv => whnf
        refine And.intro g6 ?_
        clear g6
        conv => whnf
        refine And.intro (callD_any (laws_eqTreeBridge_c hx7) (by kernel_rfl)) ?_
        conv => whnf
        refine And.intro (by kernel_rfl) ?_
        conv => whnf
        refine And.intro (fun e => ?_) (fun e => ?_)
        · replace g3 := ite_t g3 e; clear e
          conv => whnf
          obtain rfl := Option.some.inj g3
          obtain rfl := hy2 _ rfl
          obtain rfl := Option.some.inj h
          exact ⟨_, LE.refl _, And.intro rfl trivial⟩
        · replace g3 := ite_f g3 e; clear e
          conv => whnf
          obtain rfl := Option.some.inj g3
          refine ⟨_, rfl, le_mk ?_ ?_ ?_⟩ <;> (repeat' first | ((conv => whnf); first | exact trivial | refine And.intro ?_ ?_ | exact BLe.refl _ | exact VLe.refl _) | exact trivial | exact rfl | refine And.intro ?_ ?_ | exact BLe.refl _ | exact VLe.refl _ | exact VLe.any _ | exact VLe.nil_osl rfl | exact VLe.nil_sl rfl | exact VLe.built rfl rfl | (refine VLe.osl rfl ?_; (first | rfl | (simp; done) | assumption | (simp [dsub_eq] <;> omega) | omega)) | exact VLe.rows (by first | rfl | (simp; done) | assumption | (simp [dsub_eq] <;> omega) | omega) (fun _ _ => rfl) | exact VLe.rows (by simp [dsub_eq] <;> omega) rows_take | exact VLe.rows (by simp [dsub_eq] <;> omega) rows_dt | exact VLe.rows (by simp [dsub_eq] <;> omega) rows_vt | exact VLe.rows (by simp) (fun i _ => by simp [viewRow_eq, Nat.add_comm]) | refine VLe.aggL ?_ | (refine BLe.rows rfl ?_ fun _ _ => rfl; (first | rfl | (simp; done) | assumption | (simp [dsub_eq] <;> omega) | omega)) | (refine BLe.rows rfl rfl ?_; first | exact rows_take) | refine BLe.box ?_)
      · replace g3 := ite_f g3 e; clear e
        conv => whnf
        obtain rfl := Option.some.inj g3
        obtain rfl := hy2 _ rfl
        obtain rfl := Option.some.inj h
        exact ⟨_, LE.refl _, And.intro rfl trivial⟩

noncomputable def laws_eqTreeLink_m (a0 : TreeLink) (a1 : TreeLink) : Option (Bool) :=
(if (a0.A != a1.A) = true then
 some false
else
(if (a0.B != a1.B) = true then
 some false
else
(if (a0.Cost != a1.Cost) = true then
 some false
else
 some true)))

theorem laws_eqTreeLink_c {a0 : TreeLink} {a1 : TreeLink} {r : Bool} (h : laws_eqTreeLink_m a0 a1 = some r) : PureC Try.prog 75 [.agg [.d (.int .i64 a0.A), .d (.int .i64 a0.B), .d (.int .i64 a0.Cost)], .agg [.d (.int .i64 a1.A), .d (.int .i64 a1.B), .d (.int .i64 a1.Cost)]] (.d (.bool r)) [] := by
  refine pureC_m tOk (fn := Try.f75) (c := codeOf Try.f75) rfl rfl (by kernel_rfl) rfl rfl (by simp) (by simp) (ids_of rfl) ?_
  unfold laws_eqTreeLink_m at h
  conv => whnf
  refine seq_in tOk ?_
  conv => whnf
  refine And.intro (fun e => ?_) (fun e => ?_)
  · replace h := ite_t h e; clear e
    conv => whnf
    obtain rfl := Option.some.inj h
    exact ⟨_, LE.refl _, And.intro rfl trivial⟩
  · replace h := ite_f h e; clear e
    conv => whnf
    refine seq_in tOk ?_
    conv => whnf
    refine And.intro (fun e => ?_) (fun e => ?_)
    · replace h := ite_t h e; clear e
      conv => whnf
      obtain rfl := Option.some.inj h
      exact ⟨_, LE.refl _, And.intro rfl trivial⟩
    · replace h := ite_f h e; clear e
      conv => whnf
      refine seq_in tOk ?_
      conv => whnf
      refine And.intro (fun e => ?_) (fun e => ?_)
      · replace h := ite_t h e; clear e
        conv => whnf
        obtain rfl := Option.some.inj h
        exact ⟨_, LE.refl _, And.intro rfl trivial⟩
      · replace h := ite_f h e; clear e
        conv => whnf
        obtain rfl := Option.some.inj h
        exact ⟨_, LE.refl _, And.intro rfl trivial⟩

noncomputable def laws_eqTreeLinkS_m (a0 : (List TreeLink)) (a1 : (List TreeLink)) : Option (Bool) :=
(if (((a0.length : Nat) : Int) != ((a1.length : Nat) : Int)) = true then
 some false
else
 bd (lp (σ := Int) (β := (Unit ⊕ Unit)) (fun s1 =>
(if (decide (s1 < ((a0.length : Nat) : Int))) = true then
 gd ((0 : Int) ≤ s1 ∧ s1 < ((a0.length : Nat) : Int)) <|
 gd ((0 : Int) ≤ s1 ∧ s1 < ((a1.length : Nat) : Int)) <|
 bd (laws_eqTreeLink_m (a0.getD s1.toNat default) (a1.getD s1.toNat default)) fun x7 =>
(if (!x7) = true then
 some (.inr (.inl ()))
else
 some (.inl (IntKind.i64.wrap (s1 + 1))))
else
 some (.inr (.inr ())))) 0) fun x4 =>
(match x4 with
| .inl d8 =>
 some false
| .inr d9 =>
 some true))

theorem laws_eqTreeLinkS_c {a0 : (List TreeLink)} {a1 : (List TreeLink)} {r : Bool} (h : laws_eqTreeLinkS_m a0 a1 = some r) : PureC Try.prog 27 [.d (slD TreeLink.enc a0), .d (slD TreeLink.enc a1)] (.d (.bool r)) [] := by
  refine pureC_m tOk (fn := Try.f27) (c := codeOf Try.f27) rfl rfl (by kernel_rfl) rfl rfl (by simp) (by simp) (ids_of rfl) ?_
  unfold laws_eqTreeLinkS_m at h
  conv => whnf
  refine seq_in tOk ?_
  conv => whnf
  refine And.intro (fun e => ?_) (fun e => ?_)
  · replace h := ite_t h e; clear e
    conv => whnf
    obtain rfl := Option.some.inj h
    exact ⟨_, LE.refl _, And.intro rfl trivial⟩
  · replace h := ite_f h e; clear e
    conv => whnf
    refine seq_in tOk ?_
    conv => whnf
    obtain ⟨x4, hx4, h⟩ := bd_some h
    refine loop_m tOk hx4 (fun s1 => ⟨0, 27, [(0, .d (slD TreeLink.enc a0)), (1, .d (slD TreeLink.enc a1)), (5, .d (.int .i64 s1))], [], [], []⟩) ?_ ?_
    · refine le_mk ?_ ?_ ?_ <;> (repeat' first | ((conv => whnf); first | exact trivial | refine And.intro ?_ ?_ | exact BLe.refl _ | exact VLe.refl _) | exact trivial | exact rfl | refine And.intro ?_ ?_ | exact BLe.refl _ | exact VLe.refl _ | exact VLe.any _ | exact VLe.nil_osl rfl | exact VLe.nil_sl rfl | exact VLe.built rfl rfl | (refine VLe.osl rfl ?_; (first | rfl | (simp; done) | assumption | (simp [dsub_eq] <;> omega) | omega)) | exact VLe.rows (by first | rfl | (simp; done) | assumption | (simp [dsub_eq] <;> omega) | omega) (fun _ _ => rfl) | exact VLe.rows (by simp [dsub_eq] <;> omega) rows_take | exact VLe.rows (by simp [dsub_eq] <;> omega) rows_dt | exact VLe.rows (by simp [dsub_eq] <;> omega) rows_vt | exact VLe.rows (by simp) (fun i _ => by simp [viewRow_eq, Nat.add_comm]) | refine VLe.aggL ?_ | (refine BLe.rows rfl ?_ fun _ _ => rfl; (first | rfl | (simp; done) | assumption | (simp [dsub_eq] <;> omega) | omega)) | (refine BLe.rows rfl rfl ?_; first | exact rows_take) | refine BLe.box ?_)
    · clear hx4
      intro s1 y2 g3 hy2
      conv => whnf
      refine seq_in tOk ?_
      conv => whnf
      refine And.intro (fun e => ?_) (fun e => ?_)
      · replace g3 := ite_t g3 e; clear e
        conv => whnf
        refine seq_in tOk ?_
        conv => whnf
        obtain ⟨g5, g3⟩ := gd_some g3
        obtain ⟨g6, g3⟩ := gd_some g3
        obtain ⟨x7, hx7, g3⟩ := bd_some g3
        refine draw_k tOk (by kernel_rfl) (fun j => match j with | 8 => some (.pure 0 (.d (.bool x7)) []) | _ => none) 10 [] [[], [], [true, true], [true, true, true], [], [], [false, false, false, false, true, true], [false, false, false, false, true, true, true], [true, true, true, true, true, true, true, true], [true, true, true, true, true, true, true, true, true]] [] (by decide) (by kernel_rfl) (by kernel_rfl) ?_
        conv => whnf
        refine And.intro g5 ?_
        clear g5
        conv => whnf
        refine And.intro g6 ?_
        clear g6
        conv => whnf
        refine And.intro (callD_any (laws_eqTreeLink_c hx7) (by kernel_rfl)) ?_
        conv => whnf
        refine And.intro (by kernel_rfl) ?_
        conv => whnf
        refine And.intro (fun e => ?_) (fun e => ?_)
        · replace g3 := ite_t g3 e; clear e
          conv => whnf
          obtain rfl := Option.some.inj g3
          obtain rfl := hy2 _ rfl
          obtain rfl := Option.some.inj h
          exact ⟨_, LE.refl _, And.intro rfl trivial⟩
        · replace g3 := ite_f g3 e; clear e
          conv => whnf
          obtain rfl := Option.some.inj g3
          refine ⟨_, rfl, le_mk ?_ ?_ ?_⟩ <;> (repeat' first | ((conv => whnf); first | exact trivial | refine And.intro ?_ ?_ | exact BLe.refl _ | exact VLe.refl _) | exact trivial | exact rfl | refine And.intro ?_ ?_ | exact BLe.refl _ | exact VLe.refl _ | exact VLe.any _ | exact VLe.nil_osl rfl | exact VLe.nil_sl rfl | exact VLe.built rfl rfl | (refine VLe.osl rfl ?_; (first | rfl | (simp; done) | assumption | (simp [dsub_eq] <;> omega) | omega)) | exact VLe.rows (by first | rfl | (simp; done) | assumption | (simp [dsub_eq] <;> omega) | omega) (fun _ _ => rfl) | exact VLe.rows (by simp [dsub_eq] <;> omega) rows_take | exact VLe.rows (by simp [dsub_eq] <;> omega) rows_dt | exact VLe.rows (by simp [dsub_eq] <;> omega) rows_vt | exact VLe.rows (by simp) (fun i _ => by simp [viewRow_eq, Nat.add_comm]) | refine VLe.aggL ?_ | (refine BLe.rows rfl ?_ fun _ _ => rfl; (first | rfl | (simp; done) | assumption | (simp [dsub_eq] <;> omega) | omega)) | (refine BLe.rows rfl rfl ?_; first | exact rows_take) | refine BLe.box ?_)
      · replace g3 := ite_f g3 e; clear e
        conv => whnf
        obtain rfl := Option.some.inj g3
        obtain rfl := hy2 _ rfl
        obtain rfl := Option.some.inj h
        exact ⟨_, LE.refl _, And.intro rfl trivial⟩

noncomputable def laws_eqIntS_m (a0 : (List Int)) (a1 : (List Int)) : Option (Bool) :=
(if (((a0.length : Nat) : Int) != ((a1.length : Nat) : Int)) = true then
 some false
else
 bd (lp (σ := Int) (β := (Unit ⊕ Unit)) (fun s1 =>
(if (decide (s1 < ((a0.length : Nat) : Int))) = true then
 gd ((0 : Int) ≤ s1 ∧ s1 < ((a0.length : Nat) : Int)) <|
 gd ((0 : Int) ≤ s1 ∧ s1 < ((a1.length : Nat) : Int)) <|
(if ((a0.getD s1.toNat default) != (a1.getD s1.toNat default)) = true then
 some (.inr (.inl ()))
else
 some (.inl (IntKind.i64.wrap (s1 + 1))))
else
 some (.inr (.inr ())))) 0) fun x4 =>
(match x4 with
| .inl d7 =>
 some false
| .inr d8 =>
 some true))

theorem laws_eqIntS_c {a0 : (List Int)} {a1 : (List Int)} {r : Bool} (h : laws_eqIntS_m a0 a1 = some r) : PureC Try.prog 26 [.d (slD encInt a0), .d (slD encInt a1)] (.d (.bool r)) [] := by
  refine pureC_m tOk (fn := Try.f26) (c := codeOf Try.f26) rfl rfl (by kernel_rfl) rfl rfl (by simp) (by simp) (ids_of rfl) ?_
  unfold laws_eqIntS_m at h
  conv => whnf
  refine seq_in tOk ?_
  conv => whnf
  refine And.intro (fun e => ?_) (fun e => ?_)
  · replace h := ite_t h e; clear e
    conv => whnf
    obtain rfl := Option.some.inj h
    exact ⟨_, LE.refl _, And.intro rfl trivial⟩
  · replace h := ite_f h e; clear e
    conv => whnf
    refine seq_in tOk ?_
    conv => whnf
    obtain ⟨x4, hx4, h⟩ := bd_some h
    refine loop_m tOk hx4 (fun s1 => ⟨0, 26, [(0, .d (slD encInt a0)), (1, .d (slD encInt a1)), (5, .d (.int .i64 s1))], [], [], []⟩) ?_ ?_
    · refine le_mk ?_ ?_ ?_ <;> (repeat' first | ((conv => whnf); first | exact trivial | refine And.intro ?_ ?_ | exact BLe.refl _ | exact VLe.refl _) | exact trivial | exact rfl | refine And.intro ?_ ?_ | exact BLe.refl _ | exact VLe.refl _ | exact VLe.any _ | exact VLe.nil_osl rfl | exact VLe.nil_sl rfl | exact VLe.built rfl rfl | (refine VLe.osl rfl ?_; (first | rfl | (simp; done) | assumption | (simp [dsub_eq] <;> omega) | omega)) | exact VLe.rows (by first | rfl | (simp; done) | assumption | (simp [dsub_eq] <;> omega) | omega) (fun _ _ => rfl) | exact VLe.rows (by simp [dsub_eq] <;> omega) rows_take | exact VLe.rows (by simp [dsub_eq] <;> omega) rows_dt | exact VLe.rows (by simp [dsub_eq] <;> omega) rows_vt | exact VLe.rows (by simp) (fun i _ => by simp [viewRow_eq, Nat.add_comm]) | refine VLe.aggL ?_ | (refine BLe.rows rfl ?_ fun _ _ => rfl; (first | rfl | (simp; done) | assumption | (simp [dsub_eq] <;> omega) | omega)) | (refine BLe.rows rfl rfl ?_; first | exact rows_take) | refine BLe.box ?_)
    · clear hx4
      intro s1 y2 g3 hy2
      conv => whnf
      refine seq_in tOk ?_
      conv => whnf
      refine And.intro (fun e => ?_) (fun e => ?_)
      · replace g3 := ite_t g3 e; clear e
        conv => whnf
        refine seq_in tOk ?_
        conv => whnf
        obtain ⟨g5, g3⟩ := gd_some g3
        obtain ⟨g6, g3⟩ := gd_some g3
        refine draw_k tOk (by kernel_rfl) (fun _ => none) 9 [] [[], [], [true, true], [true, true, true], [], [], [false, false, false, false, true, true], [false, false, false, false, true, true, true], [true, true, true, true, true, true, true, true]] [] (by decide) (by kernel_rfl) (by kernel_rfl) ?_
        conv => whnf
        refine And.intro g5 ?_
        clear g5
        conv => whnf
        refine And.intro g6 ?_
        clear g6
        conv => whnf
        refine And.intro (by kernel_rfl) ?_
        conv => whnf
        refine And.intro (fun e => ?_) (fun e => ?_)
        · replace g3 := ite_t g3 e; clear e
          conv => whnf
          obtain rfl := Option.some.inj g3
          obtain rfl := hy2 _ rfl
          obtain rfl := Option.some.inj h
          exact ⟨_, LE.refl _, And.intro rfl trivial⟩
        · replace g3 := ite_f g3 e; clear e
          conv => whnf
          obtain rfl := Option.some.inj g3
          refine ⟨_, rfl, le_mk ?_ ?_ ?_⟩ <;> (repeat' first | ((conv => whnf); first | exact trivial | refine And.intro ?_ ?_ | exact BLe.refl _ | exact VLe.refl _) | exact trivial | exact rfl | refine And.intro ?_ ?_ | exact BLe.refl _ | exact VLe.refl _ | exact VLe.any _ | exact VLe.nil_osl rfl | exact VLe.nil_sl rfl | exact VLe.built rfl rfl | (refine VLe.osl rfl ?_; (first | rfl | (simp; done) | assumption | (simp [dsub_eq] <;> omega) | omega)) | exact VLe.rows (by first | rfl | (simp; done) | assumption | (simp [dsub_eq] <;> omega) | omega) (fun _ _ => rfl) | exact VLe.rows (by simp [dsub_eq] <;> omega) rows_take | exact VLe.rows (by simp [dsub_eq] <;> omega) rows_dt | exact VLe.rows (by simp [dsub_eq] <;> omega) rows_vt | exact VLe.rows (by simp) (fun i _ => by simp [viewRow_eq, Nat.add_comm]) | refine VLe.aggL ?_ | (refine BLe.rows rfl ?_ fun _ _ => rfl; (first | rfl | (simp; done) | assumption | (simp [dsub_eq] <;> omega) | omega)) | (refine BLe.rows rfl rfl ?_; first | exact rows_take) | refine BLe.box ?_)
      · replace g3 := ite_f g3 e; clear e
        conv => whnf
        obtain rfl := Option.some.inj g3
        obtain rfl := hy2 _ rfl
        obtain rfl := Option.some.inj h
        exact ⟨_, LE.refl _, And.intro rfl trivial⟩

noncomputable def laws_eqTreeSlot_m (a0 : TreeSlot) (a1 : TreeSlot) : Option (Bool) :=
 bd (laws_eqTreeVector_m a0.Vector a1.Vector) fun x1 =>
(if (!x1) = true then
 some false
else
(if (a0.Left != a1.Left) = true then
 some false
else
 some true))

theorem laws_eqTreeSlot_c {a0 : TreeSlot} {a1 : TreeSlot} {r : Bool} (h : laws_eqTreeSlot_m a0 a1 = some r) : PureC Try.prog 103 [.agg [.d (.int .i64 a0.Vector.Root), .d (.int .i64 a0.Vector.Cost), .d (.int .i64 a0.Vector.Age), .d (.int .i64 a0.Left)], .agg [.d (.int .i64 a1.Vector.Root), .d (.int .i64 a1.Vector.Cost), .d (.int .i64 a1.Vector.Age), .d (.int .i64 a1.Left)]] (.d (.bool r)) [] := by
  refine pureC_m tOk (fn := Try.f103) (c := codeOf Try.f103) rfl rfl (by kernel_rfl) rfl rfl (by simp) (by simp) (ids_of rfl) ?_
  unfold laws_eqTreeSlot_m at h
  conv => whnf
  refine seq_in tOk ?_
  conv => whnf
  obtain ⟨x1, hx1, h⟩ := bd_some h
  refine callC 0 (laws_eqTreeVector_c hx1) (by kernel_rfl) (by kernel_rfl) ?_
  clear hx1
  conv => whnf
  refine And.intro (fun e => ?_) (fun e => ?_)
  · replace h := ite_t h e; clear e
    conv => whnf
    obtain rfl := Option.some.inj h
    exact ⟨_, LE.refl _, And.intro rfl trivial⟩
  · replace h := ite_f h e; clear e
    conv => whnf
    refine seq_in tOk ?_
    conv => whnf
    refine And.intro (fun e => ?_) (fun e => ?_)
    · replace h := ite_t h e; clear e
      conv => whnf
      obtain rfl := Option.some.inj h
      exact ⟨_, LE.refl _, And.intro rfl trivial⟩
    · replace h := ite_f h e; clear e
      conv => whnf
      obtain rfl := Option.some.inj h
      exact ⟨_, LE.refl _, And.intro rfl trivial⟩

end Go.Proofs.Ytbolhcpkpncmfaa
