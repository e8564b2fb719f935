/-
  What some of the program's functions compute: their models, and that the functions compute these; no condition.
-/
import Derived.Test.YtkcmmigdhkalnaaTyz
import Derived.Test.YtkcmmigdhkalnaaTbz
import Derived.Test.YtkcmmigdhkalnaaKz2
set_option linter.all false
namespace Go.Proofs.Ytkcmmigdhkalnaa
open Go Go.Ab
set_option maxRecDepth 100000
set_option maxHeartbeats 4000000
noncomputable def spec_l23Put_m (a0 : (List NatEntry)) (a1 : NatEntry) : Option ((List NatEntry)) :=
 bd (lp (σ := Int) (β := (Int)) (fun s1 =>
 gd ((decide (s1 < ((a0.length : Nat) : Int))) = true → ((0 : Int) ≤ s1 ∧ s1 < ((a0.length : Nat) : Int))) <|
 bd (gcall ((decide (s1 < ((a0.length : Nat) : Int))) = true) (spec_l22Less_m (a0.getD s1.toNat default) a1)) fun x6 =>
(if ((decide (s1 < ((a0.length : Nat) : Int))) && x6) = true then
 some (.inl (IntKind.i64.wrap (s1 + 1)))
else
 some (.inr s1))) 0) fun x4 =>
 gd ((0 : Int) ≤ (0 : Int) ∧ (0 : Int) ≤ x4 ∧ x4 ≤ ((a0.length : Nat) : Int)) <|
 gd (((0) + (x4.toNat)) * (56 + 1) ≤ 70368744177664) <|
 gd ((((a0.take x4.toNat).length) + (([a1] : List NatEntry).length)) * (56 + 1) ≤ 70368744177664) <|
 gd ((0 : Int) ≤ x4 ∧ x4 ≤ ((a0.length : Nat) : Int) ∧ ((a0.length : Nat) : Int) ≤ ((a0.length : Nat) : Int)) <|
 gd (((((a0.take x4.toNat) ++ ([a1] : List NatEntry)).length) + ((dsub ((a0.length : Nat) : Int) x4))) * (56 + 1) ≤ 70368744177664) <|
 some (((a0.take x4.toNat) ++ ([a1] : List NatEntry)) ++ (((a0).take (x4.toNat + (dsub ((a0.length : Nat) : Int) x4))).drop x4.toNat))

theorem spec_l23Put_c {a0 : (List NatEntry)} {a1 : NatEntry} {r : (List NatEntry)} (h : spec_l23Put_m a0 a1 = some r) : PureC Try.prog 99 [.d (slD NatEntry.enc a0), .agg [.d (.int .i64 a1.Kind), .d (.int .i64 a1.Peer), .d (.int .i64 a1.PeerPort), .d (.int .i64 a1.Outer), .d (.int .i64 a1.Inner), .d (.int .i64 a1.InnerPort), .d (.int .i64 a1.Last)]] (.osl 5001 0 r.length) [⟨5001, 52, 7, r.length, rows NatEntry.enc r⟩] := by
  refine pureC_m tOk (fn := Try.f99) (c := codeOf Try.f99) rfl rfl (by kernel_rfl) rfl rfl (by simp [atomD]) (by simp) (ids_of rfl) ?_
  unfold spec_l23Put_m at h
  conv => whnf
  refine seq_in tOk ?_
  conv => whnf
  obtain ⟨x4, hx4, h⟩ := bd_some h
  refine loop_m tOk hx4 (fun s1 => ⟨0, 32, [(0, .d (slD NatEntry.enc a0)), (3, .ref 3 0 0), (5, .d (.int .i64 s1))], [], [(3, .box 52 [.d (.int .i64 a1.Kind), .d (.int .i64 a1.Peer), .d (.int .i64 a1.PeerPort), .d (.int .i64 a1.Outer), .d (.int .i64 a1.Inner), .d (.int .i64 a1.InnerPort), .d (.int .i64 a1.Last)])], []⟩) ?_ ?_
  · refine le_mk ?_ ?_ ?_ <;> (repeat' first | ((conv => whnf); first | exact trivial | refine And.intro ?_ ?_ | exact BLe.refl _ | exact VLe.refl _) | exact trivial | exact rfl | refine And.intro ?_ ?_ | exact BLe.refl _ | exact VLe.refl _ | exact VLe.any _ | exact VLe.nil_osl rfl | exact VLe.nil_sl rfl | exact VLe.built rfl rfl | (refine VLe.osl rfl ?_; (first | rfl | (simp; done) | assumption | (simp [dsub_eq] <;> omega) | omega)) | exact VLe.rows (by first | rfl | (simp; done) | assumption | (simp [dsub_eq] <;> omega) | omega) (fun _ _ => rfl) | exact VLe.rows (by simp [dsub_eq] <;> omega) rows_take | exact VLe.rows (by simp [dsub_eq] <;> omega) rows_dt | exact VLe.rows (by simp [dsub_eq] <;> omega) rows_vt | exact VLe.rows (by simp) (fun i _ => by simp [viewRow_eq, Nat.add_comm]) | refine VLe.aggL ?_ | (refine BLe.rows rfl ?_ fun _ _ => rfl; (first | rfl | (simp; done) | assumption | (simp [dsub_eq] <;> omega) | omega)) | (refine BLe.rows rfl rfl ?_; first | exact rows_take) | refine BLe.box ?_)
  · clear hx4
    intro s1 y2 g3 hy2
    conv => whnf
    refine seq_in tOk ?_
    conv => whnf
    obtain ⟨g5, g3⟩ := gd_some g3
    obtain ⟨x6, hx6, g3⟩ := bd_some g3
    refine draw_k tOk (by kernel_rfl) (fun j => match j with | 10 => some (.pure 0 (.d (.bool x6)) []) | _ => none) 12 [] [[], [], [false, true], [true, true, true], [true, true, true, true], [true, true, true, true, true], [true, true, true, true, true], [true, true, true, true, true, true, true], [true, true, true, true, true, true, true, true], [true, true, true, true, true], [true, true, true, true, true, true, true, true, true, true], [true, true, true, true, true, true, true, true, true, true, true]] [] (by decide) (by kernel_rfl) (by kernel_rfl) ?_
    conv => whnf
    refine And.intro g5 ?_
    clear g5
    conv => whnf
    refine And.intro (callDG_if rfl rfl rfl rfl (by intro c0; exact spec_l22Less_c (gcall_some hx6 c0))) ?_
    conv => whnf
    refine And.intro (by kernel_rfl) ?_
    conv => whnf
    refine And.intro (fun e => ?_) (fun e => ?_)
    · replace g3 := ite_t g3 e; clear e
      conv => whnf
      obtain rfl := Option.some.inj g3
      refine ⟨_, rfl, le_mk ?_ ?_ ?_⟩ <;> (repeat' first | ((conv => whnf); first | exact trivial | refine And.intro ?_ ?_ | exact BLe.refl _ | exact VLe.refl _) | exact trivial | exact rfl | refine And.intro ?_ ?_ | exact BLe.refl _ | exact VLe.refl _ | exact VLe.any _ | exact VLe.nil_osl rfl | exact VLe.nil_sl rfl | exact VLe.built rfl rfl | (refine VLe.osl rfl ?_; (first | rfl | (simp; done) | assumption | (simp [dsub_eq] <;> omega) | omega)) | exact VLe.rows (by first | rfl | (simp; done) | assumption | (simp [dsub_eq] <;> omega) | omega) (fun _ _ => rfl) | exact VLe.rows (by simp [dsub_eq] <;> omega) rows_take | exact VLe.rows (by simp [dsub_eq] <;> omega) rows_dt | exact VLe.rows (by simp [dsub_eq] <;> omega) rows_vt | exact VLe.rows (by simp) (fun i _ => by simp [viewRow_eq, Nat.add_comm]) | refine VLe.aggL ?_ | (refine BLe.rows rfl ?_ fun _ _ => rfl; (first | rfl | (simp; done) | assumption | (simp [dsub_eq] <;> omega) | omega)) | (refine BLe.rows rfl rfl ?_; first | exact rows_take) | refine BLe.box ?_)
    · replace g3 := ite_f g3 e; clear e
      conv => whnf
      obtain rfl := Option.some.inj g3
      obtain rfl := hy2 _ rfl
      obtain ⟨g8, h⟩ := gd_some h
      obtain ⟨g9, h⟩ := gd_some h
      obtain ⟨g10, h⟩ := gd_some h
      obtain ⟨g11, h⟩ := gd_some h
      obtain ⟨g12, h⟩ := gd_some h
      refine draw_ek tOk (by kernel_rfl) (fun j => match j with | 4 => some (.app [] (.osl 24 0 ((a0.take s1.toNat).length)) [(24, .arr 52 7 ((a0.take s1.toNat).length) (rows NatEntry.enc (a0.take s1.toNat)))]) | 7 => some (.app [(24, .arr 52 7 ((a0.take s1.toNat).length) (rows NatEntry.enc (a0.take s1.toNat)))] (.osl 27 0 (((a0.take s1.toNat) ++ ([a1] : List NatEntry)).length)) [(27, .arr 52 7 (((a0.take s1.toNat) ++ ([a1] : List NatEntry)).length) (rows NatEntry.enc ((a0.take s1.toNat) ++ ([a1] : List NatEntry))))]) | 11 => some (.app [(27, .arr 52 7 (((a0.take s1.toNat) ++ ([a1] : List NatEntry)).length) (rows NatEntry.enc ((a0.take s1.toNat) ++ ([a1] : List NatEntry))))] (.osl 31 0 ((((a0.take s1.toNat) ++ ([a1] : List NatEntry)) ++ (((a0).take (s1.toNat + (dsub ((a0.length : Nat) : Int) s1))).drop s1.toNat)).length)) [(31, .arr 52 7 ((((a0.take s1.toNat) ++ ([a1] : List NatEntry)) ++ (((a0).take (s1.toNat + (dsub ((a0.length : Nat) : Int) s1))).drop s1.toNat)).length) (rows NatEntry.enc (((a0.take s1.toNat) ++ ([a1] : List NatEntry)) ++ (((a0).take (s1.toNat + (dsub ((a0.length : Nat) : Int) s1))).drop s1.toNat))))]) | _ => none) 13 [] [[], [], [], [false, true, true], [true, true, true, true], [], [false, false, false, false, false, true], [true, true, true, true, true, true, true], [], [], [false, false, false, false, false, false, false, false, true, true], [true, true, true, true, true, true, true, true, true, true, true], [true, true, true, true, true, true, true, true, true, true, true, true]] [] [] (by decide) (by kernel_rfl) (chain_pure rfl (chain_app rfl rfl (chain_pure rfl (chain_pure rfl (chain_pure rfl (chain_app rfl rfl (chain_pure rfl (chain_pure rfl (chain_app rfl rfl (chain_pure rfl (chain_pure rfl (chain_pure rfl (chain_pure rfl (chain_nil)))))))))))))) (by kernel_rfl) ?_
      conv => whnf
      refine And.intro ⟨g8, .inr rfl⟩ ?_
      conv => whnf
      refine And.intro (by (conv => whnf); exact ⟨g9, (a0.take s1.toNat).length, rows NatEntry.enc (a0.take s1.toNat), (by first | rfl | (simp; done) | assumption | (simp [dsub_eq] <;> omega) | omega), (by first | exact app_rows (m := s1.toNat) (by first | rfl | (simp; done) | assumption | (simp [dsub_eq] <;> omega) | omega) (by first | rfl | (simp; done) | assumption | (simp [dsub_eq] <;> omega) | omega) (fun _ _ => rfl) (fun _ _ => rfl) | exact app_rows0 (m := s1.toNat) (by first | rfl | (simp; done) | assumption | (simp [dsub_eq] <;> omega) | omega) (fun _ _ => rfl) | exact app_rows (m := s1.toNat) (by first | rfl | (simp; done) | assumption | (simp [dsub_eq] <;> omega) | omega) (by first | rfl | (simp; done) | assumption | (simp [dsub_eq] <;> omega) | omega) (by first | exact fun _ _ => rfl | exact rows_take | exact rows_vt | exact rows_dt | (intro i hi; simp only [viewRow_eq, Nat.zero_add]) | (intro i hi; simp [viewRow_eq])) (by first | exact fun _ _ => rfl | exact rows_take | exact rows_vt | exact rows_dt | (intro i hi; simp only [viewRow_eq, Nat.zero_add]) | (intro i hi; simp [viewRow_eq])) | exact app_rows0 (m := s1.toNat) (by first | rfl | (simp; done) | assumption | (simp [dsub_eq] <;> omega) | omega) (by first | exact fun _ _ => rfl | exact rows_take | exact rows_vt | exact rows_dt | (intro i hi; simp only [viewRow_eq, Nat.zero_add]) | (intro i hi; simp [viewRow_eq]))), rfl, rfl⟩) ?_
      conv => whnf
      refine ⟨([a1] : List NatEntry).length, rows NatEntry.enc ([a1] : List NatEntry), rfl, build_rows, ?_⟩
      conv => whnf
      refine And.intro (by (conv => whnf); exact ⟨g10, ((a0.take s1.toNat) ++ ([a1] : List NatEntry)).length, rows NatEntry.enc ((a0.take s1.toNat) ++ ([a1] : List NatEntry)), (by first | rfl | (simp; done) | assumption | (simp [dsub_eq] <;> omega) | omega), (by first | exact app_rows (m := ([a1] : List NatEntry).length) (by first | rfl | (simp; done) | assumption | (simp [dsub_eq] <;> omega) | omega) (by first | rfl | (simp; done) | assumption | (simp [dsub_eq] <;> omega) | omega) (fun _ _ => rfl) (fun _ _ => rfl) | exact app_rows0 (m := ([a1] : List NatEntry).length) (by first | rfl | (simp; done) | assumption | (simp [dsub_eq] <;> omega) | omega) (fun _ _ => rfl) | exact app_rows (m := ([a1] : List NatEntry).length) (by first | rfl | (simp; done) | assumption | (simp [dsub_eq] <;> omega) | omega) (by first | rfl | (simp; done) | assumption | (simp [dsub_eq] <;> omega) | omega) (by first | exact fun _ _ => rfl | exact rows_take | exact rows_vt | exact rows_dt | (intro i hi; simp only [viewRow_eq, Nat.zero_add]) | (intro i hi; simp [viewRow_eq])) (by first | exact fun _ _ => rfl | exact rows_take | exact rows_vt | exact rows_dt | (intro i hi; simp only [viewRow_eq, Nat.zero_add]) | (intro i hi; simp [viewRow_eq])) | exact app_rows0 (m := ([a1] : List NatEntry).length) (by first | rfl | (simp; done) | assumption | (simp [dsub_eq] <;> omega) | omega) (by first | exact fun _ _ => rfl | exact rows_take | exact rows_vt | exact rows_dt | (intro i hi; simp only [viewRow_eq, Nat.zero_add]) | (intro i hi; simp [viewRow_eq]))), rfl, rfl⟩) ?_
      conv => whnf
      refine And.intro ⟨g11, .inr rfl⟩ ?_
      conv => whnf
      refine And.intro (by (conv => whnf); exact ⟨g12, (((a0.take s1.toNat) ++ ([a1] : List NatEntry)) ++ (((a0).take (s1.toNat + (dsub ((a0.length : Nat) : Int) s1))).drop s1.toNat)).length, rows NatEntry.enc (((a0.take s1.toNat) ++ ([a1] : List NatEntry)) ++ (((a0).take (s1.toNat + (dsub ((a0.length : Nat) : Int) s1))).drop s1.toNat)), (by first | rfl | (simp; done) | assumption | (simp [dsub_eq] <;> omega) | omega), (by first | exact app_rows (m := (dsub ((a0.length : Nat) : Int) s1)) (by first | rfl | (simp; done) | assumption | (simp [dsub_eq] <;> omega) | omega) (by first | rfl | (simp; done) | assumption | (simp [dsub_eq] <;> omega) | omega) (fun _ _ => rfl) (fun _ _ => rfl) | exact app_rows0 (m := (dsub ((a0.length : Nat) : Int) s1)) (by first | rfl | (simp; done) | assumption | (simp [dsub_eq] <;> omega) | omega) (fun _ _ => rfl) | exact app_rows (m := (dsub ((a0.length : Nat) : Int) s1)) (by first | rfl | (simp; done) | assumption | (simp [dsub_eq] <;> omega) | omega) (by first | rfl | (simp; done) | assumption | (simp [dsub_eq] <;> omega) | omega) (by first | exact fun _ _ => rfl | exact rows_take | exact rows_vt | exact rows_dt | (intro i hi; simp only [viewRow_eq, Nat.zero_add]) | (intro i hi; simp [viewRow_eq])) (by first | exact fun _ _ => rfl | exact rows_take | exact rows_vt | exact rows_dt | (intro i hi; simp only [viewRow_eq, Nat.zero_add]) | (intro i hi; simp [viewRow_eq])) | exact app_rows0 (m := (dsub ((a0.length : Nat) : Int) s1)) (by first | rfl | (simp; done) | assumption | (simp [dsub_eq] <;> omega) | omega) (by first | exact fun _ _ => rfl | exact rows_take | exact rows_vt | exact rows_dt | (intro i hi; simp only [viewRow_eq, Nat.zero_add]) | (intro i hi; simp [viewRow_eq]))), rfl, rfl⟩) ?_
      conv => whnf
      refine And.intro (by kernel_rfl) ?_
      conv => whnf
      obtain rfl := Option.some.inj h
      refine ⟨⟨0, 32, [(4, .osl 5001 0 ((((a0.take s1.toNat) ++ ([a1] : List NatEntry)) ++ (((a0).take (s1.toNat + (dsub ((a0.length : Nat) : Int) s1))).drop s1.toNat)).length))], [], [(5001, .arr 52 7 ((((a0.take s1.toNat) ++ ([a1] : List NatEntry)) ++ (((a0).take (s1.toNat + (dsub ((a0.length : Nat) : Int) s1))).drop s1.toNat)).length) (rows NatEntry.enc (((a0.take s1.toNat) ++ ([a1] : List NatEntry)) ++ (((a0).take (s1.toNat + (dsub ((a0.length : Nat) : Int) s1))).drop s1.toNat))))], []⟩, ?_, And.intro rfl ?_⟩
      · refine LE.trans (S' := ⟨0, 32, [(4, .osl 31 0 ((((a0.take s1.toNat) ++ ([a1] : List NatEntry)) ++ (((a0).take (s1.toNat + (dsub ((a0.length : Nat) : Int) s1))).drop s1.toNat)).length))], [], [(31, .arr 52 7 ((((a0.take s1.toNat) ++ ([a1] : List NatEntry)) ++ (((a0).take (s1.toNat + (dsub ((a0.length : Nat) : Int) s1))).drop s1.toNat)).length) (rows NatEntry.enc (((a0.take s1.toNat) ++ ([a1] : List NatEntry)) ++ (((a0).take (s1.toNat + (dsub ((a0.length : Nat) : Int) s1))).drop s1.toNat))))], []⟩) (le_mk ?_ ?_ ?_) (le_swaps [(31, 5001)] rfl) <;> (repeat' first | ((conv => whnf); first | exact trivial | refine And.intro ?_ ?_ | exact BLe.refl _ | exact VLe.refl _) | exact trivial | exact rfl | refine And.intro ?_ ?_ | exact BLe.refl _ | exact VLe.refl _ | exact VLe.any _ | exact VLe.nil_osl rfl | exact VLe.nil_sl rfl | exact VLe.built rfl rfl | (refine VLe.osl rfl ?_; (first | rfl | (simp; done) | assumption | (simp [dsub_eq] <;> omega) | omega)) | exact VLe.rows (by first | rfl | (simp; done) | assumption | (simp [dsub_eq] <;> omega) | omega) (fun _ _ => rfl) | exact VLe.rows (by simp [dsub_eq] <;> omega) rows_take | exact VLe.rows (by simp [dsub_eq] <;> omega) rows_dt | exact VLe.rows (by simp [dsub_eq] <;> omega) rows_vt | exact VLe.rows (by simp) (fun i _ => by simp [viewRow_eq, Nat.add_comm]) | refine VLe.aggL ?_ | (refine BLe.rows rfl ?_ fun _ _ => rfl; (first | rfl | (simp; done) | assumption | (simp [dsub_eq] <;> omega) | omega)) | (refine BLe.rows rfl rfl ?_; first | exact rows_take) | refine BLe.box ?_)
      · exact And.intro (And.intro rfl (And.intro rfl (fun _ _ => rfl))) (trivial)

noncomputable def spec_NatOut_m (a0 : NatBook) (a1 : NatFlow) : Option (NatBook × NatFlow × Int) :=
 bd (spec_NatBookOk_m a0) fun x1 =>
(if (!x1) = true then
 some ((⟨0, 0, 0, 0, 0, [], 0, []⟩ : NatBook), (⟨0, 0, 0, 0, 0⟩ : NatFlow), 1)
else
 bd (spec_l22Copy_m a0) fun x2 =>
 bd (spec_NatFlowOk_m a1) fun x3 =>
(if (!x3) = true then
 some (x2, (⟨0, 0, 0, 0, 0⟩ : NatFlow), 2)
else
 bd (spec_l22Inside_m a0 a1.From) fun x4 =>
 bd (gcall ((!x4) = false) (spec_l22Inside_m a0 a1.To)) fun x5 =>
(if (((!x4) || x5) || (a1.To == a0.Own)) = true then
 some (x2, (⟨0, 0, 0, 0, 0⟩ : NatFlow), 3)
else
 bd (spec_l23Door_m a0 a1) fun x6 =>
(if (decide (x6 ≥ 0)) = true then
 gd ((0 : Int) ≤ x6 ∧ x6 < ((a0.Doors.length : Nat) : Int)) <|
 bd (spec_l23Under_m a0 a1 ((a0.Doors.getD x6.toNat default).Outer)) fun x8 =>
 some (x2, x8, 0)
else
 bd (spec_l23Entry_m a0 a1) fun x9 =>
(if (decide (x9 ≥ 0)) = true then
 gd ((0 : Int) ≤ x9 ∧ x9 < ((x2.Entries.length : Nat) : Int)) <|
 gd ((0 : Int) ≤ x9 ∧ x9 < ((a0.Entries.length : Nat) : Int)) <|
 bd (spec_l23Under_m a0 a1 ((a0.Entries.getD x9.toNat default).Outer)) fun x12 =>
 some ({ x2 with Entries := x2.Entries.set x9.toNat ({ (x2.Entries.getD x9.toNat default) with Last := a0.Now }) }, x12, 0)
else
(if (((a0.Entries.length : Nat) : Int) == 16) = true then
 some (x2, (⟨0, 0, 0, 0, 0⟩ : NatFlow), 4)
else
 bd (spec_l23Free_m a0 a1) fun x13 =>
(if (x13 == 0) = true then
 some (x2, (⟨0, 0, 0, 0, 0⟩ : NatFlow), 5)
else
 bd (spec_l23Put_m x2.Entries (⟨a1.Kind, a1.To, a1.ToPort, x13, a1.From, a1.FromPort, a0.Now⟩ : NatEntry)) fun x14 =>
 bd (spec_l23Under_m a0 a1 x13) fun x15 =>
 some ({ x2 with Entries := x14 }, x15, 0))))))))

theorem spec_NatOut_c {a0 : NatBook} {a1 : NatFlow} {r : NatBook × NatFlow × Int} (h : spec_NatOut_m a0 a1 = some r) : PureC Try.prog 90 [.agg [.d (.int .i64 a0.Addr), .d (.int .i64 a0.Len), .d (.int .i64 a0.Own), .d (.int .i64 a0.Low), .d (.int .i64 a0.High), .d (slD NatDoor.enc a0.Doors), .d (.int .i64 a0.Now), .d (slD NatEntry.enc a0.Entries)], .agg [.d (.int .i64 a1.Kind), .d (.int .i64 a1.From), .d (.int .i64 a1.FromPort), .d (.int .i64 a1.To), .d (.int .i64 a1.ToPort)]] (.tup [.agg [.d (.int .i64 r.1.Addr), .d (.int .i64 r.1.Len), .d (.int .i64 r.1.Own), .d (.int .i64 r.1.Low), .d (.int .i64 r.1.High), .osl 5001 0 r.1.Doors.length, .d (.int .i64 r.1.Now), .osl 5002 0 r.1.Entries.length], .agg [.d (.int .i64 r.2.1.Kind), .d (.int .i64 r.2.1.From), .d (.int .i64 r.2.1.FromPort), .d (.int .i64 r.2.1.To), .d (.int .i64 r.2.1.ToPort)], .d (.int .i64 r.2.2)]) [⟨5001, 71, 4, r.1.Doors.length, rows NatDoor.enc r.1.Doors⟩, ⟨5002, 52, 7, r.1.Entries.length, rows NatEntry.enc r.1.Entries⟩] := by
  refine pureC_m tOk (fn := Try.f90) (c := codeOf Try.f90) rfl rfl (by kernel_rfl) rfl rfl (by simp [atomD]) (by simp) (ids_of rfl) ?_
  unfold spec_NatOut_m at h
  conv => whnf
  refine seq_in tOk ?_
  conv => whnf
  obtain ⟨x1, hx1, h⟩ := bd_some h
  refine callC 0 (spec_NatBookOk_c hx1) (by kernel_rfl) (by kernel_rfl) ?_
  clear hx1
  conv => whnf
  refine And.intro (fun e => ?_) (fun e => ?_)
  · replace h := ite_t h e; clear e
    conv => whnf
    obtain rfl := Option.some.inj h
    refine ⟨⟨0, 116, [(4, .ref 4 0 0), (5, .ref 5 0 0), (6, .d (.int .i64 1))], [], [(5002, .arr 52 7 (([] : List NatEntry).length) (rows NatEntry.enc ([] : List NatEntry))), (5001, .arr 71 4 (([] : List NatDoor).length) (rows NatDoor.enc ([] : List NatDoor))), (5, .box 39 [.d (.int .i64 0), .d (.int .i64 0), .d (.int .i64 0), .d (.int .i64 0), .d (.int .i64 0)]), (4, .box 31 [.d (.int .i64 0), .d (.int .i64 0), .d (.int .i64 0), .d (.int .i64 0), .d (.int .i64 0), .osl 5001 0 (([] : List NatDoor).length), .d (.int .i64 0), .osl 5002 0 (([] : List NatEntry).length)])], []⟩, ?_, And.intro rfl ?_⟩
    · refine LE.trans (S' := ⟨0, 116, [(4, .ref 4 0 0), (5, .ref 5 0 0), (6, .d (.int .i64 1))], [], [(5, .box 39 [.d (.int .i64 0), .d (.int .i64 0), .d (.int .i64 0), .d (.int .i64 0), .d (.int .i64 0)]), (4, .box 31 [.d (.int .i64 0), .d (.int .i64 0), .d (.int .i64 0), .d (.int .i64 0), .d (.int .i64 0), .d (.nil), .d (.int .i64 0), .d (.nil)])], []⟩) (le_mk ?_ ?_ ?_) (LE.trans (S' := ⟨0, 116, [(4, .ref 4 0 0), (5, .ref 5 0 0), (6, .d (.int .i64 1))], [], [(5001, .arr 71 4 (([] : List NatDoor).length) (rows NatDoor.enc ([] : List NatDoor))), (5, .box 39 [.d (.int .i64 0), .d (.int .i64 0), .d (.int .i64 0), .d (.int .i64 0), .d (.int .i64 0)]), (4, .box 31 [.d (.int .i64 0), .d (.int .i64 0), .d (.int .i64 0), .d (.int .i64 0), .d (.int .i64 0), .d (.nil), .d (.int .i64 0), .d (.nil)])], []⟩) (le_ph 5001 71 4 (rows NatDoor.enc ([] : List NatDoor)) rfl rfl) (LE.trans (S' := ⟨0, 116, [(4, .ref 4 0 0), (5, .ref 5 0 0), (6, .d (.int .i64 1))], [], [(5001, .arr 71 4 (([] : List NatDoor).length) (rows NatDoor.enc ([] : List NatDoor))), (5, .box 39 [.d (.int .i64 0), .d (.int .i64 0), .d (.int .i64 0), .d (.int .i64 0), .d (.int .i64 0)]), (4, .box 31 [.d (.int .i64 0), .d (.int .i64 0), .d (.int .i64 0), .d (.int .i64 0), .d (.int .i64 0), .osl 5001 0 (([] : List NatDoor).length), .d (.int .i64 0), .d (.nil)])], []⟩) (le_mk ?_ ?_ ?_) (LE.trans (S' := ⟨0, 116, [(4, .ref 4 0 0), (5, .ref 5 0 0), (6, .d (.int .i64 1))], [], [(5002, .arr 52 7 (([] : List NatEntry).length) (rows NatEntry.enc ([] : List NatEntry))), (5001, .arr 71 4 (([] : List NatDoor).length) (rows NatDoor.enc ([] : List NatDoor))), (5, .box 39 [.d (.int .i64 0), .d (.int .i64 0), .d (.int .i64 0), .d (.int .i64 0), .d (.int .i64 0)]), (4, .box 31 [.d (.int .i64 0), .d (.int .i64 0), .d (.int .i64 0), .d (.int .i64 0), .d (.int .i64 0), .osl 5001 0 (([] : List NatDoor).length), .d (.int .i64 0), .d (.nil)])], []⟩) (le_ph 5002 52 7 (rows NatEntry.enc ([] : List NatEntry)) rfl rfl) (le_mk ?_ ?_ ?_)))) <;> (repeat' first | ((conv => whnf); first | exact trivial | refine And.intro ?_ ?_ | exact BLe.refl _ | exact VLe.refl _) | exact trivial | exact rfl | refine And.intro ?_ ?_ | exact BLe.refl _ | exact VLe.refl _ | exact VLe.any _ | exact VLe.nil_osl rfl | exact VLe.nil_sl rfl | exact VLe.built rfl rfl | (refine VLe.osl rfl ?_; (first | rfl | (simp; done) | assumption | (simp [dsub_eq] <;> omega) | omega)) | exact VLe.rows (by first | rfl | (simp; done) | assumption | (simp [dsub_eq] <;> omega) | omega) (fun _ _ => rfl) | exact VLe.rows (by simp [dsub_eq] <;> omega) rows_take | exact VLe.rows (by simp [dsub_eq] <;> omega) rows_dt | exact VLe.rows (by simp [dsub_eq] <;> omega) rows_vt | exact VLe.rows (by simp) (fun i _ => by simp [viewRow_eq, Nat.add_comm]) | refine VLe.aggL ?_ | (refine BLe.rows rfl ?_ fun _ _ => rfl; (first | rfl | (simp; done) | assumption | (simp [dsub_eq] <;> omega) | omega)) | (refine BLe.rows rfl rfl ?_; first | exact rows_take) | refine BLe.box ?_)
    · exact And.intro (And.intro rfl (And.intro rfl (fun _ _ => rfl))) (And.intro (And.intro rfl (And.intro rfl (fun _ _ => rfl))) (trivial))
  · replace h := ite_f h e; clear e
    conv => whnf
    obtain ⟨x2, hx2, h⟩ := bd_some h
    refine callC 1000 (spec_l22Copy_c hx2) (by kernel_rfl) (by kernel_rfl) ?_
    clear hx2
    conv => whnf
    refine seq_in tOk ?_
    conv => whnf
    obtain ⟨x3, hx3, h⟩ := bd_some h
    refine callC 0 (spec_NatFlowOk_c hx3) (by kernel_rfl) (by kernel_rfl) ?_
    clear hx3
    conv => whnf
    refine And.intro (fun e => ?_) (fun e => ?_)
    · replace h := ite_t h e; clear e
      conv => whnf
      obtain rfl := Option.some.inj h
      refine ⟨⟨0, 116, [(4, .ref 4 0 0), (5, .ref 5 0 0), (6, .d (.int .i64 2))], [], [(5002, .arr 52 7 x2.Entries.length (rows NatEntry.enc x2.Entries)), (5001, .arr 71 4 x2.Doors.length (rows NatDoor.enc x2.Doors)), (5, .box 39 [.d (.int .i64 0), .d (.int .i64 0), .d (.int .i64 0), .d (.int .i64 0), .d (.int .i64 0)]), (4, .box 31 [.d (.int .i64 x2.Addr), .d (.int .i64 x2.Len), .d (.int .i64 x2.Own), .d (.int .i64 x2.Low), .d (.int .i64 x2.High), .osl 5001 0 x2.Doors.length, .d (.int .i64 x2.Now), .osl 5002 0 x2.Entries.length])], []⟩, ?_, And.intro rfl ?_⟩
      · refine LE.trans (S' := ⟨0, 116, [(4, .ref 4 0 0), (5, .ref 5 0 0), (6, .d (.int .i64 2))], [], [(6002, .arr 52 7 x2.Entries.length (rows NatEntry.enc x2.Entries)), (6001, .arr 71 4 x2.Doors.length (rows NatDoor.enc x2.Doors)), (5, .box 39 [.d (.int .i64 0), .d (.int .i64 0), .d (.int .i64 0), .d (.int .i64 0), .d (.int .i64 0)]), (4, .box 31 [.d (.int .i64 x2.Addr), .d (.int .i64 x2.Len), .d (.int .i64 x2.Own), .d (.int .i64 x2.Low), .d (.int .i64 x2.High), .osl 6001 0 x2.Doors.length, .d (.int .i64 x2.Now), .osl 6002 0 x2.Entries.length])], []⟩) (le_mk ?_ ?_ ?_) (le_swaps [(6001, 5001), (6002, 5002)] rfl) <;> (repeat' first | ((conv => whnf); first | exact trivial | refine And.intro ?_ ?_ | exact BLe.refl _ | exact VLe.refl _) | exact trivial | exact rfl | refine And.intro ?_ ?_ | exact BLe.refl _ | exact VLe.refl _ | exact VLe.any _ | exact VLe.nil_osl rfl | exact VLe.nil_sl rfl | exact VLe.built rfl rfl | (refine VLe.osl rfl ?_; (first | rfl | (simp; done) | assumption | (simp [dsub_eq] <;> omega) | omega)) | exact VLe.rows (by first | rfl | (simp; done) | assumption | (simp [dsub_eq] <;> omega) | omega) (fun _ _ => rfl) | exact VLe.rows (by simp [dsub_eq] <;> omega) rows_take | exact VLe.rows (by simp [dsub_eq] <;> omega) rows_dt | exact VLe.rows (by simp [dsub_eq] <;> omega) rows_vt | exact VLe.rows (by simp) (fun i _ => by simp [viewRow_eq, Nat.add_comm]) | refine VLe.aggL ?_ | (refine BLe.rows rfl ?_ fun _ _ => rfl; (first | rfl | (simp; done) | assumption | (simp [dsub_eq] <;> omega) | omega)) | (refine BLe.rows rfl rfl ?_; first | exact rows_take) | refine BLe.box ?_)
      · exact And.intro (And.intro rfl (And.intro rfl (fun _ _ => rfl))) (And.intro (And.intro rfl (And.intro rfl (fun _ _ => rfl))) (trivial))
    · replace h := ite_f h e; clear e
      conv => whnf
      refine seq_in tOk ?_
      conv => whnf
      obtain ⟨x4, hx4, h⟩ := bd_some h
      refine callC 0 (spec_l22Inside_c hx4) (by kernel_rfl) (by kernel_rfl) ?_
      clear hx4
      conv => whnf
      obtain ⟨x5, hx5, h⟩ := bd_some h
      refine callG_m rfl rfl rfl rfl rfl rfl (by intro c0; exact spec_l22Inside_c (gcall_some hx5 c0)) ?_
      conv => whnf
      refine And.intro (fun e => ?_) (fun e => ?_)
      · replace h := ite_t h e; clear e
        conv => whnf
        obtain rfl := Option.some.inj h
        refine ⟨⟨0, 116, [(4, .ref 4 0 0), (5, .ref 5 0 0), (6, .d (.int .i64 3))], [], [(5002, .arr 52 7 x2.Entries.length (rows NatEntry.enc x2.Entries)), (5001, .arr 71 4 x2.Doors.length (rows NatDoor.enc x2.Doors)), (5, .box 39 [.d (.int .i64 0), .d (.int .i64 0), .d (.int .i64 0), .d (.int .i64 0), .d (.int .i64 0)]), (4, .box 31 [.d (.int .i64 x2.Addr), .d (.int .i64 x2.Len), .d (.int .i64 x2.Own), .d (.int .i64 x2.Low), .d (.int .i64 x2.High), .osl 5001 0 x2.Doors.length, .d (.int .i64 x2.Now), .osl 5002 0 x2.Entries.length])], []⟩, ?_, And.intro rfl ?_⟩
        · refine LE.trans (S' := ⟨0, 116, [(4, .ref 4 0 0), (5, .ref 5 0 0), (6, .d (.int .i64 3))], [], [(6002, .arr 52 7 x2.Entries.length (rows NatEntry.enc x2.Entries)), (6001, .arr 71 4 x2.Doors.length (rows NatDoor.enc x2.Doors)), (5, .box 39 [.d (.int .i64 0), .d (.int .i64 0), .d (.int .i64 0), .d (.int .i64 0), .d (.int .i64 0)]), (4, .box 31 [.d (.int .i64 x2.Addr), .d (.int .i64 x2.Len), .d (.int .i64 x2.Own), .d (.int .i64 x2.Low), .d (.int .i64 x2.High), .osl 6001 0 x2.Doors.length, .d (.int .i64 x2.Now), .osl 6002 0 x2.Entries.length])], []⟩) (le_mk ?_ ?_ ?_) (le_swaps [(6001, 5001), (6002, 5002)] rfl) <;> (repeat' first | ((conv => whnf); first | exact trivial | refine And.intro ?_ ?_ | exact BLe.refl _ | exact VLe.refl _) | exact trivial | exact rfl | refine And.intro ?_ ?_ | exact BLe.refl _ | exact VLe.refl _ | exact VLe.any _ | exact VLe.nil_osl rfl | exact VLe.nil_sl rfl | exact VLe.built rfl rfl | (refine VLe.osl rfl ?_; (first | rfl | (simp; done) | assumption | (simp [dsub_eq] <;> omega) | omega)) | exact VLe.rows (by first | rfl | (simp; done) | assumption | (simp [dsub_eq] <;> omega) | omega) (fun _ _ => rfl) | exact VLe.rows (by simp [dsub_eq] <;> omega) rows_take | exact VLe.rows (by simp [dsub_eq] <;> omega) rows_dt | exact VLe.rows (by simp [dsub_eq] <;> omega) rows_vt | exact VLe.rows (by simp) (fun i _ => by simp [viewRow_eq, Nat.add_comm]) | refine VLe.aggL ?_ | (refine BLe.rows rfl ?_ fun _ _ => rfl; (first | rfl | (simp; done) | assumption | (simp [dsub_eq] <;> omega) | omega)) | (refine BLe.rows rfl rfl ?_; first | exact rows_take) | refine BLe.box ?_)
        · exact And.intro (And.intro rfl (And.intro rfl (fun _ _ => rfl))) (And.intro (And.intro rfl (And.intro rfl (fun _ _ => rfl))) (trivial))
      · replace h := ite_f h e; clear e
        conv => whnf
        obtain ⟨x6, hx6, h⟩ := bd_some h
        refine callC 0 (spec_l23Door_c hx6) (by kernel_rfl) (by kernel_rfl) ?_
        clear hx6
        conv => whnf
        refine seq_in tOk ?_
        conv => whnf
        refine And.intro (fun e => ?_) (fun e => ?_)
        · replace h := ite_t h e; clear e
          conv => whnf
          obtain ⟨g7, h⟩ := gd_some h
          obtain ⟨x8, hx8, h⟩ := bd_some h
          refine draw_k tOk (by kernel_rfl) (fun j => match j with | 9 => some (.pure 0 (.agg [.d (.int .i64 x8.Kind), .d (.int .i64 x8.From), .d (.int .i64 x8.FromPort), .d (.int .i64 x8.To), .d (.int .i64 x8.ToPort)]) []) | _ => none) 10 [] [[], [], [], [], [false, false, false, true], [], [false, false, false, true, true, true], [false, false, false, true, true, true, true], [false, false, false, true, true, true, true, true], [false, true, true, true, true, true, true, true, true]] [[true, true, true, true, true, true, true, true, true, true], [true, true, true, true, true, true, true, true, true, true, true], [true, true, true, true, true, true, true, true, true, true, true, true]] (by decide) (by kernel_rfl) (by kernel_rfl) ?_
          conv => whnf
          refine And.intro g7 ?_
          clear g7
          conv => whnf
          refine And.intro (callD_any (spec_l23Under_c hx8) (by kernel_rfl)) ?_
          conv => whnf
          refine And.intro (by kernel_rfl) ?_
          conv => whnf
          obtain rfl := Option.some.inj h
          refine ⟨⟨0, 116, [(4, .ref 4 0 0), (5, .ref 5 0 0), (6, .d (.int .i64 0))], [], [(5002, .arr 52 7 x2.Entries.length (rows NatEntry.enc x2.Entries)), (5001, .arr 71 4 x2.Doors.length (rows NatDoor.enc x2.Doors)), (5, .box 39 [.d (.int .i64 x8.Kind), .d (.int .i64 x8.From), .d (.int .i64 x8.FromPort), .d (.int .i64 x8.To), .d (.int .i64 x8.ToPort)]), (4, .box 31 [.d (.int .i64 x2.Addr), .d (.int .i64 x2.Len), .d (.int .i64 x2.Own), .d (.int .i64 x2.Low), .d (.int .i64 x2.High), .osl 5001 0 x2.Doors.length, .d (.int .i64 x2.Now), .osl 5002 0 x2.Entries.length])], []⟩, ?_, And.intro rfl ?_⟩
          · refine LE.trans (S' := ⟨0, 116, [(4, .ref 4 0 0), (5, .ref 5 0 0), (6, .d (.int .i64 0))], [], [(6002, .arr 52 7 x2.Entries.length (rows NatEntry.enc x2.Entries)), (6001, .arr 71 4 x2.Doors.length (rows NatDoor.enc x2.Doors)), (5, .box 39 [.d (.int .i64 x8.Kind), .d (.int .i64 x8.From), .d (.int .i64 x8.FromPort), .d (.int .i64 x8.To), .d (.int .i64 x8.ToPort)]), (4, .box 31 [.d (.int .i64 x2.Addr), .d (.int .i64 x2.Len), .d (.int .i64 x2.Own), .d (.int .i64 x2.Low), .d (.int .i64 x2.High), .osl 6001 0 x2.Doors.length, .d (.int .i64 x2.Now), .osl 6002 0 x2.Entries.length])], []⟩) (le_mk ?_ ?_ ?_) (le_swaps [(6001, 5001), (6002, 5002)] rfl) <;> (repeat' first | ((conv => whnf); first | exact trivial | refine And.intro ?_ ?_ | exact BLe.refl _ | exact VLe.refl _) | exact trivial | exact rfl | refine And.intro ?_ ?_ | exact BLe.refl _ | exact VLe.refl _ | exact VLe.any _ | exact VLe.nil_osl rfl | exact VLe.nil_sl rfl | exact VLe.built rfl rfl | (refine VLe.osl rfl ?_; (first | rfl | (simp; done) | assumption | (simp [dsub_eq] <;> omega) | omega)) | exact VLe.rows (by first | rfl | (simp; done) | assumption | (simp [dsub_eq] <;> omega) | omega) (fun _ _ => rfl) | exact VLe.rows (by simp [dsub_eq] <;> omega) rows_take | exact VLe.rows (by simp [dsub_eq] <;> omega) rows_dt | exact VLe.rows (by simp [dsub_eq] <;> omega) rows_vt | exact VLe.rows (by simp) (fun i _ => by simp [viewRow_eq, Nat.add_comm]) | refine VLe.aggL ?_ | (refine BLe.rows rfl ?_ fun _ _ => rfl; (first | rfl | (simp; done) | assumption | (simp [dsub_eq] <;> omega) | omega)) | (refine BLe.rows rfl rfl ?_; first | exact rows_take) | refine BLe.box ?_)
          · exact And.intro (And.intro rfl (And.intro rfl (fun _ _ => rfl))) (And.intro (And.intro rfl (And.intro rfl (fun _ _ => rfl))) (trivial))
        · replace h := ite_f h e; clear e
          conv => whnf
          obtain ⟨x9, hx9, h⟩ := bd_some h
          refine callC 0 (spec_l23Entry_c hx9) (by kernel_rfl) (by kernel_rfl) ?_
          clear hx9
          conv => whnf
          refine seq_in tOk ?_
          conv => whnf
          refine And.intro (fun e => ?_) (fun e => ?_)
          · replace h := ite_t h e; clear e
            conv => whnf
            obtain ⟨g10, h⟩ := gd_some h
            refine And.intro g10 ?_
            clear g10
            conv => whnf
            refine ⟨rows NatEntry.enc (x2.Entries.set x9.toNat ({ (x2.Entries.getD x9.toNat default) with Last := a0.Now })), store_rows' ((by first | rfl | (simp; done) | assumption | (simp [dsub_eq] <;> omega) | omega)) rfl, ?_⟩
            conv => whnf
            obtain ⟨g11, h⟩ := gd_some h
            obtain ⟨x12, hx12, h⟩ := bd_some h
            refine draw_k tOk (by kernel_rfl) (fun j => match j with | 9 => some (.pure 0 (.agg [.d (.int .i64 x12.Kind), .d (.int .i64 x12.From), .d (.int .i64 x12.FromPort), .d (.int .i64 x12.To), .d (.int .i64 x12.ToPort)]) []) | _ => none) 10 [] [[], [], [], [], [false, false, false, true], [], [false, false, false, true, true, true], [false, false, false, true, true, true, true], [false, false, false, true, true, true, true, true], [false, true, true, true, true, true, true, true, true]] [[true, true, true, true, true, true, true, true, true, true], [true, true, true, true, true, true, true, true, true, true, true], [true, true, true, true, true, true, true, true, true, true, true, true]] (by decide) (by kernel_rfl) (by kernel_rfl) ?_
            conv => whnf
            refine And.intro g11 ?_
            clear g11
            conv => whnf
            refine And.intro (callD_any (spec_l23Under_c hx12) (by kernel_rfl)) ?_
            conv => whnf
            refine And.intro (by kernel_rfl) ?_
            conv => whnf
            obtain rfl := Option.some.inj h
            refine ⟨⟨0, 116, [(4, .ref 4 0 0), (5, .ref 5 0 0), (6, .d (.int .i64 0))], [], [(5002, .arr 52 7 ((x2.Entries.set x9.toNat ({ (x2.Entries.getD x9.toNat default) with Last := a0.Now })).length) (rows NatEntry.enc (x2.Entries.set x9.toNat ({ (x2.Entries.getD x9.toNat default) with Last := a0.Now })))), (5001, .arr 71 4 x2.Doors.length (rows NatDoor.enc x2.Doors)), (5, .box 39 [.d (.int .i64 x12.Kind), .d (.int .i64 x12.From), .d (.int .i64 x12.FromPort), .d (.int .i64 x12.To), .d (.int .i64 x12.ToPort)]), (4, .box 31 [.d (.int .i64 x2.Addr), .d (.int .i64 x2.Len), .d (.int .i64 x2.Own), .d (.int .i64 x2.Low), .d (.int .i64 x2.High), .osl 5001 0 x2.Doors.length, .d (.int .i64 x2.Now), .osl 5002 0 ((x2.Entries.set x9.toNat ({ (x2.Entries.getD x9.toNat default) with Last := a0.Now })).length)])], []⟩, ?_, And.intro rfl ?_⟩
            · refine LE.trans (S' := ⟨0, 116, [(4, .ref 4 0 0), (5, .ref 5 0 0), (6, .d (.int .i64 0))], [], [(6002, .arr 52 7 x2.Entries.length (rows NatEntry.enc (x2.Entries.set x9.toNat ({ (x2.Entries.getD x9.toNat default) with Last := a0.Now })))), (6001, .arr 71 4 x2.Doors.length (rows NatDoor.enc x2.Doors)), (5, .box 39 [.d (.int .i64 x12.Kind), .d (.int .i64 x12.From), .d (.int .i64 x12.FromPort), .d (.int .i64 x12.To), .d (.int .i64 x12.ToPort)]), (4, .box 31 [.d (.int .i64 x2.Addr), .d (.int .i64 x2.Len), .d (.int .i64 x2.Own), .d (.int .i64 x2.Low), .d (.int .i64 x2.High), .osl 6001 0 x2.Doors.length, .d (.int .i64 x2.Now), .osl 6002 0 x2.Entries.length])], []⟩) (le_mk ?_ ?_ ?_) (LE.trans (S' := ⟨0, 116, [(4, .ref 4 0 0), (5, .ref 5 0 0), (6, .d (.int .i64 0))], [], [(5002, .arr 52 7 x2.Entries.length (rows NatEntry.enc (x2.Entries.set x9.toNat ({ (x2.Entries.getD x9.toNat default) with Last := a0.Now })))), (5001, .arr 71 4 x2.Doors.length (rows NatDoor.enc x2.Doors)), (5, .box 39 [.d (.int .i64 x12.Kind), .d (.int .i64 x12.From), .d (.int .i64 x12.FromPort), .d (.int .i64 x12.To), .d (.int .i64 x12.ToPort)]), (4, .box 31 [.d (.int .i64 x2.Addr), .d (.int .i64 x2.Len), .d (.int .i64 x2.Own), .d (.int .i64 x2.Low), .d (.int .i64 x2.High), .osl 5001 0 x2.Doors.length, .d (.int .i64 x2.Now), .osl 5002 0 x2.Entries.length])], []⟩) (le_swaps [(6001, 5001), (6002, 5002)] rfl) (le_mk ?_ ?_ ?_)) <;> (repeat' first | ((conv => whnf); first | exact trivial | refine And.intro ?_ ?_ | exact BLe.refl _ | exact VLe.refl _) | exact trivial | exact rfl | refine And.intro ?_ ?_ | exact BLe.refl _ | exact VLe.refl _ | exact VLe.any _ | exact VLe.nil_osl rfl | exact VLe.nil_sl rfl | exact VLe.built rfl rfl | (refine VLe.osl rfl ?_; (first | rfl | (simp; done) | assumption | (simp [dsub_eq] <;> omega) | omega)) | exact VLe.rows (by first | rfl | (simp; done) | assumption | (simp [dsub_eq] <;> omega) | omega) (fun _ _ => rfl) | exact VLe.rows (by simp [dsub_eq] <;> omega) rows_take | exact VLe.rows (by simp [dsub_eq] <;> omega) rows_dt | exact VLe.rows (by simp [dsub_eq] <;> omega) rows_vt | exact VLe.rows (by simp) (fun i _ => by simp [viewRow_eq, Nat.add_comm]) | refine VLe.aggL ?_ | (refine BLe.rows rfl ?_ fun _ _ => rfl; (first | rfl | (simp; done) | assumption | (simp [dsub_eq] <;> omega) | omega)) | (refine BLe.rows rfl rfl ?_; first | exact rows_take) | refine BLe.box ?_)
            · exact And.intro (And.intro rfl (And.intro rfl (fun _ _ => rfl))) (And.intro (And.intro rfl (And.intro rfl (fun _ _ => rfl))) (trivial))
          · replace h := ite_f h e; clear e
            conv => whnf
            refine seq_in tOk ?_
            conv => whnf
            refine And.intro (fun e => ?_) (fun e => ?_)
            · replace h := ite_t h e; clear e
              conv => whnf
              obtain rfl := Option.some.inj h
              refine ⟨⟨0, 116, [(4, .ref 4 0 0), (5, .ref 5 0 0), (6, .d (.int .i64 4))], [], [(5002, .arr 52 7 x2.Entries.length (rows NatEntry.enc x2.Entries)), (5001, .arr 71 4 x2.Doors.length (rows NatDoor.enc x2.Doors)), (5, .box 39 [.d (.int .i64 0), .d (.int .i64 0), .d (.int .i64 0), .d (.int .i64 0), .d (.int .i64 0)]), (4, .box 31 [.d (.int .i64 x2.Addr), .d (.int .i64 x2.Len), .d (.int .i64 x2.Own), .d (.int .i64 x2.Low), .d (.int .i64 x2.High), .osl 5001 0 x2.Doors.length, .d (.int .i64 x2.Now), .osl 5002 0 x2.Entries.length])], []⟩, ?_, And.intro rfl ?_⟩
              · refine LE.trans (S' := ⟨0, 116, [(4, .ref 4 0 0), (5, .ref 5 0 0), (6, .d (.int .i64 4))], [], [(6002, .arr 52 7 x2.Entries.length (rows NatEntry.enc x2.Entries)), (6001, .arr 71 4 x2.Doors.length (rows NatDoor.enc x2.Doors)), (5, .box 39 [.d (.int .i64 0), .d (.int .i64 0), .d (.int .i64 0), .d (.int .i64 0), .d (.int .i64 0)]), (4, .box 31 [.d (.int .i64 x2.Addr), .d (.int .i64 x2.Len), .d (.int .i64 x2.Own), .d (.int .i64 x2.Low), .d (.int .i64 x2.High), .osl 6001 0 x2.Doors.length, .d (.int .i64 x2.Now), .osl 6002 0 x2.Entries.length])], []⟩) (le_mk ?_ ?_ ?_) (le_swaps [(6001, 5001), (6002, 5002)] rfl) <;> (repeat' first | ((conv => whnf); first | exact trivial | refine And.intro ?_ ?_ | exact BLe.refl _ | exact VLe.refl _) | exact trivial | exact rfl | refine And.intro ?_ ?_ | exact BLe.refl _ | exact VLe.refl _ | exact VLe.any _ | exact VLe.nil_osl rfl | exact VLe.nil_sl rfl | exact VLe.built rfl rfl | (refine VLe.osl rfl ?_; (first | rfl | (simp; done) | assumption | (simp [dsub_eq] <;> omega) | omega)) | exact VLe.rows (by first | rfl | (simp; done) | assumption | (simp [dsub_eq] <;> omega) | omega) (fun _ _ => rfl) | exact VLe.rows (by simp [dsub_eq] <;> omega) rows_take | exact VLe.rows (by simp [dsub_eq] <;> omega) rows_dt | exact VLe.rows (by simp [dsub_eq] <;> omega) rows_vt | exact VLe.rows (by simp) (fun i _ => by simp [viewRow_eq, Nat.add_comm]) | refine VLe.aggL ?_ | (refine BLe.rows rfl ?_ fun _ _ => rfl; (first | rfl | (simp; done) | assumption | (simp [dsub_eq] <;> omega) | omega)) | (refine BLe.rows rfl rfl ?_; first | exact rows_take) | refine BLe.box ?_)
              · exact And.intro (And.intro rfl (And.intro rfl (fun _ _ => rfl))) (And.intro (And.intro rfl (And.intro rfl (fun _ _ => rfl))) (trivial))
            · replace h := ite_f h e; clear e
              conv => whnf
              obtain ⟨x13, hx13, h⟩ := bd_some h
              refine callC 0 (spec_l23Free_c hx13) (by kernel_rfl) (by kernel_rfl) ?_
              clear hx13
              conv => whnf
              refine seq_in tOk ?_
              conv => whnf
              refine And.intro (fun e => ?_) (fun e => ?_)
              · replace h := ite_t h e; clear e
                conv => whnf
                obtain rfl := Option.some.inj h
                refine ⟨⟨0, 116, [(4, .ref 4 0 0), (5, .ref 5 0 0), (6, .d (.int .i64 5))], [], [(5002, .arr 52 7 x2.Entries.length (rows NatEntry.enc x2.Entries)), (5001, .arr 71 4 x2.Doors.length (rows NatDoor.enc x2.Doors)), (5, .box 39 [.d (.int .i64 0), .d (.int .i64 0), .d (.int .i64 0), .d (.int .i64 0), .d (.int .i64 0)]), (4, .box 31 [.d (.int .i64 x2.Addr), .d (.int .i64 x2.Len), .d (.int .i64 x2.Own), .d (.int .i64 x2.Low), .d (.int .i64 x2.High), .osl 5001 0 x2.Doors.length, .d (.int .i64 x2.Now), .osl 5002 0 x2.Entries.length])], []⟩, ?_, And.intro rfl ?_⟩
                · refine LE.trans (S' := ⟨0, 116, [(4, .ref 4 0 0), (5, .ref 5 0 0), (6, .d (.int .i64 5))], [], [(6002, .arr 52 7 x2.Entries.length (rows NatEntry.enc x2.Entries)), (6001, .arr 71 4 x2.Doors.length (rows NatDoor.enc x2.Doors)), (5, .box 39 [.d (.int .i64 0), .d (.int .i64 0), .d (.int .i64 0), .d (.int .i64 0), .d (.int .i64 0)]), (4, .box 31 [.d (.int .i64 x2.Addr), .d (.int .i64 x2.Len), .d (.int .i64 x2.Own), .d (.int .i64 x2.Low), .d (.int .i64 x2.High), .osl 6001 0 x2.Doors.length, .d (.int .i64 x2.Now), .osl 6002 0 x2.Entries.length])], []⟩) (le_mk ?_ ?_ ?_) (le_swaps [(6001, 5001), (6002, 5002)] rfl) <;> (repeat' first | ((conv => whnf); first | exact trivial | refine And.intro ?_ ?_ | exact BLe.refl _ | exact VLe.refl _) | exact trivial | exact rfl | refine And.intro ?_ ?_ | exact BLe.refl _ | exact VLe.refl _ | exact VLe.any _ | exact VLe.nil_osl rfl | exact VLe.nil_sl rfl | exact VLe.built rfl rfl | (refine VLe.osl rfl ?_; (first | rfl | (simp; done) | assumption | (simp [dsub_eq] <;> omega) | omega)) | exact VLe.rows (by first | rfl | (simp; done) | assumption | (simp [dsub_eq] <;> omega) | omega) (fun _ _ => rfl) | exact VLe.rows (by simp [dsub_eq] <;> omega) rows_take | exact VLe.rows (by simp [dsub_eq] <;> omega) rows_dt | exact VLe.rows (by simp [dsub_eq] <;> omega) rows_vt | exact VLe.rows (by simp) (fun i _ => by simp [viewRow_eq, Nat.add_comm]) | refine VLe.aggL ?_ | (refine BLe.rows rfl ?_ fun _ _ => rfl; (first | rfl | (simp; done) | assumption | (simp [dsub_eq] <;> omega) | omega)) | (refine BLe.rows rfl rfl ?_; first | exact rows_take) | refine BLe.box ?_)
                · exact And.intro (And.intro rfl (And.intro rfl (fun _ _ => rfl))) (And.intro (And.intro rfl (And.intro rfl (fun _ _ => rfl))) (trivial))
              · replace h := ite_f h e; clear e
                conv => whnf
                obtain ⟨x14, hx14, h⟩ := bd_some h
                refine callC 2000 (spec_l23Put_c hx14) (by kernel_rfl) (by kernel_rfl) ?_
                clear hx14
                conv => whnf
                obtain ⟨x15, hx15, h⟩ := bd_some h
                refine draw_k tOk (by kernel_rfl) (fun j => match j with | 4 => some (.pure 0 (.agg [.d (.int .i64 x15.Kind), .d (.int .i64 x15.From), .d (.int .i64 x15.FromPort), .d (.int .i64 x15.To), .d (.int .i64 x15.ToPort)]) []) | _ => none) 5 [] [[], [], [], [], [false, true, true, true]] [[true, true, true, true, true], [true, true, true, true, true, true], [true, true, true, true, true, true, true]] (by decide) (by kernel_rfl) (by kernel_rfl) ?_
                conv => whnf
                refine And.intro (callD_any (spec_l23Under_c hx15) (by kernel_rfl)) ?_
                conv => whnf
                refine And.intro (by kernel_rfl) ?_
                conv => whnf
                obtain rfl := Option.some.inj h
                refine ⟨⟨0, 116, [(4, .ref 4 0 0), (5, .ref 5 0 0), (6, .d (.int .i64 0))], [], [(5002, .arr 52 7 x14.length (rows NatEntry.enc x14)), (5001, .arr 71 4 x2.Doors.length (rows NatDoor.enc x2.Doors)), (5, .box 39 [.d (.int .i64 x15.Kind), .d (.int .i64 x15.From), .d (.int .i64 x15.FromPort), .d (.int .i64 x15.To), .d (.int .i64 x15.ToPort)]), (4, .box 31 [.d (.int .i64 x2.Addr), .d (.int .i64 x2.Len), .d (.int .i64 x2.Own), .d (.int .i64 x2.Low), .d (.int .i64 x2.High), .osl 5001 0 x2.Doors.length, .d (.int .i64 x2.Now), .osl 5002 0 x14.length])], []⟩, ?_, And.intro rfl ?_⟩
                · refine LE.trans (S' := ⟨0, 116, [(4, .ref 4 0 0), (5, .ref 5 0 0), (6, .d (.int .i64 0))], [], [(7001, .arr 52 7 x14.length (rows NatEntry.enc x14)), (6001, .arr 71 4 x2.Doors.length (rows NatDoor.enc x2.Doors)), (5, .box 39 [.d (.int .i64 x15.Kind), .d (.int .i64 x15.From), .d (.int .i64 x15.FromPort), .d (.int .i64 x15.To), .d (.int .i64 x15.ToPort)]), (4, .box 31 [.d (.int .i64 x2.Addr), .d (.int .i64 x2.Len), .d (.int .i64 x2.Own), .d (.int .i64 x2.Low), .d (.int .i64 x2.High), .osl 6001 0 x2.Doors.length, .d (.int .i64 x2.Now), .osl 7001 0 x14.length])], []⟩) (le_mk ?_ ?_ ?_) (le_swaps [(6001, 5001), (7001, 5002)] rfl) <;> (repeat' first | ((conv => whnf); first | exact trivial | refine And.intro ?_ ?_ | exact BLe.refl _ | exact VLe.refl _) | exact trivial | exact rfl | refine And.intro ?_ ?_ | exact BLe.refl _ | exact VLe.refl _ | exact VLe.any _ | exact VLe.nil_osl rfl | exact VLe.nil_sl rfl | exact VLe.built rfl rfl | (refine VLe.osl rfl ?_; (first | rfl | (simp; done) | assumption | (simp [dsub_eq] <;> omega) | omega)) | exact VLe.rows (by first | rfl | (simp; done) | assumption | (simp [dsub_eq] <;> omega) | omega) (fun _ _ => rfl) | exact VLe.rows (by simp [dsub_eq] <;> omega) rows_take | exact VLe.rows (by simp [dsub_eq] <;> omega) rows_dt | exact VLe.rows (by simp [dsub_eq] <;> omega) rows_vt | exact VLe.rows (by simp) (fun i _ => by simp [viewRow_eq, Nat.add_comm]) | refine VLe.aggL ?_ | (refine BLe.rows rfl ?_ fun _ _ => rfl; (first | rfl | (simp; done) | assumption | (simp [dsub_eq] <;> omega) | omega)) | (refine BLe.rows rfl rfl ?_; first | exact rows_take) | refine BLe.box ?_)
                · exact And.intro (And.intro rfl (And.intro rfl (fun _ _ => rfl))) (And.intro (And.intro rfl (And.intro rfl (fun _ _ => rfl))) (trivial))

noncomputable def spec_NatTick_m (a0 : NatBook) : Option (NatBook × Int) :=
 bd (spec_NatBookOk_m a0) fun x1 =>
(if (!x1) = true then
 some ((⟨0, 0, 0, 0, 0, [], 0, []⟩ : NatBook), 1)
else
 bd (spec_l22Copy_m a0) fun x2 =>
(if (a0.Now == 1000000) = true then
 some (x2, 2)
else
 bd (lp (σ := List NatEntry × Int) (β := (Nat × (List NatEntry))) (fun s3 =>
(if (decide (s3.2 < ((x2.Entries.length : Nat) : Int))) = true then
 gd ((0 : Int) ≤ s3.2 ∧ s3.2 < ((x2.Entries.length : Nat) : Int)) <|
(if (decide ((IntKind.i64.wrap ((IntKind.i64.wrap (a0.Now + 1)) - ((x2.Entries.getD s3.2.toNat default).Last))) < 12)) = true then
 gd ((0 : Int) ≤ s3.2 ∧ s3.2 < ((x2.Entries.length : Nat) : Int)) <|
 gd (((s3.1.length) + (([(x2.Entries.getD s3.2.toNat default)] : List NatEntry).length)) * (56 + 1) ≤ 70368744177664) <|
 some (.inl ((s3.1 ++ ([(x2.Entries.getD s3.2.toNat default)] : List NatEntry)), IntKind.i64.wrap (s3.2 + 1)))
else
 some (.inl (s3.1, IntKind.i64.wrap (s3.2 + 1))))
else
 some (.inr (s3.1.length, s3.1)))) (([] : List NatEntry), 0)) fun x6 =>
 some ({ x2 with Now := IntKind.i64.wrap (a0.Now + 1), Entries := x6.2 }, 0)))

theorem spec_NatTick_c {a0 : NatBook} {r : NatBook × Int} (h : spec_NatTick_m a0 = some r) : PureC Try.prog 20 [.agg [.d (.int .i64 a0.Addr), .d (.int .i64 a0.Len), .d (.int .i64 a0.Own), .d (.int .i64 a0.Low), .d (.int .i64 a0.High), .d (slD NatDoor.enc a0.Doors), .d (.int .i64 a0.Now), .d (slD NatEntry.enc a0.Entries)]] (.tup [.agg [.d (.int .i64 r.1.Addr), .d (.int .i64 r.1.Len), .d (.int .i64 r.1.Own), .d (.int .i64 r.1.Low), .d (.int .i64 r.1.High), .osl 5001 0 r.1.Doors.length, .d (.int .i64 r.1.Now), .osl 5002 0 r.1.Entries.length], .d (.int .i64 r.2)]) [⟨5001, 71, 4, r.1.Doors.length, rows NatDoor.enc r.1.Doors⟩, ⟨5002, 52, 7, r.1.Entries.length, rows NatEntry.enc r.1.Entries⟩] := by
  refine pureC_m tOk (fn := Try.f20) (c := codeOf Try.f20) rfl rfl (by kernel_rfl) rfl rfl (by simp [atomD]) (by simp) (ids_of rfl) ?_
  unfold spec_NatTick_m at h
  conv => whnf
  refine seq_in tOk ?_
  conv => whnf
  obtain ⟨x1, hx1, h⟩ := bd_some h
  refine callC 0 (spec_NatBookOk_c hx1) (by kernel_rfl) (by kernel_rfl) ?_
  clear hx1
  conv => whnf
  refine And.intro (fun e => ?_) (fun e => ?_)
  · replace h := ite_t h e; clear e
    conv => whnf
    obtain rfl := Option.some.inj h
    refine ⟨⟨0, 50, [(2, .ref 2 0 0), (3, .d (.int .i64 1))], [], [(5002, .arr 52 7 (([] : List NatEntry).length) (rows NatEntry.enc ([] : List NatEntry))), (5001, .arr 71 4 (([] : List NatDoor).length) (rows NatDoor.enc ([] : List NatDoor))), (2, .box 31 [.d (.int .i64 0), .d (.int .i64 0), .d (.int .i64 0), .d (.int .i64 0), .d (.int .i64 0), .osl 5001 0 (([] : List NatDoor).length), .d (.int .i64 0), .osl 5002 0 (([] : List NatEntry).length)])], []⟩, ?_, And.intro rfl ?_⟩
    · refine LE.trans (S' := ⟨0, 50, [(2, .ref 2 0 0), (3, .d (.int .i64 1))], [], [(2, .box 31 [.d (.int .i64 0), .d (.int .i64 0), .d (.int .i64 0), .d (.int .i64 0), .d (.int .i64 0), .d (.nil), .d (.int .i64 0), .d (.nil)])], []⟩) (le_mk ?_ ?_ ?_) (LE.trans (S' := ⟨0, 50, [(2, .ref 2 0 0), (3, .d (.int .i64 1))], [], [(5001, .arr 71 4 (([] : List NatDoor).length) (rows NatDoor.enc ([] : List NatDoor))), (2, .box 31 [.d (.int .i64 0), .d (.int .i64 0), .d (.int .i64 0), .d (.int .i64 0), .d (.int .i64 0), .d (.nil), .d (.int .i64 0), .d (.nil)])], []⟩) (le_ph 5001 71 4 (rows NatDoor.enc ([] : List NatDoor)) rfl rfl) (LE.trans (S' := ⟨0, 50, [(2, .ref 2 0 0), (3, .d (.int .i64 1))], [], [(5001, .arr 71 4 (([] : List NatDoor).length) (rows NatDoor.enc ([] : List NatDoor))), (2, .box 31 [.d (.int .i64 0), .d (.int .i64 0), .d (.int .i64 0), .d (.int .i64 0), .d (.int .i64 0), .osl 5001 0 (([] : List NatDoor).length), .d (.int .i64 0), .d (.nil)])], []⟩) (le_mk ?_ ?_ ?_) (LE.trans (S' := ⟨0, 50, [(2, .ref 2 0 0), (3, .d (.int .i64 1))], [], [(5002, .arr 52 7 (([] : List NatEntry).length) (rows NatEntry.enc ([] : List NatEntry))), (5001, .arr 71 4 (([] : List NatDoor).length) (rows NatDoor.enc ([] : List NatDoor))), (2, .box 31 [.d (.int .i64 0), .d (.int .i64 0), .d (.int .i64 0), .d (.int .i64 0), .d (.int .i64 0), .osl 5001 0 (([] : List NatDoor).length), .d (.int .i64 0), .d (.nil)])], []⟩) (le_ph 5002 52 7 (rows NatEntry.enc ([] : List NatEntry)) rfl rfl) (le_mk ?_ ?_ ?_)))) <;> (repeat' first | ((conv => whnf); first | exact trivial | refine And.intro ?_ ?_ | exact BLe.refl _ | exact VLe.refl _) | exact trivial | exact rfl | refine And.intro ?_ ?_ | exact BLe.refl _ | exact VLe.refl _ | exact VLe.any _ | exact VLe.nil_osl rfl | exact VLe.nil_sl rfl | exact VLe.built rfl rfl | (refine VLe.osl rfl ?_; (first | rfl | (simp; done) | assumption | (simp [dsub_eq] <;> omega) | omega)) | exact VLe.rows (by first | rfl | (simp; done) | assumption | (simp [dsub_eq] <;> omega) | omega) (fun _ _ => rfl) | exact VLe.rows (by simp [dsub_eq] <;> omega) rows_take | exact VLe.rows (by simp [dsub_eq] <;> omega) rows_dt | exact VLe.rows (by simp [dsub_eq] <;> omega) rows_vt | exact VLe.rows (by simp) (fun i _ => by simp [viewRow_eq, Nat.add_comm]) | refine VLe.aggL ?_ | (refine BLe.rows rfl ?_ fun _ _ => rfl; (first | rfl | (simp; done) | assumption | (simp [dsub_eq] <;> omega) | omega)) | (refine BLe.rows rfl rfl ?_; first | exact rows_take) | refine BLe.box ?_)
    · exact And.intro (And.intro rfl (And.intro rfl (fun _ _ => rfl))) (And.intro (And.intro rfl (And.intro rfl (fun _ _ => rfl))) (trivial))
  · replace h := ite_f h e; clear e
    conv => whnf
    obtain ⟨x2, hx2, h⟩ := bd_some h
    refine callC 1000 (spec_l22Copy_c hx2) (by kernel_rfl) (by kernel_rfl) ?_
    clear hx2
    conv => whnf
    refine seq_in tOk ?_
    conv => whnf
    refine And.intro (fun e => ?_) (fun e => ?_)
    · replace h := ite_t h e; clear e
      conv => whnf
      obtain rfl := Option.some.inj h
      refine ⟨⟨0, 50, [(2, .ref 2 0 0), (3, .d (.int .i64 2))], [], [(5002, .arr 52 7 x2.Entries.length (rows NatEntry.enc x2.Entries)), (5001, .arr 71 4 x2.Doors.length (rows NatDoor.enc x2.Doors)), (2, .box 31 [.d (.int .i64 x2.Addr), .d (.int .i64 x2.Len), .d (.int .i64 x2.Own), .d (.int .i64 x2.Low), .d (.int .i64 x2.High), .osl 5001 0 x2.Doors.length, .d (.int .i64 x2.Now), .osl 5002 0 x2.Entries.length])], []⟩, ?_, And.intro rfl ?_⟩
      · refine LE.trans (S' := ⟨0, 50, [(2, .ref 2 0 0), (3, .d (.int .i64 2))], [], [(6002, .arr 52 7 x2.Entries.length (rows NatEntry.enc x2.Entries)), (6001, .arr 71 4 x2.Doors.length (rows NatDoor.enc x2.Doors)), (2, .box 31 [.d (.int .i64 x2.Addr), .d (.int .i64 x2.Len), .d (.int .i64 x2.Own), .d (.int .i64 x2.Low), .d (.int .i64 x2.High), .osl 6001 0 x2.Doors.length, .d (.int .i64 x2.Now), .osl 6002 0 x2.Entries.length])], []⟩) (le_mk ?_ ?_ ?_) (le_swaps [(6001, 5001), (6002, 5002)] rfl) <;> (repeat' first | ((conv => whnf); first | exact trivial | refine And.intro ?_ ?_ | exact BLe.refl _ | exact VLe.refl _) | exact trivial | exact rfl | refine And.intro ?_ ?_ | exact BLe.refl _ | exact VLe.refl _ | exact VLe.any _ | exact VLe.nil_osl rfl | exact VLe.nil_sl rfl | exact VLe.built rfl rfl | (refine VLe.osl rfl ?_; (first | rfl | (simp; done) | assumption | (simp [dsub_eq] <;> omega) | omega)) | exact VLe.rows (by first | rfl | (simp; done) | assumption | (simp [dsub_eq] <;> omega) | omega) (fun _ _ => rfl) | exact VLe.rows (by simp [dsub_eq] <;> omega) rows_take | exact VLe.rows (by simp [dsub_eq] <;> omega) rows_dt | exact VLe.rows (by simp [dsub_eq] <;> omega) rows_vt | exact VLe.rows (by simp) (fun i _ => by simp [viewRow_eq, Nat.add_comm]) | refine VLe.aggL ?_ | (refine BLe.rows rfl ?_ fun _ _ => rfl; (first | rfl | (simp; done) | assumption | (simp [dsub_eq] <;> omega) | omega)) | (refine BLe.rows rfl rfl ?_; first | exact rows_take) | refine BLe.box ?_)
      · exact And.intro (And.intro rfl (And.intro rfl (fun _ _ => rfl))) (And.intro (And.intro rfl (And.intro rfl (fun _ _ => rfl))) (trivial))
    · replace h := ite_f h e; clear e
      conv => whnf
      refine seq_in tOk ?_
      conv => whnf
      obtain ⟨x6, hx6, h⟩ := bd_some h
      refine loop_m tOk hx6 (fun s3 => ⟨0, 50, [(2, .ref 2 0 0), (4, .ref 4 0 0), (5, .osl 7001 0 s3.1.length), (6, .d (.int .i64 s3.2))], [], [(7001, .arr 52 7 s3.1.length (rows NatEntry.enc s3.1)), (4, .box 31 [.d (.int .i64 x2.Addr), .d (.int .i64 x2.Len), .d (.int .i64 x2.Own), .d (.int .i64 x2.Low), .d (.int .i64 x2.High), .osl 6001 0 x2.Doors.length, .d (.int .i64 (IntKind.i64.wrap (a0.Now + 1))), .osl 6002 0 x2.Entries.length]), (6002, .arr 52 7 x2.Entries.length (rows NatEntry.enc x2.Entries)), (6001, .arr 71 4 x2.Doors.length (rows NatDoor.enc x2.Doors)), (2, .box 31 [.d (.int .i64 0), .d (.int .i64 0), .d (.int .i64 0), .d (.int .i64 0), .d (.int .i64 0), .d (.nil), .d (.int .i64 0), .d (.nil)])], []⟩) ?_ ?_
      · refine LE.trans (S' := ⟨0, 50, [(2, .ref 2 0 0), (4, .ref 4 0 0), (5, .d (.nil)), (6, .d (.int .i64 0))], [], [(4, .box 31 [.d (.int .i64 x2.Addr), .d (.int .i64 x2.Len), .d (.int .i64 x2.Own), .d (.int .i64 x2.Low), .d (.int .i64 x2.High), .osl 6001 0 x2.Doors.length, .d (.int .i64 (IntKind.i64.wrap (a0.Now + 1))), .osl 6002 0 x2.Entries.length]), (6002, .arr 52 7 x2.Entries.length (rows NatEntry.enc x2.Entries)), (6001, .arr 71 4 x2.Doors.length (rows NatDoor.enc x2.Doors)), (2, .box 31 [.d (.int .i64 0), .d (.int .i64 0), .d (.int .i64 0), .d (.int .i64 0), .d (.int .i64 0), .d (.nil), .d (.int .i64 0), .d (.nil)])], []⟩) (le_mk ?_ ?_ ?_) (LE.trans (S' := ⟨0, 50, [(2, .ref 2 0 0), (4, .ref 4 0 0), (5, .d (.nil)), (6, .d (.int .i64 0))], [], [(7001, .arr 52 7 (([] : List NatEntry).length) (rows NatEntry.enc ([] : List NatEntry))), (4, .box 31 [.d (.int .i64 x2.Addr), .d (.int .i64 x2.Len), .d (.int .i64 x2.Own), .d (.int .i64 x2.Low), .d (.int .i64 x2.High), .osl 6001 0 x2.Doors.length, .d (.int .i64 (IntKind.i64.wrap (a0.Now + 1))), .osl 6002 0 x2.Entries.length]), (6002, .arr 52 7 x2.Entries.length (rows NatEntry.enc x2.Entries)), (6001, .arr 71 4 x2.Doors.length (rows NatDoor.enc x2.Doors)), (2, .box 31 [.d (.int .i64 0), .d (.int .i64 0), .d (.int .i64 0), .d (.int .i64 0), .d (.int .i64 0), .d (.nil), .d (.int .i64 0), .d (.nil)])], []⟩) (le_ph 7001 52 7 (rows NatEntry.enc ([] : List NatEntry)) rfl rfl) (le_mk ?_ ?_ ?_)) <;> (repeat' first | ((conv => whnf); first | exact trivial | refine And.intro ?_ ?_ | exact BLe.refl _ | exact VLe.refl _) | exact trivial | exact rfl | refine And.intro ?_ ?_ | exact BLe.refl _ | exact VLe.refl _ | exact VLe.any _ | exact VLe.nil_osl rfl | exact VLe.nil_sl rfl | exact VLe.built rfl rfl | (refine VLe.osl rfl ?_; (first | rfl | (simp; done) | assumption | (simp [dsub_eq] <;> omega) | omega)) | exact VLe.rows (by first | rfl | (simp; done) | assumption | (simp [dsub_eq] <;> omega) | omega) (fun _ _ => rfl) | exact VLe.rows (by simp [dsub_eq] <;> omega) rows_take | exact VLe.rows (by simp [dsub_eq] <;> omega) rows_dt | exact VLe.rows (by simp [dsub_eq] <;> omega) rows_vt | exact VLe.rows (by simp) (fun i _ => by simp [viewRow_eq, Nat.add_comm]) | refine VLe.aggL ?_ | (refine BLe.rows rfl ?_ fun _ _ => rfl; (first | rfl | (simp; done) | assumption | (simp [dsub_eq] <;> omega) | omega)) | (refine BLe.rows rfl rfl ?_; first | exact rows_take) | refine BLe.box ?_)
      · clear hx6
        intro s3 y4 g5 hy4
        conv => whnf
        refine seq_in tOk ?_
        conv => whnf
        refine And.intro (fun e => ?_) (fun e => ?_)
        · replace g5 := ite_t g5 e; clear e
          conv => whnf
          refine seq_in tOk ?_
          conv => whnf
          obtain ⟨g7, g5⟩ := gd_some g5
          refine draw_k tOk (by kernel_rfl) (fun _ => none) 10 [] [[], [true], [], [false, false, true], [], [false, false, true, true, true], [false, false, true, true, true, true], [false, false, true, true, true, true, true], [true, true, true, true, true, true, true, true], [true, true, true, true, true, true, true, true, true]] [] (by decide) (by kernel_rfl) (by kernel_rfl) ?_
          conv => whnf
          refine And.intro g7 ?_
          clear g7
          conv => whnf
          refine And.intro (by kernel_rfl) ?_
          conv => whnf
          refine And.intro (fun e => ?_) (fun e => ?_)
          · replace g5 := ite_t g5 e; clear e
            conv => whnf
            obtain ⟨g8, g5⟩ := gd_some g5
            refine And.intro g8 ?_
            clear g8
            conv => whnf
            refine ⟨([(x2.Entries.getD s3.2.toNat default)] : List NatEntry).length, rows NatEntry.enc ([(x2.Entries.getD s3.2.toNat default)] : List NatEntry), rfl, build_rows, ?_⟩
            conv => whnf
            obtain ⟨g9, g5⟩ := gd_some g5
            refine And.intro g9 ?_
            clear g9
            refine ⟨(s3.1 ++ ([(x2.Entries.getD s3.2.toNat default)] : List NatEntry)).length, rows NatEntry.enc (s3.1 ++ ([(x2.Entries.getD s3.2.toNat default)] : List NatEntry)), (by first | rfl | (simp; done) | assumption | (simp [dsub_eq] <;> omega) | omega), (by first | exact app_rows (m := ([(x2.Entries.getD s3.2.toNat default)] : List NatEntry).length) (by first | rfl | (simp; done) | assumption | (simp [dsub_eq] <;> omega) | omega) (by first | rfl | (simp; done) | assumption | (simp [dsub_eq] <;> omega) | omega) (fun _ _ => rfl) (fun _ _ => rfl) | exact app_rows0 (m := ([(x2.Entries.getD s3.2.toNat default)] : List NatEntry).length) (by first | rfl | (simp; done) | assumption | (simp [dsub_eq] <;> omega) | omega) (fun _ _ => rfl) | exact app_rows (m := ([(x2.Entries.getD s3.2.toNat default)] : List NatEntry).length) (by first | rfl | (simp; done) | assumption | (simp [dsub_eq] <;> omega) | omega) (by first | rfl | (simp; done) | assumption | (simp [dsub_eq] <;> omega) | omega) (by first | exact fun _ _ => rfl | exact rows_take | exact rows_vt | exact rows_dt | (intro i hi; simp only [viewRow_eq, Nat.zero_add]) | (intro i hi; simp [viewRow_eq])) (by first | exact fun _ _ => rfl | exact rows_take | exact rows_vt | exact rows_dt | (intro i hi; simp only [viewRow_eq, Nat.zero_add]) | (intro i hi; simp [viewRow_eq])) | exact app_rows0 (m := ([(x2.Entries.getD s3.2.toNat default)] : List NatEntry).length) (by first | rfl | (simp; done) | assumption | (simp [dsub_eq] <;> omega) | omega) (by first | exact fun _ _ => rfl | exact rows_take | exact rows_vt | exact rows_dt | (intro i hi; simp only [viewRow_eq, Nat.zero_add]) | (intro i hi; simp [viewRow_eq]))), ?_⟩
            conv => whnf
            obtain rfl := Option.some.inj g5
            refine ⟨_, rfl, le_mk ?_ ?_ ?_⟩ <;> (repeat' first | ((conv => whnf); first | exact trivial | refine And.intro ?_ ?_ | exact BLe.refl _ | exact VLe.refl _) | exact trivial | exact rfl | refine And.intro ?_ ?_ | exact BLe.refl _ | exact VLe.refl _ | exact VLe.any _ | exact VLe.nil_osl rfl | exact VLe.nil_sl rfl | exact VLe.built rfl rfl | (refine VLe.osl rfl ?_; (first | rfl | (simp; done) | assumption | (simp [dsub_eq] <;> omega) | omega)) | exact VLe.rows (by first | rfl | (simp; done) | assumption | (simp [dsub_eq] <;> omega) | omega) (fun _ _ => rfl) | exact VLe.rows (by simp [dsub_eq] <;> omega) rows_take | exact VLe.rows (by simp [dsub_eq] <;> omega) rows_dt | exact VLe.rows (by simp [dsub_eq] <;> omega) rows_vt | exact VLe.rows (by simp) (fun i _ => by simp [viewRow_eq, Nat.add_comm]) | refine VLe.aggL ?_ | (refine BLe.rows rfl ?_ fun _ _ => rfl; (first | rfl | (simp; done) | assumption | (simp [dsub_eq] <;> omega) | omega)) | (refine BLe.rows rfl rfl ?_; first | exact rows_take) | refine BLe.box ?_)
          · replace g5 := ite_f g5 e; clear e
            conv => whnf
            obtain rfl := Option.some.inj g5
            refine ⟨_, rfl, le_mk ?_ ?_ ?_⟩ <;> (repeat' first | ((conv => whnf); first | exact trivial | refine And.intro ?_ ?_ | exact BLe.refl _ | exact VLe.refl _) | exact trivial | exact rfl | refine And.intro ?_ ?_ | exact BLe.refl _ | exact VLe.refl _ | exact VLe.any _ | exact VLe.nil_osl rfl | exact VLe.nil_sl rfl | exact VLe.built rfl rfl | (refine VLe.osl rfl ?_; (first | rfl | (simp; done) | assumption | (simp [dsub_eq] <;> omega) | omega)) | exact VLe.rows (by first | rfl | (simp; done) | assumption | (simp [dsub_eq] <;> omega) | omega) (fun _ _ => rfl) | exact VLe.rows (by simp [dsub_eq] <;> omega) rows_take | exact VLe.rows (by simp [dsub_eq] <;> omega) rows_dt | exact VLe.rows (by simp [dsub_eq] <;> omega) rows_vt | exact VLe.rows (by simp) (fun i _ => by simp [viewRow_eq, Nat.add_comm]) | refine VLe.aggL ?_ | (refine BLe.rows rfl ?_ fun _ _ => rfl; (first | rfl | (simp; done) | assumption | (simp [dsub_eq] <;> omega) | omega)) | (refine BLe.rows rfl rfl ?_; first | exact rows_take) | refine BLe.box ?_)
        · replace g5 := ite_f g5 e; clear e
          conv => whnf
          obtain rfl := Option.some.inj g5
          obtain rfl := hy4 _ rfl
          obtain rfl := Option.some.inj h
          refine ⟨⟨0, 50, [(2, .ref 2 0 0), (3, .d (.int .i64 0))], [], [(5002, .arr 52 7 (s3.1.length, s3.1).2.length (rows NatEntry.enc (s3.1.length, s3.1).2)), (5001, .arr 71 4 x2.Doors.length (rows NatDoor.enc x2.Doors)), (2, .box 31 [.d (.int .i64 x2.Addr), .d (.int .i64 x2.Len), .d (.int .i64 x2.Own), .d (.int .i64 x2.Low), .d (.int .i64 x2.High), .osl 5001 0 x2.Doors.length, .d (.int .i64 (IntKind.i64.wrap (a0.Now + 1))), .osl 5002 0 (s3.1.length, s3.1).2.length])], []⟩, ?_, And.intro rfl ?_⟩
          · refine LE.trans (S' := ⟨0, 50, [(2, .ref 2 0 0), (3, .d (.int .i64 0))], [], [(7001, .arr 52 7 (s3.1.length, s3.1).1 (rows NatEntry.enc (s3.1.length, s3.1).2)), (6001, .arr 71 4 x2.Doors.length (rows NatDoor.enc x2.Doors)), (2, .box 31 [.d (.int .i64 x2.Addr), .d (.int .i64 x2.Len), .d (.int .i64 x2.Own), .d (.int .i64 x2.Low), .d (.int .i64 x2.High), .osl 6001 0 x2.Doors.length, .d (.int .i64 (IntKind.i64.wrap (a0.Now + 1))), .osl 7001 0 (s3.1.length, s3.1).1])], []⟩) (le_mk ?_ ?_ ?_) (LE.trans (S' := ⟨0, 50, [(2, .ref 2 0 0), (3, .d (.int .i64 0))], [], [(5002, .arr 52 7 (s3.1.length, s3.1).1 (rows NatEntry.enc (s3.1.length, s3.1).2)), (5001, .arr 71 4 x2.Doors.length (rows NatDoor.enc x2.Doors)), (2, .box 31 [.d (.int .i64 x2.Addr), .d (.int .i64 x2.Len), .d (.int .i64 x2.Own), .d (.int .i64 x2.Low), .d (.int .i64 x2.High), .osl 5001 0 x2.Doors.length, .d (.int .i64 (IntKind.i64.wrap (a0.Now + 1))), .osl 5002 0 (s3.1.length, s3.1).1])], []⟩) (le_swaps [(6001, 5001), (7001, 5002)] rfl) (le_mk ?_ ?_ ?_)) <;> (repeat' first | ((conv => whnf); first | exact trivial | refine And.intro ?_ ?_ | exact BLe.refl _ | exact VLe.refl _) | exact trivial | exact rfl | refine And.intro ?_ ?_ | exact BLe.refl _ | exact VLe.refl _ | exact VLe.any _ | exact VLe.nil_osl rfl | exact VLe.nil_sl rfl | exact VLe.built rfl rfl | (refine VLe.osl rfl ?_; (first | rfl | (simp; done) | assumption | (simp [dsub_eq] <;> omega) | omega)) | exact VLe.rows (by first | rfl | (simp; done) | assumption | (simp [dsub_eq] <;> omega) | omega) (fun _ _ => rfl) | exact VLe.rows (by simp [dsub_eq] <;> omega) rows_take | exact VLe.rows (by simp [dsub_eq] <;> omega) rows_dt | exact VLe.rows (by simp [dsub_eq] <;> omega) rows_vt | exact VLe.rows (by simp) (fun i _ => by simp [viewRow_eq, Nat.add_comm]) | refine VLe.aggL ?_ | (refine BLe.rows rfl ?_ fun _ _ => rfl; (first | rfl | (simp; done) | assumption | (simp [dsub_eq] <;> omega) | omega)) | (refine BLe.rows rfl rfl ?_; first | exact rows_take) | refine BLe.box ?_)
          · exact And.intro (And.intro rfl (And.intro rfl (fun _ _ => rfl))) (And.intro (And.intro rfl (And.intro rfl (fun _ _ => rfl))) (trivial))

noncomputable def spec_l25Peer_m (a0 : l21Rd) : Option (Int × l21Rd) :=
 bd (spec_l21Rd_pick_m a0 4) fun x1 =>
 gd ((0 : Int) ≤ x1.1 ∧ x1.1 < ((([51202, 51203, 65535, 61440] : List Int).length : Nat) : Int)) <|
 some ((([51202, 51203, 65535, 61440] : List Int).getD x1.1.toNat default), (⟨a0.b, x1.2.p⟩ : l21Rd))

theorem spec_l25Peer_c {a0 : l21Rd} {r : Int × l21Rd} (h : spec_l25Peer_m a0 = some r) : EffC Try.prog 86 [.ref 9000 0 0] [(9000, .box 104 [.d (slD encByte a0.b), .d (.int .i64 a0.p)])] (.d (.int .i64 r.1)) [(9000, .box 104 [.d (slD encByte a0.b), .d (.int .i64 r.2.p)])] := by
  refine effC_m tOk (fn := Try.f86) (c := codeOf Try.f86) rfl rfl (by kernel_rfl) rfl rfl rfl rfl ?_
  unfold spec_l25Peer_m at h
  conv => whnf
  refine ⟨([51202, 51203, 65535, 61440] : List Int).length, rows encInt ([51202, 51203, 65535, 61440] : List Int), rfl, build_rows, ?_⟩
  conv => whnf
  obtain ⟨x1, hx1, h⟩ := bd_some h
  refine callE [(9000, 9000)] 0 (spec_l21Rd_pick_c hx1) (by (repeat' first | ((conv => whnf); first | exact trivial | refine And.intro ?_ ?_ | exact BLe.refl _ | exact VLe.refl _) | exact trivial | refine And.intro ?_ ?_ | exact VLe.refl _ | exact VLe.any _ | exact VLe.nil_osl rfl | exact VLe.nil_sl rfl | exact VLe.built rfl rfl | (refine VLe.osl rfl ?_; (first | rfl | (simp; done) | assumption | (simp [dsub_eq] <;> omega) | omega)) | exact VLe.rows (by first | rfl | (simp; done) | assumption | (simp [dsub_eq] <;> omega) | omega) (fun _ _ => rfl) | exact VLe.rows (by simp [dsub_eq] <;> omega) rows_take | exact VLe.rows (by simp [dsub_eq] <;> omega) rows_dt | exact VLe.rows (by simp [dsub_eq] <;> omega) rows_vt | exact VLe.rows (by simp) (fun i _ => by simp [viewRow_eq, Nat.add_comm]) | refine VLe.aggL ?_)) (by (repeat' first | ((conv => whnf); first | exact trivial | refine And.intro ?_ ?_ | exact BLe.refl _ | exact VLe.refl _) | exact trivial | exact rfl | refine And.intro ?_ ?_ | exact BLe.refl _ | exact VLe.refl _ | exact VLe.any _ | exact VLe.nil_osl rfl | exact VLe.nil_sl rfl | exact VLe.built rfl rfl | (refine VLe.osl rfl ?_; (first | rfl | (simp; done) | assumption | (simp [dsub_eq] <;> omega) | omega)) | exact VLe.rows (by first | rfl | (simp; done) | assumption | (simp [dsub_eq] <;> omega) | omega) (fun _ _ => rfl) | exact VLe.rows (by simp [dsub_eq] <;> omega) rows_take | exact VLe.rows (by simp [dsub_eq] <;> omega) rows_dt | exact VLe.rows (by simp [dsub_eq] <;> omega) rows_vt | exact VLe.rows (by simp) (fun i _ => by simp [viewRow_eq, Nat.add_comm]) | refine VLe.aggL ?_ | (refine BLe.rows rfl ?_ fun _ _ => rfl; (first | rfl | (simp; done) | assumption | (simp [dsub_eq] <;> omega) | omega)) | refine BLe.box ?_ | (simp; done))) rfl rfl ?_
  conv => whnf
  obtain ⟨g2, h⟩ := gd_some h
  refine And.intro g2 ?_
  clear g2
  conv => whnf
  obtain rfl := Option.some.inj h
  refine ⟨⟨0, 8, [(2, .d (.int .i64 (([51202, 51203, 65535, 61440] : List Int).getD x1.1.toNat default)))], [], [(9000, .box 104 [.d (slD encByte a0.b), .d (.int .i64 x1.2.p)])], [⟨[(0, .ref 9000 0 0)], []⟩]⟩, ?_, And.intro rfl (And.intro ?_ ?_)⟩
  · refine le_mk ?_ ?_ ?_ <;> (repeat' first | ((conv => whnf); first | exact trivial | refine And.intro ?_ ?_ | exact BLe.refl _ | exact VLe.refl _) | exact trivial | exact rfl | refine And.intro ?_ ?_ | exact BLe.refl _ | exact VLe.refl _ | exact VLe.any _ | exact VLe.nil_osl rfl | exact VLe.nil_sl rfl | exact VLe.built rfl rfl | (refine VLe.osl rfl ?_; (first | rfl | (simp; done) | assumption | (simp [dsub_eq] <;> omega) | omega)) | exact VLe.rows (by first | rfl | (simp; done) | assumption | (simp [dsub_eq] <;> omega) | omega) (fun _ _ => rfl) | exact VLe.rows (by simp [dsub_eq] <;> omega) rows_take | exact VLe.rows (by simp [dsub_eq] <;> omega) rows_dt | exact VLe.rows (by simp [dsub_eq] <;> omega) rows_vt | exact VLe.rows (by simp) (fun i _ => by simp [viewRow_eq, Nat.add_comm]) | refine VLe.aggL ?_ | (refine BLe.rows rfl ?_ fun _ _ => rfl; (first | rfl | (simp; done) | assumption | (simp [dsub_eq] <;> omega) | omega)) | (refine BLe.rows rfl rfl ?_; first | exact rows_take) | refine BLe.box ?_)
  · (repeat' first | ((conv => whnf); first | exact trivial | refine And.intro ?_ ?_ | exact BLe.refl _ | exact VLe.refl _) | exact trivial | exact rfl | refine And.intro ?_ ?_ | exact BLe.refl _ | exact VLe.refl _ | exact VLe.any _ | exact VLe.nil_osl rfl | exact VLe.nil_sl rfl | exact VLe.built rfl rfl | (refine VLe.osl rfl ?_; (first | rfl | (simp; done) | assumption | (simp [dsub_eq] <;> omega) | omega)) | exact VLe.rows (by first | rfl | (simp; done) | assumption | (simp [dsub_eq] <;> omega) | omega) (fun _ _ => rfl) | exact VLe.rows (by simp [dsub_eq] <;> omega) rows_take | exact VLe.rows (by simp [dsub_eq] <;> omega) rows_dt | exact VLe.rows (by simp [dsub_eq] <;> omega) rows_vt | exact VLe.rows (by simp) (fun i _ => by simp [viewRow_eq, Nat.add_comm]) | refine VLe.aggL ?_ | (refine BLe.rows rfl ?_ fun _ _ => rfl; (first | rfl | (simp; done) | assumption | (simp [dsub_eq] <;> omega) | omega)) | refine BLe.box ?_ | (simp; done))
  · (repeat' first | ((conv => whnf); first | exact trivial | refine And.intro ?_ ?_ | exact BLe.refl _ | exact VLe.refl _) | exact trivial | exact rfl | refine And.intro ?_ ?_ | exact BLe.refl _ | exact VLe.refl _ | exact VLe.any _ | exact VLe.nil_osl rfl | exact VLe.nil_sl rfl | exact VLe.built rfl rfl | (refine VLe.osl rfl ?_; (first | rfl | (simp; done) | assumption | (simp [dsub_eq] <;> omega) | omega)) | exact VLe.rows (by first | rfl | (simp; done) | assumption | (simp [dsub_eq] <;> omega) | omega) (fun _ _ => rfl) | exact VLe.rows (by simp [dsub_eq] <;> omega) rows_take | exact VLe.rows (by simp [dsub_eq] <;> omega) rows_dt | exact VLe.rows (by simp [dsub_eq] <;> omega) rows_vt | exact VLe.rows (by simp) (fun i _ => by simp [viewRow_eq, Nat.add_comm]) | refine VLe.aggL ?_ | (refine BLe.rows rfl ?_ fun _ _ => rfl; (first | rfl | (simp; done) | assumption | (simp [dsub_eq] <;> omega) | omega)) | refine BLe.box ?_ | (simp; done))

end Go.Proofs.Ytkcmmigdhkalnaa
