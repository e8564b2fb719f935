/-
  What some of the program's functions compute: their models, and that the functions compute these; no condition.
-/
import Derived.Test.YtkcmmigdhkalnaaTyz
import Derived.Test.YtkcmmigdhkalnaaTbz
import Derived.Test.YtkcmmigdhkalnaaKz1
set_option linter.all false
namespace Go.Proofs.Ytkcmmigdhkalnaa
open Go Go.Ab
set_option maxRecDepth 100000
set_option maxHeartbeats 4000000
noncomputable def spec_l22Is_m (a0 : NatEntry) (a1 : NatFlow) : Option (Bool) :=
 some (((((a0.Kind == a1.Kind) && (a0.Inner == a1.From)) && (a0.InnerPort == a1.FromPort)) && (a0.Peer == a1.To)) && (a0.PeerPort == a1.ToPort))

theorem spec_l22Is_c {a0 : NatEntry} {a1 : NatFlow} {r : Bool} (h : spec_l22Is_m a0 a1 = some r) : PureC Try.prog 69 [.agg [.d (.int .i64 a0.Kind), .d (.int .i64 a0.Peer), .d (.int .i64 a0.PeerPort), .d (.int .i64 a0.Outer), .d (.int .i64 a0.Inner), .d (.int .i64 a0.InnerPort), .d (.int .i64 a0.Last)], .agg [.d (.int .i64 a1.Kind), .d (.int .i64 a1.From), .d (.int .i64 a1.FromPort), .d (.int .i64 a1.To), .d (.int .i64 a1.ToPort)]] (.d (.bool r)) [] := by
  refine pureC_m tOk (fn := Try.f69) (c := codeOf Try.f69) rfl rfl (by kernel_rfl) rfl rfl (by simp) (by simp) (ids_of rfl) ?_
  unfold spec_l22Is_m at h
  conv => whnf
  obtain rfl := Option.some.inj h
  exact ⟨_, LE.refl _, And.intro rfl trivial⟩

noncomputable def spec_l22Live_m (a0 : NatBook) (a1 : NatEntry) : Option (Bool) :=
 some (decide ((IntKind.i64.wrap (a0.Now - a1.Last)) < 8))

theorem spec_l22Live_c {a0 : NatBook} {a1 : NatEntry} {r : Bool} (h : spec_l22Live_m a0 a1 = some r) : PureC Try.prog 45 [.agg [.d (.int .i64 a0.Addr), .d (.int .i64 a0.Len), .d (.int .i64 a0.Own), .d (.int .i64 a0.Low), .d (.int .i64 a0.High), .d (slD NatDoor.enc a0.Doors), .d (.int .i64 a0.Now), .d (slD NatEntry.enc a0.Entries)], .agg [.d (.int .i64 a1.Kind), .d (.int .i64 a1.Peer), .d (.int .i64 a1.PeerPort), .d (.int .i64 a1.Outer), .d (.int .i64 a1.Inner), .d (.int .i64 a1.InnerPort), .d (.int .i64 a1.Last)]] (.d (.bool r)) [] := by
  refine pureC_m tOk (fn := Try.f45) (c := codeOf Try.f45) rfl rfl (by kernel_rfl) rfl rfl (by simp) (by simp) (ids_of rfl) ?_
  unfold spec_l22Live_m at h
  conv => whnf
  obtain rfl := Option.some.inj h
  exact ⟨_, LE.refl _, And.intro rfl trivial⟩

noncomputable def spec_l22Entries_m (a0 : NatBook) : Option (Bool) :=
(if (decide (((a0.Entries.length : Nat) : Int) > 16)) = true then
 some false
else
 bd (lp (σ := Int) (β := (Unit ⊕ Unit)) (fun s1 =>
(if (decide (s1 < ((a0.Entries.length : Nat) : Int))) = true then
 gd ((0 : Int) ≤ s1 ∧ s1 < ((a0.Entries.length : Nat) : Int)) <|
 bd (spec_l22EntryOk_m a0 (a0.Entries.getD s1.toNat default)) fun x6 =>
 gd ((decide (s1 > 0)) = true → ((!x6) = false → ((0 : Int) ≤ IntKind.i64.wrap (s1 - 1) ∧ IntKind.i64.wrap (s1 - 1) < ((a0.Entries.length : Nat) : Int)))) <|
 bd (gcall ((decide (s1 > 0)) = true ∧ (!x6) = false) (spec_l22Less_m (a0.Entries.getD ((IntKind.i64.wrap (s1 - 1)).toNat) default) (a0.Entries.getD s1.toNat default))) fun x8 =>
(if ((!x6) || ((decide (s1 > 0)) && (!x8))) = true then
 some (.inr (.inl ()))
else
 bd (lp (σ := Int) (β := (Unit ⊕ Unit)) (fun s9 =>
(if (decide (s9 < s1)) = true then
 gd ((0 : Int) ≤ s9 ∧ s9 < ((a0.Entries.length : Nat) : Int)) <|
 bd (spec_l22Flow_m (a0.Entries.getD s1.toNat default)) fun x14 =>
 bd (spec_l22Is_m (a0.Entries.getD s9.toNat default) x14) fun x15 =>
 bd (gcall (x15 = true) (spec_l22Live_m a0 (a0.Entries.getD s1.toNat default))) fun x16 =>
 gd ((x15 && x16) = true → ((0 : Int) ≤ s9 ∧ s9 < ((a0.Entries.length : Nat) : Int))) <|
 bd (gcall ((x15 && x16) = true) (spec_l22Live_m a0 (a0.Entries.getD s9.toNat default))) fun x18 =>
(if ((x15 && x16) && x18) = true then
 some (.inr (.inl ()))
else
 some (.inl (IntKind.i64.wrap (s9 + 1))))
else
 some (.inr (.inr ())))) 0) fun x12 =>
(match x12 with
| .inl d19 =>
 some (.inr (.inl ()))
| .inr d20 =>
 some (.inl (IntKind.i64.wrap (s1 + 1)))))
else
 some (.inr (.inr ())))) 0) fun x4 =>
(match x4 with
| .inl d21 =>
 some false
| .inr d22 =>
 some true))

theorem spec_l22Entries_c {a0 : NatBook} {r : Bool} (h : spec_l22Entries_m a0 = some r) : PureC Try.prog 32 [.agg [.d (.int .i64 a0.Addr), .d (.int .i64 a0.Len), .d (.int .i64 a0.Own), .d (.int .i64 a0.Low), .d (.int .i64 a0.High), .d (slD NatDoor.enc a0.Doors), .d (.int .i64 a0.Now), .d (slD NatEntry.enc a0.Entries)]] (.d (.bool r)) [] := by
  refine pureC_m tOk (fn := Try.f32) (c := codeOf Try.f32) rfl rfl (by kernel_rfl) rfl rfl (by simp) (by simp) (ids_of rfl) ?_
  unfold spec_l22Entries_m at h
  conv => whnf
  refine seq_in tOk ?_
  conv => whnf
  refine And.intro (fun e => ?_) (fun e => ?_)
  · replace h := ite_t h e; clear e
    conv => whnf
    obtain rfl := Option.some.inj h
    exact ⟨_, LE.refl _, And.intro rfl trivial⟩
  · replace h := ite_f h e; clear e
    conv => whnf
    refine seq_in tOk ?_
    conv => whnf
    obtain ⟨x4, hx4, h⟩ := bd_some h
    refine loop_m tOk hx4 (fun s1 => ⟨0, 68, [(1, .ref 1 0 0), (3, .d (.int .i64 s1))], [], [(1, .box 31 [.d (.int .i64 a0.Addr), .d (.int .i64 a0.Len), .d (.int .i64 a0.Own), .d (.int .i64 a0.Low), .d (.int .i64 a0.High), .d (slD NatDoor.enc a0.Doors), .d (.int .i64 a0.Now), .d (slD NatEntry.enc a0.Entries)])], []⟩) ?_ ?_
    · refine le_mk ?_ ?_ ?_ <;> (repeat' first | ((conv => whnf); first | exact trivial | refine And.intro ?_ ?_ | exact BLe.refl _ | exact VLe.refl _) | exact trivial | exact rfl | refine And.intro ?_ ?_ | exact BLe.refl _ | exact VLe.refl _ | exact VLe.any _ | exact VLe.nil_osl rfl | exact VLe.nil_sl rfl | exact VLe.built rfl rfl | (refine VLe.osl rfl ?_; (first | rfl | (simp; done) | assumption | (simp [dsub_eq] <;> omega) | omega)) | exact VLe.rows (by first | rfl | (simp; done) | assumption | (simp [dsub_eq] <;> omega) | omega) (fun _ _ => rfl) | exact VLe.rows (by simp [dsub_eq] <;> omega) rows_take | exact VLe.rows (by simp [dsub_eq] <;> omega) rows_dt | exact VLe.rows (by simp [dsub_eq] <;> omega) rows_vt | exact VLe.rows (by simp) (fun i _ => by simp [viewRow_eq, Nat.add_comm]) | refine VLe.aggL ?_ | (refine BLe.rows rfl ?_ fun _ _ => rfl; (first | rfl | (simp; done) | assumption | (simp [dsub_eq] <;> omega) | omega)) | (refine BLe.rows rfl rfl ?_; first | exact rows_take) | refine BLe.box ?_)
    · clear hx4
      intro s1 y2 g3 hy2
      conv => whnf
      refine seq_in tOk ?_
      conv => whnf
      refine And.intro (fun e => ?_) (fun e => ?_)
      · replace g3 := ite_t g3 e; clear e
        conv => whnf
        refine seq_in tOk ?_
        conv => whnf
        obtain ⟨g5, g3⟩ := gd_some g3
        refine And.intro g5 ?_
        clear g5
        conv => whnf
        refine seq_in tOk ?_
        conv => whnf
        obtain ⟨x6, hx6, g3⟩ := bd_some g3
        obtain ⟨g7, g3⟩ := gd_some g3
        obtain ⟨x8, hx8, g3⟩ := bd_some g3
        refine draw_k tOk (by kernel_rfl) (fun j => match j with | 2 => some (.pure 0 (.d (.bool x6)) []) | 15 => some (.pure 0 (.d (.bool x8)) []) | _ => none) 19 [] [[], [], [true, true], [true, true, true], [true, true, true, true], [true, true, true, true, true], [true, true, true, true, true, true], [true, true, true, true, true, true, true], [true, true, true, true, true, true, true, true], [true, true, true, true, true, true, true, true, true], [true, true, true, true, true, true, true, true], [true, true, true, true, true, true, true, true, false, false, true], [true, true, true, true, true, true, true, true, true, true, true, true], [true, true, true, true, true, true, true, true, true, true, true, true, true], [true, true, true, true, true, true, true, true], [true, true, true, true, true, true, true, true, true, true, true, true, true, true, true], [true, true, true, true, true, true, true, true, true, true, true, true, true, true, true, true], [true, true, true, true, true, true, true, true, true, true, true, true, true, true, true, true, true], [true, true, true, true, true, true, true, true, true, true, true, true, true, true, true, true, true, true]] [] (by decide) (by kernel_rfl) (by kernel_rfl) ?_
        conv => whnf
        refine And.intro (callD_any (spec_l22EntryOk_c hx6) (by kernel_rfl)) ?_
        conv => whnf
        refine And.intro g7 ?_
        clear g7
        conv => whnf
        refine And.intro (callDG_if rfl rfl rfl rfl (by intro c0 c1; exact spec_l22Less_c (gcall_some hx8 ⟨c0, c1⟩))) ?_
        conv => whnf
        refine And.intro (by kernel_rfl) ?_
        conv => whnf
        refine And.intro (fun e => ?_) (fun e => ?_)
        · replace g3 := ite_t g3 e; clear e
          conv => whnf
          obtain rfl := Option.some.inj g3
          obtain rfl := hy2 _ rfl
          obtain rfl := Option.some.inj h
          exact ⟨_, LE.refl _, And.intro rfl trivial⟩
        · replace g3 := ite_f g3 e; clear e
          conv => whnf
          obtain ⟨x12, hx12, g3⟩ := bd_some g3
          refine loop_m tOk hx12 (fun s9 => ⟨0, 68, [(1, .ref 1 0 0), (3, .d (.int .i64 s1)), (4, .ref 4 0 0), (5, .d (.int .i64 s9))], [], [(4, .box 52 [.d (.int .i64 ((a0.Entries.getD s1.toNat default).Kind)), .d (.int .i64 ((a0.Entries.getD s1.toNat default).Peer)), .d (.int .i64 ((a0.Entries.getD s1.toNat default).PeerPort)), .d (.int .i64 ((a0.Entries.getD s1.toNat default).Outer)), .d (.int .i64 ((a0.Entries.getD s1.toNat default).Inner)), .d (.int .i64 ((a0.Entries.getD s1.toNat default).InnerPort)), .d (.int .i64 ((a0.Entries.getD s1.toNat default).Last))]), (1, .box 31 [.d (.int .i64 a0.Addr), .d (.int .i64 a0.Len), .d (.int .i64 a0.Own), .d (.int .i64 a0.Low), .d (.int .i64 a0.High), .d (slD NatDoor.enc a0.Doors), .d (.int .i64 a0.Now), .d (slD NatEntry.enc a0.Entries)])], []⟩) ?_ ?_
          · refine le_mk ?_ ?_ ?_ <;> (repeat' first | ((conv => whnf); first | exact trivial | refine And.intro ?_ ?_ | exact BLe.refl _ | exact VLe.refl _) | exact trivial | exact rfl | refine And.intro ?_ ?_ | exact BLe.refl _ | exact VLe.refl _ | exact VLe.any _ | exact VLe.nil_osl rfl | exact VLe.nil_sl rfl | exact VLe.built rfl rfl | (refine VLe.osl rfl ?_; (first | rfl | (simp; done) | assumption | (simp [dsub_eq] <;> omega) | omega)) | exact VLe.rows (by first | rfl | (simp; done) | assumption | (simp [dsub_eq] <;> omega) | omega) (fun _ _ => rfl) | exact VLe.rows (by simp [dsub_eq] <;> omega) rows_take | exact VLe.rows (by simp [dsub_eq] <;> omega) rows_dt | exact VLe.rows (by simp [dsub_eq] <;> omega) rows_vt | exact VLe.rows (by simp) (fun i _ => by simp [viewRow_eq, Nat.add_comm]) | refine VLe.aggL ?_ | (refine BLe.rows rfl ?_ fun _ _ => rfl; (first | rfl | (simp; done) | assumption | (simp [dsub_eq] <;> omega) | omega)) | (refine BLe.rows rfl rfl ?_; first | exact rows_take) | refine BLe.box ?_)
          · clear hx12
            intro s9 y10 g11 hy10
            conv => whnf
            refine seq_in tOk ?_
            conv => whnf
            refine And.intro (fun e => ?_) (fun e => ?_)
            · replace g11 := ite_t g11 e; clear e
              conv => whnf
              refine seq_in tOk ?_
              conv => whnf
              obtain ⟨g13, g11⟩ := gd_some g11
              obtain ⟨x14, hx14, g11⟩ := bd_some g11
              obtain ⟨x15, hx15, g11⟩ := bd_some g11
              obtain ⟨x16, hx16, g11⟩ := bd_some g11
              obtain ⟨g17, g11⟩ := gd_some g11
              obtain ⟨x18, hx18, g11⟩ := bd_some g11
              refine draw_k tOk (by kernel_rfl) (fun j => match j with | 6 => some (.pure 0 (.agg [.d (.int .i64 x14.Kind), .d (.int .i64 x14.From), .d (.int .i64 x14.FromPort), .d (.int .i64 x14.To), .d (.int .i64 x14.ToPort)]) []) | 7 => some (.pure 0 (.d (.bool x15)) []) | 11 => some (.pure 0 (.d (.bool x16)) []) | 20 => some (.pure 0 (.d (.bool x18)) []) | _ => none) 22 [] [[], [true], [], [true, true, true], [true, true, true, true], [], [false, false, false, false, false, true], [true, true, true, true, true, true, true], [true, true, true, true, true, true, true, true], [true, true, true, true, true, true, true, true, true], [true, true, true, true, true, true, true, true, true], [true, true, true, true, true, true, true, true, true, true, true], [true, true, true, true, true, true, true, true, true, true, true, true], [true, true, true, true, true, true, true, true, true, true, true, true, true], [true, true, true, true, true, true, true, true, true, true, true, true, true, true], [true, true, true, true, true, true, true, true, true, true, true, true, true, true], [true, true, true, true, true, true, true, true, true, true, true, true, true, true, false, true], [true, true, true, true, true, true, true, true, true, true, true, true, true, true], [true, true, true, true, true, true, true, true, true, true, true, true, true, true, false, true, true, true], [true, true, true, true, true, true, true, true, true, true, true, true, true, true, false, true, true, true, true], [true, true, true, true, true, true, true, true, true, true, true, true, true, true, true, true, true, true, true, true], [true, true, true, true, true, true, true, true, true, true, true, true, true, true, true, true, true, true, true, true, true]] [] (by decide) (by kernel_rfl) (by kernel_rfl) ?_
              conv => whnf
              refine And.intro g13 ?_
              clear g13
              conv => whnf
              refine And.intro (callD_any (spec_l22Flow_c hx14) (by kernel_rfl)) ?_
              conv => whnf
              refine And.intro (callD_any (spec_l22Is_c hx15) (by kernel_rfl)) ?_
              conv => whnf
              refine And.intro (callDG_if rfl rfl rfl rfl (by intro c0; exact spec_l22Live_c (gcall_some hx16 c0))) ?_
              conv => whnf
              refine And.intro g17 ?_
              clear g17
              conv => whnf
              refine And.intro (callDG_if rfl rfl rfl rfl (by intro c0; exact spec_l22Live_c (gcall_some hx18 c0))) ?_
              conv => whnf
              refine And.intro (by kernel_rfl) ?_
              conv => whnf
              refine And.intro (fun e => ?_) (fun e => ?_)
              · replace g11 := ite_t g11 e; clear e
                conv => whnf
                obtain rfl := Option.some.inj g11
                obtain rfl := hy10 _ rfl
                obtain rfl := Option.some.inj g3
                obtain rfl := hy2 _ rfl
                obtain rfl := Option.some.inj h
                exact ⟨_, LE.refl _, And.intro rfl trivial⟩
              · replace g11 := ite_f g11 e; clear e
                conv => whnf
                obtain rfl := Option.some.inj g11
                refine ⟨_, rfl, le_mk ?_ ?_ ?_⟩ <;> (repeat' first | ((conv => whnf); first | exact trivial | refine And.intro ?_ ?_ | exact BLe.refl _ | exact VLe.refl _) | exact trivial | exact rfl | refine And.intro ?_ ?_ | exact BLe.refl _ | exact VLe.refl _ | exact VLe.any _ | exact VLe.nil_osl rfl | exact VLe.nil_sl rfl | exact VLe.built rfl rfl | (refine VLe.osl rfl ?_; (first | rfl | (simp; done) | assumption | (simp [dsub_eq] <;> omega) | omega)) | exact VLe.rows (by first | rfl | (simp; done) | assumption | (simp [dsub_eq] <;> omega) | omega) (fun _ _ => rfl) | exact VLe.rows (by simp [dsub_eq] <;> omega) rows_take | exact VLe.rows (by simp [dsub_eq] <;> omega) rows_dt | exact VLe.rows (by simp [dsub_eq] <;> omega) rows_vt | exact VLe.rows (by simp) (fun i _ => by simp [viewRow_eq, Nat.add_comm]) | refine VLe.aggL ?_ | (refine BLe.rows rfl ?_ fun _ _ => rfl; (first | rfl | (simp; done) | assumption | (simp [dsub_eq] <;> omega) | omega)) | (refine BLe.rows rfl rfl ?_; first | exact rows_take) | refine BLe.box ?_)
            · replace g11 := ite_f g11 e; clear e
              conv => whnf
              obtain rfl := Option.some.inj g11
              obtain rfl := hy10 _ rfl
              obtain rfl := Option.some.inj g3
              refine ⟨_, rfl, le_mk ?_ ?_ ?_⟩ <;> (repeat' first | ((conv => whnf); first | exact trivial | refine And.intro ?_ ?_ | exact BLe.refl _ | exact VLe.refl _) | exact trivial | exact rfl | refine And.intro ?_ ?_ | exact BLe.refl _ | exact VLe.refl _ | exact VLe.any _ | exact VLe.nil_osl rfl | exact VLe.nil_sl rfl | exact VLe.built rfl rfl | (refine VLe.osl rfl ?_; (first | rfl | (simp; done) | assumption | (simp [dsub_eq] <;> omega) | omega)) | exact VLe.rows (by first | rfl | (simp; done) | assumption | (simp [dsub_eq] <;> omega) | omega) (fun _ _ => rfl) | exact VLe.rows (by simp [dsub_eq] <;> omega) rows_take | exact VLe.rows (by simp [dsub_eq] <;> omega) rows_dt | exact VLe.rows (by simp [dsub_eq] <;> omega) rows_vt | exact VLe.rows (by simp) (fun i _ => by simp [viewRow_eq, Nat.add_comm]) | refine VLe.aggL ?_ | (refine BLe.rows rfl ?_ fun _ _ => rfl; (first | rfl | (simp; done) | assumption | (simp [dsub_eq] <;> omega) | omega)) | (refine BLe.rows rfl rfl ?_; first | exact rows_take) | refine BLe.box ?_)
      · replace g3 := ite_f g3 e; clear e
        conv => whnf
        obtain rfl := Option.some.inj g3
        obtain rfl := hy2 _ rfl
        obtain rfl := Option.some.inj h
        exact ⟨_, LE.refl _, And.intro rfl trivial⟩

noncomputable def spec_NatBookOk_m (a0 : NatBook) : Option (Bool) :=
 bd (spec_l22Frame_m a0) fun x1 =>
 bd (gcall (x1 = true) (spec_l22Doors_m a0)) fun x2 =>
 bd (gcall ((x1 && x2) = true) (spec_l22Entries_m a0)) fun x3 =>
 some ((x1 && x2) && x3)

theorem spec_NatBookOk_c {a0 : NatBook} {r : Bool} (h : spec_NatBookOk_m a0 = some r) : PureC Try.prog 10 [.agg [.d (.int .i64 a0.Addr), .d (.int .i64 a0.Len), .d (.int .i64 a0.Own), .d (.int .i64 a0.Low), .d (.int .i64 a0.High), .d (slD NatDoor.enc a0.Doors), .d (.int .i64 a0.Now), .d (slD NatEntry.enc a0.Entries)]] (.d (.bool r)) [] := by
  refine pureC_m tOk (fn := Try.f10) (c := codeOf Try.f10) rfl rfl (by kernel_rfl) rfl rfl (by simp) (by simp) (ids_of rfl) ?_
  unfold spec_NatBookOk_m at h
  conv => whnf
  obtain ⟨x1, hx1, h⟩ := bd_some h
  refine callC 0 (spec_l22Frame_c hx1) (by kernel_rfl) (by kernel_rfl) ?_
  clear hx1
  conv => whnf
  obtain ⟨x2, hx2, h⟩ := bd_some h
  refine callG_m rfl rfl rfl rfl rfl rfl (by intro c0; exact spec_l22Doors_c (gcall_some hx2 c0)) ?_
  conv => whnf
  obtain ⟨x3, hx3, h⟩ := bd_some h
  refine callG_m rfl rfl rfl rfl rfl rfl (by intro c0; exact spec_l22Entries_c (gcall_some hx3 c0)) ?_
  conv => whnf
  obtain rfl := Option.some.inj h
  exact ⟨_, LE.refl _, And.intro rfl trivial⟩

noncomputable def spec_l25Frame_m (a0 : l21Rd) : Option (NatBook × l21Rd) :=
 bd (spec_l21Rd_pick_m a0 4) fun x1 =>
 bd (α := Int × Int × Int × Int) (bd (spec_l21Rd_pick_m (⟨a0.b, x1.2.p⟩ : l21Rd) 6) fun x5 =>
(if (x5.1 == 0) = true then
 some (0, 1, IntKind.i64.wrap (40 + x1.1), x5.2.p)
else
(if (x5.1 == 1) = true then
 bd (spec_l21Rd_pick_m (⟨a0.b, x5.2.p⟩ : l21Rd) 2) fun x6 =>
 some (2562, IntKind.i64.wrap (15 + x6.1), IntKind.i64.wrap (40 + x1.1), x6.2.p)
else
(if (x5.1 == 2) = true then
 some (2560, 8, 60, x5.2.p)
else
 some (2560, 8, IntKind.i64.wrap (40 + x1.1), x5.2.p))))) fun x2 =>
 bd (spec_l21Rd_pick_m (⟨a0.b, x2.2.2.2⟩ : l21Rd) 4) fun x7 =>
 bd (lp (σ := List NatDoor × Int × Int) (β := ((List NatDoor) × Int)) (fun s8 =>
(if (decide (s8.2.2 > 0)) = true then
 bd (spec_l21Rd_pick_m (⟨a0.b, s8.2.1⟩ : l21Rd) 2) fun x12 =>
 bd (spec_l21Rd_pick_m (⟨a0.b, x12.2.p⟩ : l21Rd) 5) fun x13 =>
 gd ((0 : Int) ≤ x13.1 ∧ x13.1 < ((([1, 22, 39, 61, 65535] : List Int).length : Nat) : Int)) <|
 bd (spec_l25Inner_m (⟨a0.b, x13.2.p⟩ : l21Rd) (⟨x2.1, x2.2.1, 51201, 40, x2.2.2.1, s8.1, 0, []⟩ : NatBook)) fun x15 =>
 bd (spec_l25Port_m (⟨a0.b, x15.2.p⟩ : l21Rd)) fun x16 =>
 bd (spec_l25PutDoor_m s8.1 (⟨IntKind.i64.wrap (1 + x12.1), (([1, 22, 39, 61, 65535] : List Int).getD x13.1.toNat default), x15.1, x16.1⟩ : NatDoor)) fun x17 =>
 bd (spec_NatBookOk_m (⟨x2.1, x2.2.1, 51201, 40, x2.2.2.1, x17, 0, []⟩ : NatBook)) fun x18 =>
(if x18 = true then
 some (.inl (x17, x16.2.p, IntKind.i64.wrap (s8.2.2 - 1)))
else
 some (.inl (s8.1, x16.2.p, IntKind.i64.wrap (s8.2.2 - 1))))
else
 some (.inr (s8.1, s8.2.1)))) (([] : List NatDoor), x7.2.p, x7.1)) fun x11 =>
 some ((⟨x2.1, x2.2.1, 51201, 40, x2.2.2.1, x11.1, 0, []⟩ : NatBook), (⟨a0.b, x11.2⟩ : l21Rd))

theorem spec_l25Frame_c {a0 : l21Rd} {r : NatBook × l21Rd} (h : spec_l25Frame_m a0 = some r) : EffC Try.prog 89 [.ref 9000 0 0] [(9000, .box 104 [.d (slD encByte a0.b), .d (.int .i64 a0.p)])] (.agg [.d (.int .i64 r.1.Addr), .d (.int .i64 r.1.Len), .d (.int .i64 r.1.Own), .d (.int .i64 r.1.Low), .d (.int .i64 r.1.High), .d (slD NatDoor.enc r.1.Doors), .d (.int .i64 r.1.Now), .osl 5001 0 r.1.Entries.length]) [(9000, .box 104 [.d (slD encByte a0.b), .d (.int .i64 r.2.p)]), (5001, .arr 52 7 r.1.Entries.length (rows NatEntry.enc r.1.Entries))] := by
  refine effC_m tOk (fn := Try.f89) (c := codeOf Try.f89) rfl rfl (by kernel_rfl) rfl rfl rfl rfl ?_
  unfold spec_l25Frame_m at h
  conv => whnf
  obtain ⟨x1, hx1, h⟩ := bd_some h
  refine callE [(9000, 9000)] 0 (spec_l21Rd_pick_c hx1) (by (repeat' first | ((conv => whnf); first | exact trivial | refine And.intro ?_ ?_ | exact BLe.refl _ | exact VLe.refl _) | exact trivial | refine And.intro ?_ ?_ | exact VLe.refl _ | exact VLe.any _ | exact VLe.nil_osl rfl | exact VLe.nil_sl rfl | exact VLe.built rfl rfl | (refine VLe.osl rfl ?_; (first | rfl | (simp; done) | assumption | (simp [dsub_eq] <;> omega) | omega)) | exact VLe.rows (by first | rfl | (simp; done) | assumption | (simp [dsub_eq] <;> omega) | omega) (fun _ _ => rfl) | exact VLe.rows (by simp [dsub_eq] <;> omega) rows_take | exact VLe.rows (by simp [dsub_eq] <;> omega) rows_dt | exact VLe.rows (by simp [dsub_eq] <;> omega) rows_vt | exact VLe.rows (by simp) (fun i _ => by simp [viewRow_eq, Nat.add_comm]) | refine VLe.aggL ?_)) (by (repeat' first | ((conv => whnf); first | exact trivial | refine And.intro ?_ ?_ | exact BLe.refl _ | exact VLe.refl _) | exact trivial | exact rfl | refine And.intro ?_ ?_ | exact BLe.refl _ | exact VLe.refl _ | exact VLe.any _ | exact VLe.nil_osl rfl | exact VLe.nil_sl rfl | exact VLe.built rfl rfl | (refine VLe.osl rfl ?_; (first | rfl | (simp; done) | assumption | (simp [dsub_eq] <;> omega) | omega)) | exact VLe.rows (by first | rfl | (simp; done) | assumption | (simp [dsub_eq] <;> omega) | omega) (fun _ _ => rfl) | exact VLe.rows (by simp [dsub_eq] <;> omega) rows_take | exact VLe.rows (by simp [dsub_eq] <;> omega) rows_dt | exact VLe.rows (by simp [dsub_eq] <;> omega) rows_vt | exact VLe.rows (by simp) (fun i _ => by simp [viewRow_eq, Nat.add_comm]) | refine VLe.aggL ?_ | (refine BLe.rows rfl ?_ fun _ _ => rfl; (first | rfl | (simp; done) | assumption | (simp [dsub_eq] <;> omega) | omega)) | refine BLe.box ?_ | (simp; done))) rfl rfl ?_
  conv => whnf
  obtain ⟨x2, hx2, h⟩ := bd_some h
  refine seq_join tOk (fun s3 => ⟨0, 57, [(0, .ref 9000 0 0), (2, .ref 2 0 0), (3, .ref 3 0 0)], [], [(3, .box 31 [.d (.int .i64 s3.1), .d (.int .i64 s3.2.1), .d (.int .i64 51201), .d (.int .i64 40), .d (.int .i64 s3.2.2.1), .d (.nil), .d (.int .i64 0), .d (.nil)]), (2, .box 31 [.d (.int .i64 0), .d (.int .i64 0), .d (.int .i64 0), .d (.int .i64 0), .d (.int .i64 0), .d (.nil), .d (.int .i64 0), .d (.nil)]), (9000, .box 104 [.d (slD encByte a0.b), .d (.int .i64 s3.2.2.2)])], [⟨[(0, .ref 9000 0 0)], []⟩]⟩) (fun s3 => x2 = s3) ?_ ?_
  · conv => whnf
    obtain ⟨x5, hx5, hx2⟩ := bd_some hx2
    refine callE [(9000, 9000)] 0 (spec_l21Rd_pick_c hx5) (by (repeat' first | ((conv => whnf); first | exact trivial | refine And.intro ?_ ?_ | exact BLe.refl _ | exact VLe.refl _) | exact trivial | refine And.intro ?_ ?_ | exact VLe.refl _ | exact VLe.any _ | exact VLe.nil_osl rfl | exact VLe.nil_sl rfl | exact VLe.built rfl rfl | (refine VLe.osl rfl ?_; (first | rfl | (simp; done) | assumption | (simp [dsub_eq] <;> omega) | omega)) | exact VLe.rows (by first | rfl | (simp; done) | assumption | (simp [dsub_eq] <;> omega) | omega) (fun _ _ => rfl) | exact VLe.rows (by simp [dsub_eq] <;> omega) rows_take | exact VLe.rows (by simp [dsub_eq] <;> omega) rows_dt | exact VLe.rows (by simp [dsub_eq] <;> omega) rows_vt | exact VLe.rows (by simp) (fun i _ => by simp [viewRow_eq, Nat.add_comm]) | refine VLe.aggL ?_)) (by (repeat' first | ((conv => whnf); first | exact trivial | refine And.intro ?_ ?_ | exact BLe.refl _ | exact VLe.refl _) | exact trivial | exact rfl | refine And.intro ?_ ?_ | exact BLe.refl _ | exact VLe.refl _ | exact VLe.any _ | exact VLe.nil_osl rfl | exact VLe.nil_sl rfl | exact VLe.built rfl rfl | (refine VLe.osl rfl ?_; (first | rfl | (simp; done) | assumption | (simp [dsub_eq] <;> omega) | omega)) | exact VLe.rows (by first | rfl | (simp; done) | assumption | (simp [dsub_eq] <;> omega) | omega) (fun _ _ => rfl) | exact VLe.rows (by simp [dsub_eq] <;> omega) rows_take | exact VLe.rows (by simp [dsub_eq] <;> omega) rows_dt | exact VLe.rows (by simp [dsub_eq] <;> omega) rows_vt | exact VLe.rows (by simp) (fun i _ => by simp [viewRow_eq, Nat.add_comm]) | refine VLe.aggL ?_ | (refine BLe.rows rfl ?_ fun _ _ => rfl; (first | rfl | (simp; done) | assumption | (simp [dsub_eq] <;> omega) | omega)) | refine BLe.box ?_ | (simp; done))) rfl rfl ?_
    conv => whnf
    refine And.intro (fun e => ?_) (fun e => ?_)
    · replace hx2 := ite_t hx2 e; clear e
      conv => whnf
      obtain rfl := Option.some.inj hx2
      refine ⟨_, rfl, le_mk ?_ ?_ ?_⟩ <;> (repeat' first | ((conv => whnf); first | exact trivial | refine And.intro ?_ ?_ | exact BLe.refl _ | exact VLe.refl _) | exact trivial | exact rfl | refine And.intro ?_ ?_ | exact BLe.refl _ | exact VLe.refl _ | exact VLe.any _ | exact VLe.nil_osl rfl | exact VLe.nil_sl rfl | exact VLe.built rfl rfl | (refine VLe.osl rfl ?_; (first | rfl | (simp; done) | assumption | (simp [dsub_eq] <;> omega) | omega)) | exact VLe.rows (by first | rfl | (simp; done) | assumption | (simp [dsub_eq] <;> omega) | omega) (fun _ _ => rfl) | exact VLe.rows (by simp [dsub_eq] <;> omega) rows_take | exact VLe.rows (by simp [dsub_eq] <;> omega) rows_dt | exact VLe.rows (by simp [dsub_eq] <;> omega) rows_vt | exact VLe.rows (by simp) (fun i _ => by simp [viewRow_eq, Nat.add_comm]) | refine VLe.aggL ?_ | (refine BLe.rows rfl ?_ fun _ _ => rfl; (first | rfl | (simp; done) | assumption | (simp [dsub_eq] <;> omega) | omega)) | (refine BLe.rows rfl rfl ?_; first | exact rows_take) | refine BLe.box ?_)
    · replace hx2 := ite_f hx2 e; clear e
      conv => whnf
      refine And.intro (fun e => ?_) (fun e => ?_)
      · replace hx2 := ite_t hx2 e; clear e
        conv => whnf
        obtain ⟨x6, hx6, hx2⟩ := bd_some hx2
        refine callE [(9000, 9000)] 0 (spec_l21Rd_pick_c hx6) (by (repeat' first | ((conv => whnf); first | exact trivial | refine And.intro ?_ ?_ | exact BLe.refl _ | exact VLe.refl _) | exact trivial | refine And.intro ?_ ?_ | exact VLe.refl _ | exact VLe.any _ | exact VLe.nil_osl rfl | exact VLe.nil_sl rfl | exact VLe.built rfl rfl | (refine VLe.osl rfl ?_; (first | rfl | (simp; done) | assumption | (simp [dsub_eq] <;> omega) | omega)) | exact VLe.rows (by first | rfl | (simp; done) | assumption | (simp [dsub_eq] <;> omega) | omega) (fun _ _ => rfl) | exact VLe.rows (by simp [dsub_eq] <;> omega) rows_take | exact VLe.rows (by simp [dsub_eq] <;> omega) rows_dt | exact VLe.rows (by simp [dsub_eq] <;> omega) rows_vt | exact VLe.rows (by simp) (fun i _ => by simp [viewRow_eq, Nat.add_comm]) | refine VLe.aggL ?_)) (by (repeat' first | ((conv => whnf); first | exact trivial | refine And.intro ?_ ?_ | exact BLe.refl _ | exact VLe.refl _) | exact trivial | exact rfl | refine And.intro ?_ ?_ | exact BLe.refl _ | exact VLe.refl _ | exact VLe.any _ | exact VLe.nil_osl rfl | exact VLe.nil_sl rfl | exact VLe.built rfl rfl | (refine VLe.osl rfl ?_; (first | rfl | (simp; done) | assumption | (simp [dsub_eq] <;> omega) | omega)) | exact VLe.rows (by first | rfl | (simp; done) | assumption | (simp [dsub_eq] <;> omega) | omega) (fun _ _ => rfl) | exact VLe.rows (by simp [dsub_eq] <;> omega) rows_take | exact VLe.rows (by simp [dsub_eq] <;> omega) rows_dt | exact VLe.rows (by simp [dsub_eq] <;> omega) rows_vt | exact VLe.rows (by simp) (fun i _ => by simp [viewRow_eq, Nat.add_comm]) | refine VLe.aggL ?_ | (refine BLe.rows rfl ?_ fun _ _ => rfl; (first | rfl | (simp; done) | assumption | (simp [dsub_eq] <;> omega) | omega)) | refine BLe.box ?_ | (simp; done))) rfl rfl ?_
        conv => whnf
        obtain rfl := Option.some.inj hx2
        refine ⟨_, rfl, le_mk ?_ ?_ ?_⟩ <;> (repeat' first | ((conv => whnf); first | exact trivial | refine And.intro ?_ ?_ | exact BLe.refl _ | exact VLe.refl _) | exact trivial | exact rfl | refine And.intro ?_ ?_ | exact BLe.refl _ | exact VLe.refl _ | exact VLe.any _ | exact VLe.nil_osl rfl | exact VLe.nil_sl rfl | exact VLe.built rfl rfl | (refine VLe.osl rfl ?_; (first | rfl | (simp; done) | assumption | (simp [dsub_eq] <;> omega) | omega)) | exact VLe.rows (by first | rfl | (simp; done) | assumption | (simp [dsub_eq] <;> omega) | omega) (fun _ _ => rfl) | exact VLe.rows (by simp [dsub_eq] <;> omega) rows_take | exact VLe.rows (by simp [dsub_eq] <;> omega) rows_dt | exact VLe.rows (by simp [dsub_eq] <;> omega) rows_vt | exact VLe.rows (by simp) (fun i _ => by simp [viewRow_eq, Nat.add_comm]) | refine VLe.aggL ?_ | (refine BLe.rows rfl ?_ fun _ _ => rfl; (first | rfl | (simp; done) | assumption | (simp [dsub_eq] <;> omega) | omega)) | (refine BLe.rows rfl rfl ?_; first | exact rows_take) | refine BLe.box ?_)
      · replace hx2 := ite_f hx2 e; clear e
        conv => whnf
        refine And.intro (fun e => ?_) (fun e => ?_)
        · replace hx2 := ite_t hx2 e; clear e
          conv => whnf
          obtain rfl := Option.some.inj hx2
          refine ⟨_, rfl, le_mk ?_ ?_ ?_⟩ <;> (repeat' first | ((conv => whnf); first | exact trivial | refine And.intro ?_ ?_ | exact BLe.refl _ | exact VLe.refl _) | exact trivial | exact rfl | refine And.intro ?_ ?_ | exact BLe.refl _ | exact VLe.refl _ | exact VLe.any _ | exact VLe.nil_osl rfl | exact VLe.nil_sl rfl | exact VLe.built rfl rfl | (refine VLe.osl rfl ?_; (first | rfl | (simp; done) | assumption | (simp [dsub_eq] <;> omega) | omega)) | exact VLe.rows (by first | rfl | (simp; done) | assumption | (simp [dsub_eq] <;> omega) | omega) (fun _ _ => rfl) | exact VLe.rows (by simp [dsub_eq] <;> omega) rows_take | exact VLe.rows (by simp [dsub_eq] <;> omega) rows_dt | exact VLe.rows (by simp [dsub_eq] <;> omega) rows_vt | exact VLe.rows (by simp) (fun i _ => by simp [viewRow_eq, Nat.add_comm]) | refine VLe.aggL ?_ | (refine BLe.rows rfl ?_ fun _ _ => rfl; (first | rfl | (simp; done) | assumption | (simp [dsub_eq] <;> omega) | omega)) | (refine BLe.rows rfl rfl ?_; first | exact rows_take) | refine BLe.box ?_)
        · replace hx2 := ite_f hx2 e; clear e
          conv => whnf
          obtain rfl := Option.some.inj hx2
          refine ⟨_, rfl, le_mk ?_ ?_ ?_⟩ <;> (repeat' first | ((conv => whnf); first | exact trivial | refine And.intro ?_ ?_ | exact BLe.refl _ | exact VLe.refl _) | exact trivial | exact rfl | refine And.intro ?_ ?_ | exact BLe.refl _ | exact VLe.refl _ | exact VLe.any _ | exact VLe.nil_osl rfl | exact VLe.nil_sl rfl | exact VLe.built rfl rfl | (refine VLe.osl rfl ?_; (first | rfl | (simp; done) | assumption | (simp [dsub_eq] <;> omega) | omega)) | exact VLe.rows (by first | rfl | (simp; done) | assumption | (simp [dsub_eq] <;> omega) | omega) (fun _ _ => rfl) | exact VLe.rows (by simp [dsub_eq] <;> omega) rows_take | exact VLe.rows (by simp [dsub_eq] <;> omega) rows_dt | exact VLe.rows (by simp [dsub_eq] <;> omega) rows_vt | exact VLe.rows (by simp) (fun i _ => by simp [viewRow_eq, Nat.add_comm]) | refine VLe.aggL ?_ | (refine BLe.rows rfl ?_ fun _ _ => rfl; (first | rfl | (simp; done) | assumption | (simp [dsub_eq] <;> omega) | omega)) | (refine BLe.rows rfl rfl ?_; first | exact rows_take) | refine BLe.box ?_)
  · rintro _ rfl
    conv => whnf
    refine seq_in tOk ?_
    conv => whnf
    obtain ⟨x7, hx7, h⟩ := bd_some h
    refine callE [(9000, 9000)] 0 (spec_l21Rd_pick_c hx7) (by (repeat' first | ((conv => whnf); first | exact trivial | refine And.intro ?_ ?_ | exact BLe.refl _ | exact VLe.refl _) | exact trivial | refine And.intro ?_ ?_ | exact VLe.refl _ | exact VLe.any _ | exact VLe.nil_osl rfl | exact VLe.nil_sl rfl | exact VLe.built rfl rfl | (refine VLe.osl rfl ?_; (first | rfl | (simp; done) | assumption | (simp [dsub_eq] <;> omega) | omega)) | exact VLe.rows (by first | rfl | (simp; done) | assumption | (simp [dsub_eq] <;> omega) | omega) (fun _ _ => rfl) | exact VLe.rows (by simp [dsub_eq] <;> omega) rows_take | exact VLe.rows (by simp [dsub_eq] <;> omega) rows_dt | exact VLe.rows (by simp [dsub_eq] <;> omega) rows_vt | exact VLe.rows (by simp) (fun i _ => by simp [viewRow_eq, Nat.add_comm]) | refine VLe.aggL ?_)) (by (repeat' first | ((conv => whnf); first | exact trivial | refine And.intro ?_ ?_ | exact BLe.refl _ | exact VLe.refl _) | exact trivial | exact rfl | refine And.intro ?_ ?_ | exact BLe.refl _ | exact VLe.refl _ | exact VLe.any _ | exact VLe.nil_osl rfl | exact VLe.nil_sl rfl | exact VLe.built rfl rfl | (refine VLe.osl rfl ?_; (first | rfl | (simp; done) | assumption | (simp [dsub_eq] <;> omega) | omega)) | exact VLe.rows (by first | rfl | (simp; done) | assumption | (simp [dsub_eq] <;> omega) | omega) (fun _ _ => rfl) | exact VLe.rows (by simp [dsub_eq] <;> omega) rows_take | exact VLe.rows (by simp [dsub_eq] <;> omega) rows_dt | exact VLe.rows (by simp [dsub_eq] <;> omega) rows_vt | exact VLe.rows (by simp) (fun i _ => by simp [viewRow_eq, Nat.add_comm]) | refine VLe.aggL ?_ | (refine BLe.rows rfl ?_ fun _ _ => rfl; (first | rfl | (simp; done) | assumption | (simp [dsub_eq] <;> omega) | omega)) | refine BLe.box ?_ | (simp; done))) rfl rfl ?_
    conv => whnf
    obtain ⟨x11, hx11, h⟩ := bd_some h
    refine loop_m tOk hx11 (fun s8 => ⟨0, 57, [(0, .ref 9000 0 0), (2, .ref 2 0 0), (3, .ref 3 0 0), (4, .d (.int .i64 s8.2.2))], [], [(3, .box 31 [.d (.int .i64 x2.1), .d (.int .i64 x2.2.1), .d (.int .i64 51201), .d (.int .i64 40), .d (.int .i64 x2.2.2.1), .d (slD NatDoor.enc s8.1), .d (.int .i64 0), .d (.nil)]), (2, .box 31 [.d (.int .i64 0), .d (.int .i64 0), .d (.int .i64 0), .d (.int .i64 0), .d (.int .i64 0), .d (.nil), .d (.int .i64 0), .d (.nil)]), (9000, .box 104 [.d (slD encByte a0.b), .d (.int .i64 s8.2.1)])], [⟨[(0, .ref 9000 0 0)], []⟩]⟩) ?_ ?_
    · refine LE.trans (S' := ⟨0, 57, [(0, .ref 9000 0 0), (2, .ref 2 0 0), (3, .ref 3 0 0), (4, .d (.int .i64 x7.1))], [], [(3, .box 31 [.d (.int .i64 x2.1), .d (.int .i64 x2.2.1), .d (.int .i64 51201), .d (.int .i64 40), .d (.int .i64 x2.2.2.1), .d (.nil), .d (.int .i64 0), .d (.nil)]), (2, .box 31 [.d (.int .i64 0), .d (.int .i64 0), .d (.int .i64 0), .d (.int .i64 0), .d (.int .i64 0), .d (.nil), .d (.int .i64 0), .d (.nil)]), (9000, .box 104 [.d (slD encByte a0.b), .d (.int .i64 x7.2.p)])], [⟨[(0, .ref 9000 0 0)], []⟩]⟩) (le_mk ?_ ?_ ?_) (LE.trans (S' := ⟨0, 57, [(0, .ref 9000 0 0), (2, .ref 2 0 0), (3, .ref 3 0 0), (4, .d (.int .i64 x7.1))], [], [(3, .box 31 [.d (.int .i64 x2.1), .d (.int .i64 x2.2.1), .d (.int .i64 51201), .d (.int .i64 40), .d (.int .i64 x2.2.2.1), .d (slD NatDoor.enc ([] : List NatDoor)), .d (.int .i64 0), .d (.nil)]), (2, .box 31 [.d (.int .i64 0), .d (.int .i64 0), .d (.int .i64 0), .d (.int .i64 0), .d (.int .i64 0), .d (.nil), .d (.int .i64 0), .d (.nil)]), (9000, .box 104 [.d (slD encByte a0.b), .d (.int .i64 x7.2.p)])], [⟨[(0, .ref 9000 0 0)], []⟩]⟩) (le_mk ?_ ?_ ?_) (le_mk ?_ ?_ ?_)) <;> (repeat' first | ((conv => whnf); first | exact trivial | refine And.intro ?_ ?_ | exact BLe.refl _ | exact VLe.refl _) | exact trivial | exact rfl | refine And.intro ?_ ?_ | exact BLe.refl _ | exact VLe.refl _ | exact VLe.any _ | exact VLe.nil_osl rfl | exact VLe.nil_sl rfl | exact VLe.built rfl rfl | (refine VLe.osl rfl ?_; (first | rfl | (simp; done) | assumption | (simp [dsub_eq] <;> omega) | omega)) | exact VLe.rows (by first | rfl | (simp; done) | assumption | (simp [dsub_eq] <;> omega) | omega) (fun _ _ => rfl) | exact VLe.rows (by simp [dsub_eq] <;> omega) rows_take | exact VLe.rows (by simp [dsub_eq] <;> omega) rows_dt | exact VLe.rows (by simp [dsub_eq] <;> omega) rows_vt | exact VLe.rows (by simp) (fun i _ => by simp [viewRow_eq, Nat.add_comm]) | refine VLe.aggL ?_ | (refine BLe.rows rfl ?_ fun _ _ => rfl; (first | rfl | (simp; done) | assumption | (simp [dsub_eq] <;> omega) | omega)) | (refine BLe.rows rfl rfl ?_; first | exact rows_take) | refine BLe.box ?_)
    · clear hx11
      intro s8 y9 g10 hy9
      conv => whnf
      refine seq_in tOk ?_
      conv => whnf
      refine And.intro (fun e => ?_) (fun e => ?_)
      · replace g10 := ite_t g10 e; clear e
        conv => whnf
        refine seq_in tOk ?_
        conv => whnf
        obtain ⟨x12, hx12, g10⟩ := bd_some g10
        obtain ⟨x13, hx13, g10⟩ := bd_some g10
        obtain ⟨g14, g10⟩ := gd_some g10
        obtain ⟨x15, hx15, g10⟩ := bd_some g10
        obtain ⟨x16, hx16, g10⟩ := bd_some g10
        refine draw_ek tOk (by kernel_rfl) (fun j => match j with | 1 => some (.eff (.d (.int .i64 x12.1)) [] [(9000, .box 104 [.d (slD encByte a0.b), .d (.int .i64 x12.2.p)])] (fun g vs => EffD Try.prog [(9000, .box 104 [.d (slD encByte a0.b), .d (.int .i64 s8.2.1)])] g vs (.d (.int .i64 x12.1)) [] [(9000, .box 104 [.d (slD encByte a0.b), .d (.int .i64 x12.2.p)])]) (LeB [(9000, .box 104 [.d (slD encByte a0.b), .d (.int .i64 s8.2.1)])] [(9000, .box 104 [.d (slD encByte a0.b), .d (.int .i64 x12.2.p)])])) | 5 => some (.eff (.d (.int .i64 x13.1)) [] [(9000, .box 104 [.d (slD encByte a0.b), .d (.int .i64 x13.2.p)])] (fun g vs => EffD Try.prog [(9000, .box 104 [.d (slD encByte a0.b), .d (.int .i64 x12.2.p)])] g vs (.d (.int .i64 x13.1)) [] [(9000, .box 104 [.d (slD encByte a0.b), .d (.int .i64 x13.2.p)])]) (LeB [(9000, .box 104 [.d (slD encByte a0.b), .d (.int .i64 x12.2.p)])] [(9000, .box 104 [.d (slD encByte a0.b), .d (.int .i64 x13.2.p)])])) | 10 => some (.eff (.d (.int .i64 x15.1)) [] [(9000, .box 104 [.d (slD encByte a0.b), .d (.int .i64 x15.2.p)])] (fun g vs => EffD Try.prog [(9000, .box 104 [.d (slD encByte a0.b), .d (.int .i64 x13.2.p)])] g vs (.d (.int .i64 x15.1)) [] [(9000, .box 104 [.d (slD encByte a0.b), .d (.int .i64 x15.2.p)])]) (LeB [(9000, .box 104 [.d (slD encByte a0.b), .d (.int .i64 x13.2.p)])] [(9000, .box 104 [.d (slD encByte a0.b), .d (.int .i64 x15.2.p)])])) | 12 => some (.eff (.d (.int .i64 x16.1)) [] [(9000, .box 104 [.d (slD encByte a0.b), .d (.int .i64 x16.2.p)])] (fun g vs => EffD Try.prog [(9000, .box 104 [.d (slD encByte a0.b), .d (.int .i64 x15.2.p)])] g vs (.d (.int .i64 x16.1)) [] [(9000, .box 104 [.d (slD encByte a0.b), .d (.int .i64 x16.2.p)])]) (LeB [(9000, .box 104 [.d (slD encByte a0.b), .d (.int .i64 x15.2.p)])] [(9000, .box 104 [.d (slD encByte a0.b), .d (.int .i64 x16.2.p)])])) | _ => none) 15 [] [[], [true], [true, true], [], [], [true, true, false, false, true], [true, true, false, true, true, true], [true, true, false, true, true, true, true], [], [], [true, true, false, false, true, true, false, false, true, true], [], [true, true, false, false, true, true, false, false, true, true, true, true], [true, true, true, true, true, true, true, true, true, true, true, true, true], []] [[true, true, true, true, true, true, true, true, true, true, true, true, true, true, true]] [9000] (by decide) (by kernel_rfl) (chain_pure rfl (chain_pure rfl (chain_eff rfl (fun _ _ h => h) (fun h => h) (chain_pure rfl (chain_eff rfl (fun _ _ h => h) (fun h => h) (chain_pure rfl (chain_pure rfl (chain_pure rfl (chain_pure rfl (chain_eff rfl (fun _ _ h => h) (fun h => h) (chain_pure rfl (chain_pure rfl (chain_pure rfl (chain_eff rfl (fun _ _ h => h) (fun h => h) (chain_pure rfl (chain_nil)))))))))))))))) (by kernel_rfl) ?_
        conv => whnf
        refine And.intro (effD_mk [(9000, 9000)] 0 (spec_l21Rd_pick_c hx12) (by (repeat' first | ((conv => whnf); first | exact trivial | refine And.intro ?_ ?_ | exact BLe.refl _ | exact VLe.refl _) | exact trivial | refine And.intro ?_ ?_ | exact VLe.refl _ | exact VLe.any _ | exact VLe.nil_osl rfl | exact VLe.nil_sl rfl | exact VLe.built rfl rfl | (refine VLe.osl rfl ?_; (first | rfl | (simp; done) | assumption | (simp [dsub_eq] <;> omega) | omega)) | exact VLe.rows (by first | rfl | (simp; done) | assumption | (simp [dsub_eq] <;> omega) | omega) (fun _ _ => rfl) | exact VLe.rows (by simp [dsub_eq] <;> omega) rows_take | exact VLe.rows (by simp [dsub_eq] <;> omega) rows_dt | exact VLe.rows (by simp [dsub_eq] <;> omega) rows_vt | exact VLe.rows (by simp) (fun i _ => by simp [viewRow_eq, Nat.add_comm]) | refine VLe.aggL ?_)) (by (repeat' first | ((conv => whnf); first | exact trivial | refine And.intro ?_ ?_ | exact BLe.refl _ | exact VLe.refl _) | exact trivial | exact rfl | refine And.intro ?_ ?_ | exact BLe.refl _ | exact VLe.refl _ | exact VLe.any _ | exact VLe.nil_osl rfl | exact VLe.nil_sl rfl | exact VLe.built rfl rfl | (refine VLe.osl rfl ?_; (first | rfl | (simp; done) | assumption | (simp [dsub_eq] <;> omega) | omega)) | exact VLe.rows (by first | rfl | (simp; done) | assumption | (simp [dsub_eq] <;> omega) | omega) (fun _ _ => rfl) | exact VLe.rows (by simp [dsub_eq] <;> omega) rows_take | exact VLe.rows (by simp [dsub_eq] <;> omega) rows_dt | exact VLe.rows (by simp [dsub_eq] <;> omega) rows_vt | exact VLe.rows (by simp) (fun i _ => by simp [viewRow_eq, Nat.add_comm]) | refine VLe.aggL ?_ | (refine BLe.rows rfl ?_ fun _ _ => rfl; (first | rfl | (simp; done) | assumption | (simp [dsub_eq] <;> omega) | omega)) | refine BLe.box ?_ | (simp; done))) rfl rfl rfl rfl) ?_
        conv => whnf
        refine ⟨([1, 22, 39, 61, 65535] : List Int).length, rows encInt ([1, 22, 39, 61, 65535] : List Int), rfl, build_rows, ?_⟩
        conv => whnf
        refine And.intro (effD_mk [(9000, 9000)] 0 (spec_l21Rd_pick_c hx13) (by (repeat' first | ((conv => whnf); first | exact trivial | refine And.intro ?_ ?_ | exact BLe.refl _ | exact VLe.refl _) | exact trivial | refine And.intro ?_ ?_ | exact VLe.refl _ | exact VLe.any _ | exact VLe.nil_osl rfl | exact VLe.nil_sl rfl | exact VLe.built rfl rfl | (refine VLe.osl rfl ?_; (first | rfl | (simp; done) | assumption | (simp [dsub_eq] <;> omega) | omega)) | exact VLe.rows (by first | rfl | (simp; done) | assumption | (simp [dsub_eq] <;> omega) | omega) (fun _ _ => rfl) | exact VLe.rows (by simp [dsub_eq] <;> omega) rows_take | exact VLe.rows (by simp [dsub_eq] <;> omega) rows_dt | exact VLe.rows (by simp [dsub_eq] <;> omega) rows_vt | exact VLe.rows (by simp) (fun i _ => by simp [viewRow_eq, Nat.add_comm]) | refine VLe.aggL ?_)) (by (repeat' first | ((conv => whnf); first | exact trivial | refine And.intro ?_ ?_ | exact BLe.refl _ | exact VLe.refl _) | exact trivial | exact rfl | refine And.intro ?_ ?_ | exact BLe.refl _ | exact VLe.refl _ | exact VLe.any _ | exact VLe.nil_osl rfl | exact VLe.nil_sl rfl | exact VLe.built rfl rfl | (refine VLe.osl rfl ?_; (first | rfl | (simp; done) | assumption | (simp [dsub_eq] <;> omega) | omega)) | exact VLe.rows (by first | rfl | (simp; done) | assumption | (simp [dsub_eq] <;> omega) | omega) (fun _ _ => rfl) | exact VLe.rows (by simp [dsub_eq] <;> omega) rows_take | exact VLe.rows (by simp [dsub_eq] <;> omega) rows_dt | exact VLe.rows (by simp [dsub_eq] <;> omega) rows_vt | exact VLe.rows (by simp) (fun i _ => by simp [viewRow_eq, Nat.add_comm]) | refine VLe.aggL ?_ | (refine BLe.rows rfl ?_ fun _ _ => rfl; (first | rfl | (simp; done) | assumption | (simp [dsub_eq] <;> omega) | omega)) | refine BLe.box ?_ | (simp; done))) rfl rfl rfl rfl) ?_
        conv => whnf
        refine And.intro g14 ?_
        clear g14
        conv => whnf
        refine And.intro (effD_mk [(9000, 9000)] 0 (spec_l25Inner_c hx15) (by (repeat' first | ((conv => whnf); first | exact trivial | refine And.intro ?_ ?_ | exact BLe.refl _ | exact VLe.refl _) | exact trivial | refine And.intro ?_ ?_ | exact VLe.refl _ | exact VLe.any _ | exact VLe.nil_osl rfl | exact VLe.nil_sl rfl | exact VLe.built rfl rfl | (refine VLe.osl rfl ?_; (first | rfl | (simp; done) | assumption | (simp [dsub_eq] <;> omega) | omega)) | exact VLe.rows (by first | rfl | (simp; done) | assumption | (simp [dsub_eq] <;> omega) | omega) (fun _ _ => rfl) | exact VLe.rows (by simp [dsub_eq] <;> omega) rows_take | exact VLe.rows (by simp [dsub_eq] <;> omega) rows_dt | exact VLe.rows (by simp [dsub_eq] <;> omega) rows_vt | exact VLe.rows (by simp) (fun i _ => by simp [viewRow_eq, Nat.add_comm]) | refine VLe.aggL ?_)) (by (repeat' first | ((conv => whnf); first | exact trivial | refine And.intro ?_ ?_ | exact BLe.refl _ | exact VLe.refl _) | exact trivial | exact rfl | refine And.intro ?_ ?_ | exact BLe.refl _ | exact VLe.refl _ | exact VLe.any _ | exact VLe.nil_osl rfl | exact VLe.nil_sl rfl | exact VLe.built rfl rfl | (refine VLe.osl rfl ?_; (first | rfl | (simp; done) | assumption | (simp [dsub_eq] <;> omega) | omega)) | exact VLe.rows (by first | rfl | (simp; done) | assumption | (simp [dsub_eq] <;> omega) | omega) (fun _ _ => rfl) | exact VLe.rows (by simp [dsub_eq] <;> omega) rows_take | exact VLe.rows (by simp [dsub_eq] <;> omega) rows_dt | exact VLe.rows (by simp [dsub_eq] <;> omega) rows_vt | exact VLe.rows (by simp) (fun i _ => by simp [viewRow_eq, Nat.add_comm]) | refine VLe.aggL ?_ | (refine BLe.rows rfl ?_ fun _ _ => rfl; (first | rfl | (simp; done) | assumption | (simp [dsub_eq] <;> omega) | omega)) | refine BLe.box ?_ | (simp; done))) rfl rfl rfl rfl) ?_
        conv => whnf
        refine And.intro (effD_mk [(9000, 9000)] 0 (spec_l25Port_c hx16) (by (repeat' first | ((conv => whnf); first | exact trivial | refine And.intro ?_ ?_ | exact BLe.refl _ | exact VLe.refl _) | exact trivial | refine And.intro ?_ ?_ | exact VLe.refl _ | exact VLe.any _ | exact VLe.nil_osl rfl | exact VLe.nil_sl rfl | exact VLe.built rfl rfl | (refine VLe.osl rfl ?_; (first | rfl | (simp; done) | assumption | (simp [dsub_eq] <;> omega) | omega)) | exact VLe.rows (by first | rfl | (simp; done) | assumption | (simp [dsub_eq] <;> omega) | omega) (fun _ _ => rfl) | exact VLe.rows (by simp [dsub_eq] <;> omega) rows_take | exact VLe.rows (by simp [dsub_eq] <;> omega) rows_dt | exact VLe.rows (by simp [dsub_eq] <;> omega) rows_vt | exact VLe.rows (by simp) (fun i _ => by simp [viewRow_eq, Nat.add_comm]) | refine VLe.aggL ?_)) (by (repeat' first | ((conv => whnf); first | exact trivial | refine And.intro ?_ ?_ | exact BLe.refl _ | exact VLe.refl _) | exact trivial | exact rfl | refine And.intro ?_ ?_ | exact BLe.refl _ | exact VLe.refl _ | exact VLe.any _ | exact VLe.nil_osl rfl | exact VLe.nil_sl rfl | exact VLe.built rfl rfl | (refine VLe.osl rfl ?_; (first | rfl | (simp; done) | assumption | (simp [dsub_eq] <;> omega) | omega)) | exact VLe.rows (by first | rfl | (simp; done) | assumption | (simp [dsub_eq] <;> omega) | omega) (fun _ _ => rfl) | exact VLe.rows (by simp [dsub_eq] <;> omega) rows_take | exact VLe.rows (by simp [dsub_eq] <;> omega) rows_dt | exact VLe.rows (by simp [dsub_eq] <;> omega) rows_vt | exact VLe.rows (by simp) (fun i _ => by simp [viewRow_eq, Nat.add_comm]) | refine VLe.aggL ?_ | (refine BLe.rows rfl ?_ fun _ _ => rfl; (first | rfl | (simp; done) | assumption | (simp [dsub_eq] <;> omega) | omega)) | refine BLe.box ?_ | (simp; done))) rfl rfl rfl rfl) ?_
        conv => whnf
        refine And.intro (by kernel_rfl) ?_
        conv => whnf
        obtain ⟨x17, hx17, g10⟩ := bd_some g10
        refine callC 1000 (spec_l25PutDoor_c hx17) (by kernel_rfl) (by kernel_rfl) ?_
        clear hx17
        conv => whnf
        obtain ⟨x18, hx18, g10⟩ := bd_some g10
        refine callW 0 (spec_NatBookOk_c hx18) rfl (by (repeat' first | ((conv => whnf); first | exact trivial | refine And.intro ?_ ?_ | exact BLe.refl _ | exact VLe.refl _) | exact trivial | refine And.intro ?_ ?_ | exact VLe.refl _ | exact VLe.any _ | exact VLe.nil_osl rfl | exact VLe.nil_sl rfl | exact VLe.built rfl rfl | (refine VLe.osl rfl ?_; (first | rfl | (simp; done) | assumption | (simp [dsub_eq] <;> omega) | omega)) | exact VLe.rows (by first | rfl | (simp; done) | assumption | (simp [dsub_eq] <;> omega) | omega) (fun _ _ => rfl) | exact VLe.rows (by simp [dsub_eq] <;> omega) rows_take | exact VLe.rows (by simp [dsub_eq] <;> omega) rows_dt | exact VLe.rows (by simp [dsub_eq] <;> omega) rows_vt | exact VLe.rows (by simp) (fun i _ => by simp [viewRow_eq, Nat.add_comm]) | refine VLe.aggL ?_)) rfl ?_
        conv => whnf
        refine And.intro (fun e => ?_) (fun e => ?_)
        · replace g10 := ite_t g10 e; clear e
          conv => whnf
          obtain rfl := Option.some.inj g10
          refine ⟨_, rfl, LE.trans (S' := ⟨0, 57, [(0, .ref 9000 0 0), (2, .ref 2 0 0), (3, .ref 3 0 0), (4, .d (.int .i64 (IntKind.i64.wrap (s8.2.2 - 1))))], [], [(6001, .arr 71 4 x17.length (rows NatDoor.enc x17)), (3, .box 31 [.d (.int .i64 x2.1), .d (.int .i64 x2.2.1), .d (.int .i64 51201), .d (.int .i64 40), .d (.int .i64 x2.2.2.1), .osl 6001 0 x17.length, .d (.int .i64 0), .d (.nil)]), (2, .box 31 [.d (.int .i64 0), .d (.int .i64 0), .d (.int .i64 0), .d (.int .i64 0), .d (.int .i64 0), .d (.nil), .d (.int .i64 0), .d (.nil)]), (9000, .box 104 [.d (slD encByte a0.b), .d (.int .i64 x16.2.p)])], [⟨[(0, .ref 9000 0 0)], []⟩]⟩) (le_mk ?_ ?_ ?_) (LE.trans (S' := ⟨0, 57, [(0, .ref 9000 0 0), (2, .ref 2 0 0), (3, .ref 3 0 0), (4, .d (.int .i64 (IntKind.i64.wrap (s8.2.2 - 1))))], [], [(3, .box 31 [.d (.int .i64 x2.1), .d (.int .i64 x2.2.1), .d (.int .i64 51201), .d (.int .i64 40), .d (.int .i64 x2.2.2.1), .d (slD NatDoor.enc x17), .d (.int .i64 0), .d (.nil)]), (2, .box 31 [.d (.int .i64 0), .d (.int .i64 0), .d (.int .i64 0), .d (.int .i64 0), .d (.int .i64 0), .d (.nil), .d (.int .i64 0), .d (.nil)]), (9000, .box 104 [.d (slD encByte a0.b), .d (.int .i64 x16.2.p)])], [⟨[(0, .ref 9000 0 0)], []⟩]⟩) (le_frzs [6001] rfl) (le_mk ?_ ?_ ?_))⟩ <;> (repeat' first | ((conv => whnf); first | exact trivial | refine And.intro ?_ ?_ | exact BLe.refl _ | exact VLe.refl _) | exact trivial | exact rfl | refine And.intro ?_ ?_ | exact BLe.refl _ | exact VLe.refl _ | exact VLe.any _ | exact VLe.nil_osl rfl | exact VLe.nil_sl rfl | exact VLe.built rfl rfl | (refine VLe.osl rfl ?_; (first | rfl | (simp; done) | assumption | (simp [dsub_eq] <;> omega) | omega)) | exact VLe.rows (by first | rfl | (simp; done) | assumption | (simp [dsub_eq] <;> omega) | omega) (fun _ _ => rfl) | exact VLe.rows (by simp [dsub_eq] <;> omega) rows_take | exact VLe.rows (by simp [dsub_eq] <;> omega) rows_dt | exact VLe.rows (by simp [dsub_eq] <;> omega) rows_vt | exact VLe.rows (by simp) (fun i _ => by simp [viewRow_eq, Nat.add_comm]) | refine VLe.aggL ?_ | (refine BLe.rows rfl ?_ fun _ _ => rfl; (first | rfl | (simp; done) | assumption | (simp [dsub_eq] <;> omega) | omega)) | (refine BLe.rows rfl rfl ?_; first | exact rows_take) | refine BLe.box ?_)
        · replace g10 := ite_f g10 e; clear e
          conv => whnf
          obtain rfl := Option.some.inj g10
          refine ⟨_, rfl, le_mk ?_ ?_ ?_⟩ <;> (repeat' first | ((conv => whnf); first | exact trivial | refine And.intro ?_ ?_ | exact BLe.refl _ | exact VLe.refl _) | exact trivial | exact rfl | refine And.intro ?_ ?_ | exact BLe.refl _ | exact VLe.refl _ | exact VLe.any _ | exact VLe.nil_osl rfl | exact VLe.nil_sl rfl | exact VLe.built rfl rfl | (refine VLe.osl rfl ?_; (first | rfl | (simp; done) | assumption | (simp [dsub_eq] <;> omega) | omega)) | exact VLe.rows (by first | rfl | (simp; done) | assumption | (simp [dsub_eq] <;> omega) | omega) (fun _ _ => rfl) | exact VLe.rows (by simp [dsub_eq] <;> omega) rows_take | exact VLe.rows (by simp [dsub_eq] <;> omega) rows_dt | exact VLe.rows (by simp [dsub_eq] <;> omega) rows_vt | exact VLe.rows (by simp) (fun i _ => by simp [viewRow_eq, Nat.add_comm]) | refine VLe.aggL ?_ | (refine BLe.rows rfl ?_ fun _ _ => rfl; (first | rfl | (simp; done) | assumption | (simp [dsub_eq] <;> omega) | omega)) | (refine BLe.rows rfl rfl ?_; first | exact rows_take) | refine BLe.box ?_)
      · replace g10 := ite_f g10 e; clear e
        conv => whnf
        obtain rfl := Option.some.inj g10
        obtain rfl := hy9 _ rfl
        obtain rfl := Option.some.inj h
        refine ⟨⟨0, 57, [(2, .ref 2 0 0)], [], [(5001, .arr 52 7 (([] : List NatEntry).length) (rows NatEntry.enc ([] : List NatEntry))), (2, .box 31 [.d (.int .i64 x2.1), .d (.int .i64 x2.2.1), .d (.int .i64 51201), .d (.int .i64 40), .d (.int .i64 x2.2.2.1), .d (slD NatDoor.enc (s8.1, s8.2.1).1), .d (.int .i64 0), .osl 5001 0 (([] : List NatEntry).length)]), (9000, .box 104 [.d (slD encByte a0.b), .d (.int .i64 (s8.1, s8.2.1).2)])], [⟨[(0, .ref 9000 0 0)], []⟩]⟩, ?_, And.intro rfl (And.intro ?_ ?_)⟩
        · refine LE.trans (S' := ⟨0, 57, [(2, .ref 2 0 0)], [], [(2, .box 31 [.d (.int .i64 x2.1), .d (.int .i64 x2.2.1), .d (.int .i64 51201), .d (.int .i64 40), .d (.int .i64 x2.2.2.1), .d (slD NatDoor.enc (s8.1, s8.2.1).1), .d (.int .i64 0), .d (.nil)]), (9000, .box 104 [.d (slD encByte a0.b), .d (.int .i64 (s8.1, s8.2.1).2)])], [⟨[(0, .ref 9000 0 0)], []⟩]⟩) (le_mk ?_ ?_ ?_) (LE.trans (S' := ⟨0, 57, [(2, .ref 2 0 0)], [], [(5001, .arr 52 7 (([] : List NatEntry).length) (rows NatEntry.enc ([] : List NatEntry))), (2, .box 31 [.d (.int .i64 x2.1), .d (.int .i64 x2.2.1), .d (.int .i64 51201), .d (.int .i64 40), .d (.int .i64 x2.2.2.1), .d (slD NatDoor.enc (s8.1, s8.2.1).1), .d (.int .i64 0), .d (.nil)]), (9000, .box 104 [.d (slD encByte a0.b), .d (.int .i64 (s8.1, s8.2.1).2)])], [⟨[(0, .ref 9000 0 0)], []⟩]⟩) (le_ph 5001 52 7 (rows NatEntry.enc ([] : List NatEntry)) rfl rfl) (le_mk ?_ ?_ ?_)) <;> (repeat' first | ((conv => whnf); first | exact trivial | refine And.intro ?_ ?_ | exact BLe.refl _ | exact VLe.refl _) | exact trivial | exact rfl | refine And.intro ?_ ?_ | exact BLe.refl _ | exact VLe.refl _ | exact VLe.any _ | exact VLe.nil_osl rfl | exact VLe.nil_sl rfl | exact VLe.built rfl rfl | (refine VLe.osl rfl ?_; (first | rfl | (simp; done) | assumption | (simp [dsub_eq] <;> omega) | omega)) | exact VLe.rows (by first | rfl | (simp; done) | assumption | (simp [dsub_eq] <;> omega) | omega) (fun _ _ => rfl) | exact VLe.rows (by simp [dsub_eq] <;> omega) rows_take | exact VLe.rows (by simp [dsub_eq] <;> omega) rows_dt | exact VLe.rows (by simp [dsub_eq] <;> omega) rows_vt | exact VLe.rows (by simp) (fun i _ => by simp [viewRow_eq, Nat.add_comm]) | refine VLe.aggL ?_ | (refine BLe.rows rfl ?_ fun _ _ => rfl; (first | rfl | (simp; done) | assumption | (simp [dsub_eq] <;> omega) | omega)) | (refine BLe.rows rfl rfl ?_; first | exact rows_take) | refine BLe.box ?_)
        · (repeat' first | ((conv => whnf); first | exact trivial | refine And.intro ?_ ?_ | exact BLe.refl _ | exact VLe.refl _) | exact trivial | exact rfl | refine And.intro ?_ ?_ | exact BLe.refl _ | exact VLe.refl _ | exact VLe.any _ | exact VLe.nil_osl rfl | exact VLe.nil_sl rfl | exact VLe.built rfl rfl | (refine VLe.osl rfl ?_; (first | rfl | (simp; done) | assumption | (simp [dsub_eq] <;> omega) | omega)) | exact VLe.rows (by first | rfl | (simp; done) | assumption | (simp [dsub_eq] <;> omega) | omega) (fun _ _ => rfl) | exact VLe.rows (by simp [dsub_eq] <;> omega) rows_take | exact VLe.rows (by simp [dsub_eq] <;> omega) rows_dt | exact VLe.rows (by simp [dsub_eq] <;> omega) rows_vt | exact VLe.rows (by simp) (fun i _ => by simp [viewRow_eq, Nat.add_comm]) | refine VLe.aggL ?_ | (refine BLe.rows rfl ?_ fun _ _ => rfl; (first | rfl | (simp; done) | assumption | (simp [dsub_eq] <;> omega) | omega)) | refine BLe.box ?_ | (simp; done))
        · (repeat' first | ((conv => whnf); first | exact trivial | refine And.intro ?_ ?_ | exact BLe.refl _ | exact VLe.refl _) | exact trivial | exact rfl | refine And.intro ?_ ?_ | exact BLe.refl _ | exact VLe.refl _ | exact VLe.any _ | exact VLe.nil_osl rfl | exact VLe.nil_sl rfl | exact VLe.built rfl rfl | (refine VLe.osl rfl ?_; (first | rfl | (simp; done) | assumption | (simp [dsub_eq] <;> omega) | omega)) | exact VLe.rows (by first | rfl | (simp; done) | assumption | (simp [dsub_eq] <;> omega) | omega) (fun _ _ => rfl) | exact VLe.rows (by simp [dsub_eq] <;> omega) rows_take | exact VLe.rows (by simp [dsub_eq] <;> omega) rows_dt | exact VLe.rows (by simp [dsub_eq] <;> omega) rows_vt | exact VLe.rows (by simp) (fun i _ => by simp [viewRow_eq, Nat.add_comm]) | refine VLe.aggL ?_ | (refine BLe.rows rfl ?_ fun _ _ => rfl; (first | rfl | (simp; done) | assumption | (simp [dsub_eq] <;> omega) | omega)) | refine BLe.box ?_ | (simp; done))

noncomputable def spec_l22Copy_m (a0 : NatBook) : Option (NatBook) :=
 gd (((0) + (a0.Doors.length)) * (32 + 1) ≤ 70368744177664) <|
 gd (((0) + (a0.Entries.length)) * (56 + 1) ≤ 70368744177664) <|
 some a0

theorem spec_l22Copy_c {a0 : NatBook} {r : NatBook} (h : spec_l22Copy_m a0 = some r) : PureC Try.prog 50 [.agg [.d (.int .i64 a0.Addr), .d (.int .i64 a0.Len), .d (.int .i64 a0.Own), .d (.int .i64 a0.Low), .d (.int .i64 a0.High), .d (slD NatDoor.enc a0.Doors), .d (.int .i64 a0.Now), .d (slD NatEntry.enc a0.Entries)]] (.agg [.d (.int .i64 r.Addr), .d (.int .i64 r.Len), .d (.int .i64 r.Own), .d (.int .i64 r.Low), .d (.int .i64 r.High), .osl 5001 0 r.Doors.length, .d (.int .i64 r.Now), .osl 5002 0 r.Entries.length]) [⟨5001, 71, 4, r.Doors.length, rows NatDoor.enc r.Doors⟩, ⟨5002, 52, 7, r.Entries.length, rows NatEntry.enc r.Entries⟩] := by
  refine pureC_m tOk (fn := Try.f50) (c := codeOf Try.f50) rfl rfl (by kernel_rfl) rfl rfl (by simp [atomD]) (by simp) (ids_of rfl) ?_
  unfold spec_l22Copy_m at h
  conv => whnf
  obtain ⟨g2, h⟩ := gd_some h
  refine And.intro g2 ?_
  clear g2
  refine ⟨a0.Doors.length, rows NatDoor.enc a0.Doors, (by first | rfl | (simp; done) | assumption | (simp [dsub_eq] <;> omega) | omega), (by first | exact app_rows (m := a0.Doors.length) (by first | rfl | (simp; done) | assumption | (simp [dsub_eq] <;> omega) | omega) (by first | rfl | (simp; done) | assumption | (simp [dsub_eq] <;> omega) | omega) (fun _ _ => rfl) (fun _ _ => rfl) | exact app_rows0 (m := a0.Doors.length) (by first | rfl | (simp; done) | assumption | (simp [dsub_eq] <;> omega) | omega) (fun _ _ => rfl) | exact app_rows (m := a0.Doors.length) (by first | rfl | (simp; done) | assumption | (simp [dsub_eq] <;> omega) | omega) (by first | rfl | (simp; done) | assumption | (simp [dsub_eq] <;> omega) | omega) (by first | exact fun _ _ => rfl | exact rows_take | exact rows_vt | exact rows_dt | (intro i hi; simp only [viewRow_eq, Nat.zero_add]) | (intro i hi; simp [viewRow_eq])) (by first | exact fun _ _ => rfl | exact rows_take | exact rows_vt | exact rows_dt | (intro i hi; simp only [viewRow_eq, Nat.zero_add]) | (intro i hi; simp [viewRow_eq])) | exact app_rows0 (m := a0.Doors.length) (by first | rfl | (simp; done) | assumption | (simp [dsub_eq] <;> omega) | omega) (by first | exact fun _ _ => rfl | exact rows_take | exact rows_vt | exact rows_dt | (intro i hi; simp only [viewRow_eq, Nat.zero_add]) | (intro i hi; simp [viewRow_eq]))), ?_⟩
  conv => whnf
  obtain ⟨g1, h⟩ := gd_some h
  refine And.intro g1 ?_
  clear g1
  refine ⟨a0.Entries.length, rows NatEntry.enc a0.Entries, (by first | rfl | (simp; done) | assumption | (simp [dsub_eq] <;> omega) | omega), (by first | exact app_rows (m := a0.Entries.length) (by first | rfl | (simp; done) | assumption | (simp [dsub_eq] <;> omega) | omega) (by first | rfl | (simp; done) | assumption | (simp [dsub_eq] <;> omega) | omega) (fun _ _ => rfl) (fun _ _ => rfl) | exact app_rows0 (m := a0.Entries.length) (by first | rfl | (simp; done) | assumption | (simp [dsub_eq] <;> omega) | omega) (fun _ _ => rfl) | exact app_rows (m := a0.Entries.length) (by first | rfl | (simp; done) | assumption | (simp [dsub_eq] <;> omega) | omega) (by first | rfl | (simp; done) | assumption | (simp [dsub_eq] <;> omega) | omega) (by first | exact fun _ _ => rfl | exact rows_take | exact rows_vt | exact rows_dt | (intro i hi; simp only [viewRow_eq, Nat.zero_add]) | (intro i hi; simp [viewRow_eq])) (by first | exact fun _ _ => rfl | exact rows_take | exact rows_vt | exact rows_dt | (intro i hi; simp only [viewRow_eq, Nat.zero_add]) | (intro i hi; simp [viewRow_eq])) | exact app_rows0 (m := a0.Entries.length) (by first | rfl | (simp; done) | assumption | (simp [dsub_eq] <;> omega) | omega) (by first | exact fun _ _ => rfl | exact rows_take | exact rows_vt | exact rows_dt | (intro i hi; simp only [viewRow_eq, Nat.zero_add]) | (intro i hi; simp [viewRow_eq]))), ?_⟩
  conv => whnf
  obtain rfl := Option.some.inj h
  refine ⟨⟨0, 14, [(2, .ref 2 0 0)], [], [(5002, .arr 52 7 a0.Entries.length (rows NatEntry.enc a0.Entries)), (5001, .arr 71 4 a0.Doors.length (rows NatDoor.enc a0.Doors)), (2, .box 31 [.d (.int .i64 a0.Addr), .d (.int .i64 a0.Len), .d (.int .i64 a0.Own), .d (.int .i64 a0.Low), .d (.int .i64 a0.High), .osl 5001 0 a0.Doors.length, .d (.int .i64 a0.Now), .osl 5002 0 a0.Entries.length])], []⟩, ?_, And.intro rfl ?_⟩
  · refine LE.trans (S' := ⟨0, 14, [(2, .ref 2 0 0)], [], [(11, .arr 52 7 a0.Entries.length (rows NatEntry.enc a0.Entries)), (6, .arr 71 4 a0.Doors.length (rows NatDoor.enc a0.Doors)), (2, .box 31 [.d (.int .i64 a0.Addr), .d (.int .i64 a0.Len), .d (.int .i64 a0.Own), .d (.int .i64 a0.Low), .d (.int .i64 a0.High), .osl 6 0 a0.Doors.length, .d (.int .i64 a0.Now), .osl 11 0 a0.Entries.length])], []⟩) (le_mk ?_ ?_ ?_) (le_swaps [(6, 5001), (11, 5002)] rfl) <;> (repeat' first | ((conv => whnf); first | exact trivial | refine And.intro ?_ ?_ | exact BLe.refl _ | exact VLe.refl _) | exact trivial | exact rfl | refine And.intro ?_ ?_ | exact BLe.refl _ | exact VLe.refl _ | exact VLe.any _ | exact VLe.nil_osl rfl | exact VLe.nil_sl rfl | exact VLe.built rfl rfl | (refine VLe.osl rfl ?_; (first | rfl | (simp; done) | assumption | (simp [dsub_eq] <;> omega) | omega)) | exact VLe.rows (by first | rfl | (simp; done) | assumption | (simp [dsub_eq] <;> omega) | omega) (fun _ _ => rfl) | exact VLe.rows (by simp [dsub_eq] <;> omega) rows_take | exact VLe.rows (by simp [dsub_eq] <;> omega) rows_dt | exact VLe.rows (by simp [dsub_eq] <;> omega) rows_vt | exact VLe.rows (by simp) (fun i _ => by simp [viewRow_eq, Nat.add_comm]) | refine VLe.aggL ?_ | (refine BLe.rows rfl ?_ fun _ _ => rfl; (first | rfl | (simp; done) | assumption | (simp [dsub_eq] <;> omega) | omega)) | (refine BLe.rows rfl rfl ?_; first | exact rows_take) | refine BLe.box ?_)
  · exact And.intro (And.intro rfl (And.intro rfl (fun _ _ => rfl))) (And.intro (And.intro rfl (And.intro rfl (fun _ _ => rfl))) (trivial))

noncomputable def spec_NatFlowOk_m (a0 : NatFlow) : Option (Bool) :=
 bd (spec_l21In_m a0.Kind 1 7) fun x1 =>
 bd (gcall (x1 = true) (spec_l21In_m a0.From 0 65535)) fun x2 =>
 bd (gcall ((x1 && x2) = true) (spec_l21In_m a0.To 0 65535)) fun x3 =>
 bd (gcall (((x1 && x2) && x3) = true) (spec_l21In_m a0.FromPort 1 65535)) fun x4 =>
 bd (gcall ((((x1 && x2) && x3) && x4) = true) (spec_l21In_m a0.ToPort 1 65535)) fun x5 =>
 some ((((x1 && x2) && x3) && x4) && x5)

theorem spec_NatFlowOk_c {a0 : NatFlow} {r : Bool} (h : spec_NatFlowOk_m a0 = some r) : PureC Try.prog 43 [.agg [.d (.int .i64 a0.Kind), .d (.int .i64 a0.From), .d (.int .i64 a0.FromPort), .d (.int .i64 a0.To), .d (.int .i64 a0.ToPort)]] (.d (.bool r)) [] := by
  refine pureC_m tOk (fn := Try.f43) (c := codeOf Try.f43) rfl rfl (by kernel_rfl) rfl rfl (by simp) (by simp) (ids_of rfl) ?_
  unfold spec_NatFlowOk_m at h
  conv => whnf
  obtain ⟨x1, hx1, h⟩ := bd_some h
  refine callC 0 (spec_l21In_c hx1) (by kernel_rfl) (by kernel_rfl) ?_
  clear hx1
  conv => whnf
  obtain ⟨x2, hx2, h⟩ := bd_some h
  refine callG_m rfl rfl rfl rfl rfl rfl (by intro c0; exact spec_l21In_c (gcall_some hx2 c0)) ?_
  conv => whnf
  obtain ⟨x3, hx3, h⟩ := bd_some h
  refine callG_m rfl rfl rfl rfl rfl rfl (by intro c0; exact spec_l21In_c (gcall_some hx3 c0)) ?_
  conv => whnf
  obtain ⟨x4, hx4, h⟩ := bd_some h
  refine callG_m rfl rfl rfl rfl rfl rfl (by intro c0; exact spec_l21In_c (gcall_some hx4 c0)) ?_
  conv => whnf
  obtain ⟨x5, hx5, h⟩ := bd_some h
  refine callG_m rfl rfl rfl rfl rfl rfl (by intro c0; exact spec_l21In_c (gcall_some hx5 c0)) ?_
  conv => whnf
  obtain rfl := Option.some.inj h
  exact ⟨_, LE.refl _, And.intro rfl trivial⟩

noncomputable def spec_l23Door_m (a0 : NatBook) (a1 : NatFlow) : Option (Int) :=
 bd (lp (σ := Int) (β := (Int ⊕ Unit)) (fun s1 =>
(if (decide (s1 < ((a0.Doors.length : Nat) : Int))) = true then
 gd ((0 : Int) ≤ s1 ∧ s1 < ((a0.Doors.length : Nat) : Int)) <|
 gd ((((a0.Doors.getD s1.toNat default).Kind) == a1.Kind) = true → ((0 : Int) ≤ s1 ∧ s1 < ((a0.Doors.length : Nat) : Int))) <|
 gd (((((a0.Doors.getD s1.toNat default).Kind) == a1.Kind) && (((a0.Doors.getD s1.toNat default).Inner) == a1.From)) = true → ((0 : Int) ≤ s1 ∧ s1 < ((a0.Doors.length : Nat) : Int))) <|
(if (((((a0.Doors.getD s1.toNat default).Kind) == a1.Kind) && (((a0.Doors.getD s1.toNat default).Inner) == a1.From)) && (((a0.Doors.getD s1.toNat default).InnerPort) == a1.FromPort)) = true then
 some (.inr (.inl s1))
else
 some (.inl (IntKind.i64.wrap (s1 + 1))))
else
 some (.inr (.inr ())))) 0) fun x4 =>
(match x4 with
| .inl d8 =>
 some d8
| .inr d9 =>
 some (-1))

theorem spec_l23Door_c {a0 : NatBook} {a1 : NatFlow} {r : Int} (h : spec_l23Door_m a0 a1 = some r) : PureC Try.prog 95 [.agg [.d (.int .i64 a0.Addr), .d (.int .i64 a0.Len), .d (.int .i64 a0.Own), .d (.int .i64 a0.Low), .d (.int .i64 a0.High), .d (slD NatDoor.enc a0.Doors), .d (.int .i64 a0.Now), .d (slD NatEntry.enc a0.Entries)], .agg [.d (.int .i64 a1.Kind), .d (.int .i64 a1.From), .d (.int .i64 a1.FromPort), .d (.int .i64 a1.To), .d (.int .i64 a1.ToPort)]] (.d (.int .i64 r)) [] := by
  refine pureC_m tOk (fn := Try.f95) (c := codeOf Try.f95) rfl rfl (by kernel_rfl) rfl rfl (by simp) (by simp) (ids_of rfl) ?_
  unfold spec_l23Door_m at h
  conv => whnf
  refine seq_in tOk ?_
  conv => whnf
  obtain ⟨x4, hx4, h⟩ := bd_some h
  refine loop_m tOk hx4 (fun s1 => ⟨0, 45, [(2, .ref 2 0 0), (3, .ref 3 0 0), (5, .d (.int .i64 s1))], [], [(3, .box 39 [.d (.int .i64 a1.Kind), .d (.int .i64 a1.From), .d (.int .i64 a1.FromPort), .d (.int .i64 a1.To), .d (.int .i64 a1.ToPort)]), (2, .box 31 [.d (.int .i64 a0.Addr), .d (.int .i64 a0.Len), .d (.int .i64 a0.Own), .d (.int .i64 a0.Low), .d (.int .i64 a0.High), .d (slD NatDoor.enc a0.Doors), .d (.int .i64 a0.Now), .d (slD NatEntry.enc a0.Entries)])], []⟩) ?_ ?_
  · refine le_mk ?_ ?_ ?_ <;> (repeat' first | ((conv => whnf); first | exact trivial | refine And.intro ?_ ?_ | exact BLe.refl _ | exact VLe.refl _) | exact trivial | exact rfl | refine And.intro ?_ ?_ | exact BLe.refl _ | exact VLe.refl _ | exact VLe.any _ | exact VLe.nil_osl rfl | exact VLe.nil_sl rfl | exact VLe.built rfl rfl | (refine VLe.osl rfl ?_; (first | rfl | (simp; done) | assumption | (simp [dsub_eq] <;> omega) | omega)) | exact VLe.rows (by first | rfl | (simp; done) | assumption | (simp [dsub_eq] <;> omega) | omega) (fun _ _ => rfl) | exact VLe.rows (by simp [dsub_eq] <;> omega) rows_take | exact VLe.rows (by simp [dsub_eq] <;> omega) rows_dt | exact VLe.rows (by simp [dsub_eq] <;> omega) rows_vt | exact VLe.rows (by simp) (fun i _ => by simp [viewRow_eq, Nat.add_comm]) | refine VLe.aggL ?_ | (refine BLe.rows rfl ?_ fun _ _ => rfl; (first | rfl | (simp; done) | assumption | (simp [dsub_eq] <;> omega) | omega)) | (refine BLe.rows rfl rfl ?_; first | exact rows_take) | refine BLe.box ?_)
  · clear hx4
    intro s1 y2 g3 hy2
    conv => whnf
    refine seq_in tOk ?_
    conv => whnf
    refine And.intro (fun e => ?_) (fun e => ?_)
    · replace g3 := ite_t g3 e; clear e
      conv => whnf
      refine seq_in tOk ?_
      conv => whnf
      obtain ⟨g5, g3⟩ := gd_some g3
      obtain ⟨g6, g3⟩ := gd_some g3
      obtain ⟨g7, g3⟩ := gd_some g3
      refine draw_k tOk (by kernel_rfl) (fun _ => none) 31 [] [[], [true], [], [true, true, true], [true, true, true, true], [true, true, true, true, true], [], [false, false, false, false, false, false, true], [true, true, true, true, true, true, true, true], [true, true, true, true, true, true, true, true, true], [true, true, true, true, true, true, true, true, true, true], [true, true, true, true, true, true, true, true, true, true, true], [true, true, true, true, true, true, true, true, true, true], [true, true, true, true, true, true, true, true, true, true, true, true, true], [true, true, true, true, true, true, true, true, true, true, true, true, true, true], [true, true, true, true, true, true, true, true, true, true, true, true, true, true, true], [true, true, true, true, true, true, true, true, true, true], [true, true, true, true, true, true, true, true, true, true, false, false, false, false, false, false, true], [true, true, true, true, true, true, true, true, true, true, true, true, true, true, true, true, true, true], [true, true, true, true, true, true, true, true, true, true, true, true, true, true, true, true, true, true, true], [true, true, true, true, true, true, true, true, true, true, true, true, true, true, true, true, true, true, true, true], [true, true, true, true, true, true, true, true, true, true, true, true, true, true, true, true, true, true, true, true, true], [true, true, true, true, true, true, true, true, true, true, true, true, true, true, true, true, true, true, true, true, true, true], [true, true, true, true, true, true, true, true, true, true, true, true, true, true, true, true, true, true, true, true, true], [true, true, true, true, true, true, true, true, true, true, true, true, true, true, true, true, true, true, true, true, true, true, true, true], [true, true, true, true, true, true, true, true, true, true, true, true, true, true, true, true, true, true, true, true, true, true, true, true, true], [true, true, true, true, true, true, true, true, true, true, true, true, true, true, true, true, true, true, true, true, true, true, true, true, true, true], [true, true, true, true, true, true, true, true, true, true, true, true, true, true, true, true, true, true, true, true, true], [true, true, true, true, true, true, true, true, true, true, true, true, true, true, true, true, true, true, true, true, true, false, false, false, false, false, false, true], [true, true, true, true, true, true, true, true, true, true, true, true, true, true, true, true, true, true, true, true, true, true, true, true, true, true, true, true, true], [true, true, true, true, true, true, true, true, true, true, true, true, true, true, true, true, true, true, true, true, true, true, true, true, true, true, true, true, true, true]] [] (by decide) (by kernel_rfl) (by kernel_rfl) ?_
      conv => whnf
      refine And.intro g5 ?_
      clear g5
      conv => whnf
      refine And.intro g6 ?_
      clear g6
      conv => whnf
      refine And.intro g7 ?_
      clear g7
      conv => whnf
      refine And.intro (by kernel_rfl) ?_
      conv => whnf
      refine And.intro (fun e => ?_) (fun e => ?_)
      · replace g3 := ite_t g3 e; clear e
        conv => whnf
        obtain rfl := Option.some.inj g3
        obtain rfl := hy2 _ rfl
        obtain rfl := Option.some.inj h
        exact ⟨_, LE.refl _, And.intro rfl trivial⟩
      · replace g3 := ite_f g3 e; clear e
        conv => whnf
        obtain rfl := Option.some.inj g3
        refine ⟨_, rfl, le_mk ?_ ?_ ?_⟩ <;> (repeat' first | ((conv => whnf); first | exact trivial | refine And.intro ?_ ?_ | exact BLe.refl _ | exact VLe.refl _) | exact trivial | exact rfl | refine And.intro ?_ ?_ | exact BLe.refl _ | exact VLe.refl _ | exact VLe.any _ | exact VLe.nil_osl rfl | exact VLe.nil_sl rfl | exact VLe.built rfl rfl | (refine VLe.osl rfl ?_; (first | rfl | (simp; done) | assumption | (simp [dsub_eq] <;> omega) | omega)) | exact VLe.rows (by first | rfl | (simp; done) | assumption | (simp [dsub_eq] <;> omega) | omega) (fun _ _ => rfl) | exact VLe.rows (by simp [dsub_eq] <;> omega) rows_take | exact VLe.rows (by simp [dsub_eq] <;> omega) rows_dt | exact VLe.rows (by simp [dsub_eq] <;> omega) rows_vt | exact VLe.rows (by simp) (fun i _ => by simp [viewRow_eq, Nat.add_comm]) | refine VLe.aggL ?_ | (refine BLe.rows rfl ?_ fun _ _ => rfl; (first | rfl | (simp; done) | assumption | (simp [dsub_eq] <;> omega) | omega)) | (refine BLe.rows rfl rfl ?_; first | exact rows_take) | refine BLe.box ?_)
    · replace g3 := ite_f g3 e; clear e
      conv => whnf
      obtain rfl := Option.some.inj g3
      obtain rfl := hy2 _ rfl
      obtain rfl := Option.some.inj h
      exact ⟨_, LE.refl _, And.intro rfl trivial⟩

noncomputable def spec_l23Under_m (a0 : NatBook) (a1 : NatFlow) (a2 : Int) : Option (NatFlow) :=
 some ({ a1 with From := a0.Own, FromPort := a2 })

theorem spec_l23Under_c {a0 : NatBook} {a1 : NatFlow} {a2 : Int} {r : NatFlow} (h : spec_l23Under_m a0 a1 a2 = some r) : PureC Try.prog 96 [.agg [.d (.int .i64 a0.Addr), .d (.int .i64 a0.Len), .d (.int .i64 a0.Own), .d (.int .i64 a0.Low), .d (.int .i64 a0.High), .d (slD NatDoor.enc a0.Doors), .d (.int .i64 a0.Now), .d (slD NatEntry.enc a0.Entries)], .agg [.d (.int .i64 a1.Kind), .d (.int .i64 a1.From), .d (.int .i64 a1.FromPort), .d (.int .i64 a1.To), .d (.int .i64 a1.ToPort)], .d (.int .i64 a2)] (.agg [.d (.int .i64 r.Kind), .d (.int .i64 r.From), .d (.int .i64 r.FromPort), .d (.int .i64 r.To), .d (.int .i64 r.ToPort)]) [] := by
  refine pureC_m tOk (fn := Try.f96) (c := codeOf Try.f96) rfl rfl (by kernel_rfl) rfl rfl (by simp) (by simp) (ids_of rfl) ?_
  unfold spec_l23Under_m at h
  conv => whnf
  obtain rfl := Option.some.inj h
  exact ⟨_, LE.refl _, And.intro rfl trivial⟩

noncomputable def spec_l23Entry_m (a0 : NatBook) (a1 : NatFlow) : Option (Int) :=
 bd (lp (σ := Int) (β := (Int ⊕ Unit)) (fun s1 =>
(if (decide (s1 < ((a0.Entries.length : Nat) : Int))) = true then
 gd ((0 : Int) ≤ s1 ∧ s1 < ((a0.Entries.length : Nat) : Int)) <|
 bd (spec_l22Is_m (a0.Entries.getD s1.toNat default) a1) fun x6 =>
 gd (x6 = true → ((0 : Int) ≤ s1 ∧ s1 < ((a0.Entries.length : Nat) : Int))) <|
 bd (gcall (x6 = true) (spec_l22Live_m a0 (a0.Entries.getD s1.toNat default))) fun x8 =>
(if (x6 && x8) = true then
 some (.inr (.inl s1))
else
 some (.inl (IntKind.i64.wrap (s1 + 1))))
else
 some (.inr (.inr ())))) 0) fun x4 =>
(match x4 with
| .inl d9 =>
 some d9
| .inr d10 =>
 some (-1))

theorem spec_l23Entry_c {a0 : NatBook} {a1 : NatFlow} {r : Int} (h : spec_l23Entry_m a0 a1 = some r) : PureC Try.prog 97 [.agg [.d (.int .i64 a0.Addr), .d (.int .i64 a0.Len), .d (.int .i64 a0.Own), .d (.int .i64 a0.Low), .d (.int .i64 a0.High), .d (slD NatDoor.enc a0.Doors), .d (.int .i64 a0.Now), .d (slD NatEntry.enc a0.Entries)], .agg [.d (.int .i64 a1.Kind), .d (.int .i64 a1.From), .d (.int .i64 a1.FromPort), .d (.int .i64 a1.To), .d (.int .i64 a1.ToPort)]] (.d (.int .i64 r)) [] := by
  refine pureC_m tOk (fn := Try.f97) (c := codeOf Try.f97) rfl rfl (by kernel_rfl) rfl rfl (by simp) (by simp) (ids_of rfl) ?_
  unfold spec_l23Entry_m at h
  conv => whnf
  refine seq_in tOk ?_
  conv => whnf
  obtain ⟨x4, hx4, h⟩ := bd_some h
  refine loop_m tOk hx4 (fun s1 => ⟨0, 30, [(2, .ref 2 0 0), (3, .ref 3 0 0), (5, .d (.int .i64 s1))], [], [(3, .box 39 [.d (.int .i64 a1.Kind), .d (.int .i64 a1.From), .d (.int .i64 a1.FromPort), .d (.int .i64 a1.To), .d (.int .i64 a1.ToPort)]), (2, .box 31 [.d (.int .i64 a0.Addr), .d (.int .i64 a0.Len), .d (.int .i64 a0.Own), .d (.int .i64 a0.Low), .d (.int .i64 a0.High), .d (slD NatDoor.enc a0.Doors), .d (.int .i64 a0.Now), .d (slD NatEntry.enc a0.Entries)])], []⟩) ?_ ?_
  · refine le_mk ?_ ?_ ?_ <;> (repeat' first | ((conv => whnf); first | exact trivial | refine And.intro ?_ ?_ | exact BLe.refl _ | exact VLe.refl _) | exact trivial | exact rfl | refine And.intro ?_ ?_ | exact BLe.refl _ | exact VLe.refl _ | exact VLe.any _ | exact VLe.nil_osl rfl | exact VLe.nil_sl rfl | exact VLe.built rfl rfl | (refine VLe.osl rfl ?_; (first | rfl | (simp; done) | assumption | (simp [dsub_eq] <;> omega) | omega)) | exact VLe.rows (by first | rfl | (simp; done) | assumption | (simp [dsub_eq] <;> omega) | omega) (fun _ _ => rfl) | exact VLe.rows (by simp [dsub_eq] <;> omega) rows_take | exact VLe.rows (by simp [dsub_eq] <;> omega) rows_dt | exact VLe.rows (by simp [dsub_eq] <;> omega) rows_vt | exact VLe.rows (by simp) (fun i _ => by simp [viewRow_eq, Nat.add_comm]) | refine VLe.aggL ?_ | (refine BLe.rows rfl ?_ fun _ _ => rfl; (first | rfl | (simp; done) | assumption | (simp [dsub_eq] <;> omega) | omega)) | (refine BLe.rows rfl rfl ?_; first | exact rows_take) | refine BLe.box ?_)
  · clear hx4
    intro s1 y2 g3 hy2
    conv => whnf
    refine seq_in tOk ?_
    conv => whnf
    refine And.intro (fun e => ?_) (fun e => ?_)
    · replace g3 := ite_t g3 e; clear e
      conv => whnf
      refine seq_in tOk ?_
      conv => whnf
      obtain ⟨g5, g3⟩ := gd_some g3
      obtain ⟨x6, hx6, g3⟩ := bd_some g3
      obtain ⟨g7, g3⟩ := gd_some g3
      obtain ⟨x8, hx8, g3⟩ := bd_some g3
      refine draw_k tOk (by kernel_rfl) (fun j => match j with | 6 => some (.pure 0 (.d (.bool x6)) []) | 14 => some (.pure 0 (.d (.bool x8)) []) | _ => none) 16 [] [[], [true], [], [true, true, true], [true, true, true, true], [], [true, true, true, true, true, true], [true, true, true, true, true, true, true], [true, true, true, true, true, true, true, true], [true, true, true, true, true, true, true, true], [true, true, true, true, true, true, true, true, false, true], [true, true, true, true, true, true, true, true], [true, true, true, true, true, true, true, true, false, true, true, true], [true, true, true, true, true, true, true, true, false, true, true, true, true], [true, true, true, true, true, true, true, true, true, true, true, true, true, true], [true, true, true, true, true, true, true, true, true, true, true, true, true, true, true]] [] (by decide) (by kernel_rfl) (by kernel_rfl) ?_
      conv => whnf
      refine And.intro g5 ?_
      clear g5
      conv => whnf
      refine And.intro (callD_any (spec_l22Is_c hx6) (by kernel_rfl)) ?_
      conv => whnf
      refine And.intro g7 ?_
      clear g7
      conv => whnf
      refine And.intro (callDG_if rfl rfl rfl rfl (by intro c0; exact spec_l22Live_c (gcall_some hx8 c0))) ?_
      conv => whnf
      refine And.intro (by kernel_rfl) ?_
      conv => whnf
      refine And.intro (fun e => ?_) (fun e => ?_)
      · replace g3 := ite_t g3 e; clear e
        conv => whnf
        obtain rfl := Option.some.inj g3
        obtain rfl := hy2 _ rfl
        obtain rfl := Option.some.inj h
        exact ⟨_, LE.refl _, And.intro rfl trivial⟩
      · replace g3 := ite_f g3 e; clear e
        conv => whnf
        obtain rfl := Option.some.inj g3
        refine ⟨_, rfl, le_mk ?_ ?_ ?_⟩ <;> (repeat' first | ((conv => whnf); first | exact trivial | refine And.intro ?_ ?_ | exact BLe.refl _ | exact VLe.refl _) | exact trivial | exact rfl | refine And.intro ?_ ?_ | exact BLe.refl _ | exact VLe.refl _ | exact VLe.any _ | exact VLe.nil_osl rfl | exact VLe.nil_sl rfl | exact VLe.built rfl rfl | (refine VLe.osl rfl ?_; (first | rfl | (simp; done) | assumption | (simp [dsub_eq] <;> omega) | omega)) | exact VLe.rows (by first | rfl | (simp; done) | assumption | (simp [dsub_eq] <;> omega) | omega) (fun _ _ => rfl) | exact VLe.rows (by simp [dsub_eq] <;> omega) rows_take | exact VLe.rows (by simp [dsub_eq] <;> omega) rows_dt | exact VLe.rows (by simp [dsub_eq] <;> omega) rows_vt | exact VLe.rows (by simp) (fun i _ => by simp [viewRow_eq, Nat.add_comm]) | refine VLe.aggL ?_ | (refine BLe.rows rfl ?_ fun _ _ => rfl; (first | rfl | (simp; done) | assumption | (simp [dsub_eq] <;> omega) | omega)) | (refine BLe.rows rfl rfl ?_; first | exact rows_take) | refine BLe.box ?_)
    · replace g3 := ite_f g3 e; clear e
      conv => whnf
      obtain rfl := Option.some.inj g3
      obtain rfl := hy2 _ rfl
      obtain rfl := Option.some.inj h
      exact ⟨_, LE.refl _, And.intro rfl trivial⟩

noncomputable def spec_l23Taken_m (a0 : NatBook) (a1 : NatFlow) (a2 : Int) : Option (Bool) :=
 bd (lp (σ := Int) (β := (Unit ⊕ Unit)) (fun s1 =>
(if (decide (s1 < ((a0.Entries.length : Nat) : Int))) = true then
 gd ((0 : Int) ≤ s1 ∧ s1 < ((a0.Entries.length : Nat) : Int)) <|
(if ((((((a0.Entries.getD s1.toNat default).Kind) == a1.Kind) && (((a0.Entries.getD s1.toNat default).Peer) == a1.To)) && (((a0.Entries.getD s1.toNat default).PeerPort) == a1.ToPort)) && (((a0.Entries.getD s1.toNat default).Outer) == a2)) = true then
 some (.inr (.inl ()))
else
 some (.inl (IntKind.i64.wrap (s1 + 1))))
else
 some (.inr (.inr ())))) 0) fun x4 =>
(match x4 with
| .inl d6 =>
 some true
| .inr d7 =>
 some false)

theorem spec_l23Taken_c {a0 : NatBook} {a1 : NatFlow} {a2 : Int} {r : Bool} (h : spec_l23Taken_m a0 a1 a2 = some r) : PureC Try.prog 101 [.agg [.d (.int .i64 a0.Addr), .d (.int .i64 a0.Len), .d (.int .i64 a0.Own), .d (.int .i64 a0.Low), .d (.int .i64 a0.High), .d (slD NatDoor.enc a0.Doors), .d (.int .i64 a0.Now), .d (slD NatEntry.enc a0.Entries)], .agg [.d (.int .i64 a1.Kind), .d (.int .i64 a1.From), .d (.int .i64 a1.FromPort), .d (.int .i64 a1.To), .d (.int .i64 a1.ToPort)], .d (.int .i64 a2)] (.d (.bool r)) [] := by
  refine pureC_m tOk (fn := Try.f101) (c := codeOf Try.f101) rfl rfl (by kernel_rfl) rfl rfl (by simp) (by simp) (ids_of rfl) ?_
  unfold spec_l23Taken_m at h
  conv => whnf
  refine seq_in tOk ?_
  conv => whnf
  obtain ⟨x4, hx4, h⟩ := bd_some h
  refine loop_m tOk hx4 (fun s1 => ⟨0, 46, [(2, .d (.int .i64 a2)), (3, .ref 3 0 0), (4, .ref 4 0 0), (7, .d (.int .i64 s1))], [], [(4, .box 39 [.d (.int .i64 a1.Kind), .d (.int .i64 a1.From), .d (.int .i64 a1.FromPort), .d (.int .i64 a1.To), .d (.int .i64 a1.ToPort)]), (3, .box 31 [.d (.int .i64 a0.Addr), .d (.int .i64 a0.Len), .d (.int .i64 a0.Own), .d (.int .i64 a0.Low), .d (.int .i64 a0.High), .d (slD NatDoor.enc a0.Doors), .d (.int .i64 a0.Now), .d (slD NatEntry.enc a0.Entries)])], []⟩) ?_ ?_
  · refine le_mk ?_ ?_ ?_ <;> (repeat' first | ((conv => whnf); first | exact trivial | refine And.intro ?_ ?_ | exact BLe.refl _ | exact VLe.refl _) | exact trivial | exact rfl | refine And.intro ?_ ?_ | exact BLe.refl _ | exact VLe.refl _ | exact VLe.any _ | exact VLe.nil_osl rfl | exact VLe.nil_sl rfl | exact VLe.built rfl rfl | (refine VLe.osl rfl ?_; (first | rfl | (simp; done) | assumption | (simp [dsub_eq] <;> omega) | omega)) | exact VLe.rows (by first | rfl | (simp; done) | assumption | (simp [dsub_eq] <;> omega) | omega) (fun _ _ => rfl) | exact VLe.rows (by simp [dsub_eq] <;> omega) rows_take | exact VLe.rows (by simp [dsub_eq] <;> omega) rows_dt | exact VLe.rows (by simp [dsub_eq] <;> omega) rows_vt | exact VLe.rows (by simp) (fun i _ => by simp [viewRow_eq, Nat.add_comm]) | refine VLe.aggL ?_ | (refine BLe.rows rfl ?_ fun _ _ => rfl; (first | rfl | (simp; done) | assumption | (simp [dsub_eq] <;> omega) | omega)) | (refine BLe.rows rfl rfl ?_; first | exact rows_take) | refine BLe.box ?_)
  · clear hx4
    intro s1 y2 g3 hy2
    conv => whnf
    refine seq_in tOk ?_
    conv => whnf
    refine And.intro (fun e => ?_) (fun e => ?_)
    · replace g3 := ite_t g3 e; clear e
      conv => whnf
      refine seq_in tOk ?_
      conv => whnf
      obtain ⟨g5, g3⟩ := gd_some g3
      refine And.intro g5 ?_
      clear g5
      conv => whnf
      refine And.intro (fun e => ?_) (fun e => ?_)
      · replace g3 := ite_t g3 e; clear e
        conv => whnf
        obtain rfl := Option.some.inj g3
        obtain rfl := hy2 _ rfl
        obtain rfl := Option.some.inj h
        exact ⟨_, LE.refl _, And.intro rfl trivial⟩
      · replace g3 := ite_f g3 e; clear e
        conv => whnf
        obtain rfl := Option.some.inj g3
        refine ⟨_, rfl, le_mk ?_ ?_ ?_⟩ <;> (repeat' first | ((conv => whnf); first | exact trivial | refine And.intro ?_ ?_ | exact BLe.refl _ | exact VLe.refl _) | exact trivial | exact rfl | refine And.intro ?_ ?_ | exact BLe.refl _ | exact VLe.refl _ | exact VLe.any _ | exact VLe.nil_osl rfl | exact VLe.nil_sl rfl | exact VLe.built rfl rfl | (refine VLe.osl rfl ?_; (first | rfl | (simp; done) | assumption | (simp [dsub_eq] <;> omega) | omega)) | exact VLe.rows (by first | rfl | (simp; done) | assumption | (simp [dsub_eq] <;> omega) | omega) (fun _ _ => rfl) | exact VLe.rows (by simp [dsub_eq] <;> omega) rows_take | exact VLe.rows (by simp [dsub_eq] <;> omega) rows_dt | exact VLe.rows (by simp [dsub_eq] <;> omega) rows_vt | exact VLe.rows (by simp) (fun i _ => by simp [viewRow_eq, Nat.add_comm]) | refine VLe.aggL ?_ | (refine BLe.rows rfl ?_ fun _ _ => rfl; (first | rfl | (simp; done) | assumption | (simp [dsub_eq] <;> omega) | omega)) | (refine BLe.rows rfl rfl ?_; first | exact rows_take) | refine BLe.box ?_)
    · replace g3 := ite_f g3 e; clear e
      conv => whnf
      obtain rfl := Option.some.inj g3
      obtain rfl := hy2 _ rfl
      obtain rfl := Option.some.inj h
      exact ⟨_, LE.refl _, And.intro rfl trivial⟩

noncomputable def spec_l23Free_m (a0 : NatBook) (a1 : NatFlow) : Option (Int) :=
 bd (lp (σ := Int) (β := (Int ⊕ Unit)) (fun s1 =>
(if (decide (s1 ≤ a0.High)) = true then
 bd (spec_l23Taken_m a0 a1 s1) fun x5 =>
(if (!x5) = true then
 some (.inr (.inl s1))
else
 some (.inl (IntKind.i64.wrap (s1 + 1))))
else
 some (.inr (.inr ())))) a0.Low) fun x4 =>
(match x4 with
| .inl d6 =>
 some d6
| .inr d7 =>
 some 0)

theorem spec_l23Free_c {a0 : NatBook} {a1 : NatFlow} {r : Int} (h : spec_l23Free_m a0 a1 = some r) : PureC Try.prog 98 [.agg [.d (.int .i64 a0.Addr), .d (.int .i64 a0.Len), .d (.int .i64 a0.Own), .d (.int .i64 a0.Low), .d (.int .i64 a0.High), .d (slD NatDoor.enc a0.Doors), .d (.int .i64 a0.Now), .d (slD NatEntry.enc a0.Entries)], .agg [.d (.int .i64 a1.Kind), .d (.int .i64 a1.From), .d (.int .i64 a1.FromPort), .d (.int .i64 a1.To), .d (.int .i64 a1.ToPort)]] (.d (.int .i64 r)) [] := by
  refine pureC_m tOk (fn := Try.f98) (c := codeOf Try.f98) rfl rfl (by kernel_rfl) rfl rfl (by simp) (by simp) (ids_of rfl) ?_
  unfold spec_l23Free_m at h
  conv => whnf
  refine seq_in tOk ?_
  conv => whnf
  obtain ⟨x4, hx4, h⟩ := bd_some h
  refine loop_m tOk hx4 (fun s1 => ⟨0, 20, [(2, .ref 2 0 0), (3, .ref 3 0 0), (5, .d (.int .i64 s1))], [], [(3, .box 39 [.d (.int .i64 a1.Kind), .d (.int .i64 a1.From), .d (.int .i64 a1.FromPort), .d (.int .i64 a1.To), .d (.int .i64 a1.ToPort)]), (2, .box 31 [.d (.int .i64 a0.Addr), .d (.int .i64 a0.Len), .d (.int .i64 a0.Own), .d (.int .i64 a0.Low), .d (.int .i64 a0.High), .d (slD NatDoor.enc a0.Doors), .d (.int .i64 a0.Now), .d (slD NatEntry.enc a0.Entries)])], []⟩) ?_ ?_
  · refine le_mk ?_ ?_ ?_ <;> (repeat' first | ((conv => whnf); first | exact trivial | refine And.intro ?_ ?_ | exact BLe.refl _ | exact VLe.refl _) | exact trivial | exact rfl | refine And.intro ?_ ?_ | exact BLe.refl _ | exact VLe.refl _ | exact VLe.any _ | exact VLe.nil_osl rfl | exact VLe.nil_sl rfl | exact VLe.built rfl rfl | (refine VLe.osl rfl ?_; (first | rfl | (simp; done) | assumption | (simp [dsub_eq] <;> omega) | omega)) | exact VLe.rows (by first | rfl | (simp; done) | assumption | (simp [dsub_eq] <;> omega) | omega) (fun _ _ => rfl) | exact VLe.rows (by simp [dsub_eq] <;> omega) rows_take | exact VLe.rows (by simp [dsub_eq] <;> omega) rows_dt | exact VLe.rows (by simp [dsub_eq] <;> omega) rows_vt | exact VLe.rows (by simp) (fun i _ => by simp [viewRow_eq, Nat.add_comm]) | refine VLe.aggL ?_ | (refine BLe.rows rfl ?_ fun _ _ => rfl; (first | rfl | (simp; done) | assumption | (simp [dsub_eq] <;> omega) | omega)) | (refine BLe.rows rfl rfl ?_; first | exact rows_take) | refine BLe.box ?_)
  · clear hx4
    intro s1 y2 g3 hy2
    conv => whnf
    refine seq_in tOk ?_
    conv => whnf
    refine And.intro (fun e => ?_) (fun e => ?_)
    · replace g3 := ite_t g3 e; clear e
      conv => whnf
      refine seq_in tOk ?_
      conv => whnf
      obtain ⟨x5, hx5, g3⟩ := bd_some g3
      refine callC 0 (spec_l23Taken_c hx5) (by kernel_rfl) (by kernel_rfl) ?_
      clear hx5
      conv => whnf
      refine And.intro (fun e => ?_) (fun e => ?_)
      · replace g3 := ite_t g3 e; clear e
        conv => whnf
        obtain rfl := Option.some.inj g3
        obtain rfl := hy2 _ rfl
        obtain rfl := Option.some.inj h
        exact ⟨_, LE.refl _, And.intro rfl trivial⟩
      · replace g3 := ite_f g3 e; clear e
        conv => whnf
        obtain rfl := Option.some.inj g3
        refine ⟨_, rfl, le_mk ?_ ?_ ?_⟩ <;> (repeat' first | ((conv => whnf); first | exact trivial | refine And.intro ?_ ?_ | exact BLe.refl _ | exact VLe.refl _) | exact trivial | exact rfl | refine And.intro ?_ ?_ | exact BLe.refl _ | exact VLe.refl _ | exact VLe.any _ | exact VLe.nil_osl rfl | exact VLe.nil_sl rfl | exact VLe.built rfl rfl | (refine VLe.osl rfl ?_; (first | rfl | (simp; done) | assumption | (simp [dsub_eq] <;> omega) | omega)) | exact VLe.rows (by first | rfl | (simp; done) | assumption | (simp [dsub_eq] <;> omega) | omega) (fun _ _ => rfl) | exact VLe.rows (by simp [dsub_eq] <;> omega) rows_take | exact VLe.rows (by simp [dsub_eq] <;> omega) rows_dt | exact VLe.rows (by simp [dsub_eq] <;> omega) rows_vt | exact VLe.rows (by simp) (fun i _ => by simp [viewRow_eq, Nat.add_comm]) | refine VLe.aggL ?_ | (refine BLe.rows rfl ?_ fun _ _ => rfl; (first | rfl | (simp; done) | assumption | (simp [dsub_eq] <;> omega) | omega)) | (refine BLe.rows rfl rfl ?_; first | exact rows_take) | refine BLe.box ?_)
    · replace g3 := ite_f g3 e; clear e
      conv => whnf
      obtain rfl := Option.some.inj g3
      obtain rfl := hy2 _ rfl
      obtain rfl := Option.some.inj h
      exact ⟨_, LE.refl _, And.intro rfl trivial⟩

end Go.Proofs.Ytkcmmigdhkalnaa
