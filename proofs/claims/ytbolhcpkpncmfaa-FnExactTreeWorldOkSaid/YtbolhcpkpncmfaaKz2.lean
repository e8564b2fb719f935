/-
  What some of the program's functions compute: their models, and that the functions compute these; no condition.
-/
import Derived.Test.YtbolhcpkpncmfaaTyz
import Derived.Test.YtbolhcpkpncmfaaTbz
import Derived.Test.YtbolhcpkpncmfaaKz1
set_option linter.all false
namespace Go.Proofs.Ytbolhcpkpncmfaa
open Go Go.Ab
set_option maxRecDepth 100000
set_option maxHeartbeats 4000000
noncomputable def spec_l82Lists_m (a0 : TreeWorld) : Option (Bool) :=
(if (((((a0.AtA.length : Nat) : Int) != ((a0.Links.length : Nat) : Int)) || (((a0.AtB.length : Nat) : Int) != ((a0.Links.length : Nat) : Int))) || (decide (((a0.Radio.length : Nat) : Int) > 12))) = true then
 some false
else
 bd (lp (σ := Int) (β := (Unit ⊕ Unit)) (fun s1 =>
(if (decide (s1 < ((a0.Down.length : Nat) : Int))) = true then
 gd ((0 : Int) ≤ s1 ∧ s1 < ((a0.Down.length : Nat) : Int)) <|
 bd (spec_l81In_m (a0.Down.getD s1.toNat default) 0 (IntKind.i64.wrap (((a0.Links.length : Nat) : Int) - 1))) fun x6 =>
 gd ((decide (s1 > 0)) = true → ((!x6) = false → ((0 : Int) ≤ IntKind.i64.wrap (s1 - 1) ∧ IntKind.i64.wrap (s1 - 1) < ((a0.Down.length : Nat) : Int)))) <|
 gd ((decide (s1 > 0)) = true → ((!x6) = false → ((0 : Int) ≤ s1 ∧ s1 < ((a0.Down.length : Nat) : Int)))) <|
(if ((!x6) || ((decide (s1 > 0)) && (decide ((a0.Down.getD ((IntKind.i64.wrap (s1 - 1)).toNat) default) ≥ (a0.Down.getD s1.toNat default))))) = true then
 some (.inr (.inl ()))
else
 some (.inl (IntKind.i64.wrap (s1 + 1))))
else
 some (.inr (.inr ())))) 0) fun x4 =>
(match x4 with
| .inl d9 =>
 some false
| .inr d10 =>
 bd (lp (σ := Int) (β := (Unit ⊕ Unit)) (fun s11 =>
(if (decide (s11 < ((a0.Radio.length : Nat) : Int))) = true then
 gd ((0 : Int) ≤ s11 ∧ s11 < ((a0.Radio.length : Nat) : Int)) <|
 bd (spec_l81In_m ((a0.Radio.getD s11.toNat default).Link) 0 (IntKind.i64.wrap (((a0.Links.length : Nat) : Int) - 1))) fun x16 =>
 bd (gcall ((!x16) = false) (spec_l81In_m ((a0.Radio.getD s11.toNat default).End) 0 1)) fun x17 =>
 bd (gcall (((!x16) || (!x17)) = false) (spec_TreeVectorOk_m ((a0.Radio.getD s11.toNat default).Vector))) fun x18 =>
(if ((((!x16) || (!x17)) || (!x18)) || ((((a0.Radio.getD s11.toNat default).Vector).Root) == 0)) = true then
 some (.inr (.inl ()))
else
 some (.inl (IntKind.i64.wrap (s11 + 1))))
else
 some (.inr (.inr ())))) 0) fun x14 =>
(match x14 with
| .inl d19 =>
 some false
| .inr d20 =>
 some true)))

theorem spec_l82Lists_c {a0 : TreeWorld} {r : Bool} (h : spec_l82Lists_m a0 = some r) : PureC Try.prog 53 [.agg [.d (slD TreeBridge.enc a0.Bridges), .d (slD TreeLink.enc a0.Links), .d (slD encInt a0.Down), .d (slD TreeSlot.enc a0.AtA), .d (slD TreeSlot.enc a0.AtB), .d (slD TreeWord.enc a0.Radio)]] (.d (.bool r)) [] := by
  refine pureC_m tOk (fn := Try.f53) (c := codeOf Try.f53) rfl rfl (by kernel_rfl) rfl rfl (by simp) (by simp) (ids_of rfl) ?_
  unfold spec_l82Lists_m at h
  conv => whnf
  refine seq_in tOk ?_
  conv => whnf
  refine And.intro (fun e => ?_) (fun e => ?_)
  · replace h := ite_t h e; clear e
    conv => whnf
    obtain rfl := Option.some.inj h
    exact ⟨_, LE.refl _, And.intro rfl trivial⟩
  · replace h := ite_f h e; clear e
    conv => whnf
    refine seq_in tOk ?_
    conv => whnf
    obtain ⟨x4, hx4, h⟩ := bd_some h
    refine loop_m tOk hx4 (fun s1 => ⟨0, 102, [(1, .ref 1 0 0), (3, .d (.int .i64 s1))], [], [(1, .box 31 [.d (slD TreeBridge.enc a0.Bridges), .d (slD TreeLink.enc a0.Links), .d (slD encInt a0.Down), .d (slD TreeSlot.enc a0.AtA), .d (slD TreeSlot.enc a0.AtB), .d (slD TreeWord.enc a0.Radio)])], []⟩) ?_ ?_
    · refine le_mk ?_ ?_ ?_ <;> (repeat' first | exact trivial | exact rfl | refine And.intro ?_ ?_ | exact BLe.refl _ | exact VLe.refl _ | exact VLe.any _ | exact VLe.nil_osl rfl | exact VLe.nil_sl rfl | exact VLe.built rfl rfl | (refine VLe.osl rfl ?_; (first | rfl | (simp; done) | assumption | (simp [dsub_eq] <;> omega) | omega)) | exact VLe.rows (by first | rfl | (simp; done) | assumption | (simp [dsub_eq] <;> omega) | omega) (fun _ _ => rfl) | exact VLe.rows (by simp [dsub_eq] <;> omega) rows_take | exact VLe.rows (by simp [dsub_eq] <;> omega) rows_dt | exact VLe.rows (by simp [dsub_eq] <;> omega) rows_vt | exact VLe.rows (by simp) (fun i _ => by simp [viewRow_eq, Nat.add_comm]) | refine VLe.aggL ?_ | (refine BLe.rows rfl ?_ fun _ _ => rfl; (first | rfl | (simp; done) | assumption | (simp [dsub_eq] <;> omega) | omega)) | (refine BLe.rows rfl rfl ?_; first | exact rows_take) | refine BLe.box ?_)
    · clear hx4
      intro s1 y2 g3 hy2
      conv => whnf
      refine seq_in tOk ?_
      conv => whnf
      refine And.intro (fun e => ?_) (fun e => ?_)
      · replace g3 := ite_t g3 e; clear e
        conv => whnf
        refine seq_in tOk ?_
        conv => whnf
        obtain ⟨g5, g3⟩ := gd_some g3
        obtain ⟨x6, hx6, g3⟩ := bd_some g3
        obtain ⟨g7, g3⟩ := gd_some g3
        obtain ⟨g8, g3⟩ := gd_some g3
        refine draw_k tOk (by kernel_rfl) (fun j => match j with | 9 => some (.pure 0 (.d (.bool x6)) []) | _ => none) 29 [] [[], [true], [], [true, true, true], [true, true, true, true], [], [false, false, false, false, false, true], [false, false, false, false, false, true, true], [false, false, false, false, false, true, true, true], [true, true, true, true, true, true, true, true, true], [true, true, true, true, true, true, true, true, true, true], [true, true, true, true, true, true, true, true, true, true, true], [true, true, true, true, true, true, true, true, true, true, true, true], [true, true, true, true, true, true, true, true, true, true, true, true, true], [true, true, true, true, true, true, true, true, true, true, true, true, true, true], [true, true, true, true, true, true, true, true, true, true, true, true, true, true, true], [true, true, true, true, true, true, true, true, true, true, true, true, true, true, true, true], [true, true, true, true, true, true, true, true, true, true, true, true, true, true, true], [true, true, true, true, true, true, true, true, true, true, true, true, true, true, true, false, false, true], [true, true, true, true, true, true, true, true, true, true, true, true, true, true, true, true, true, true, true], [true, true, true, true, true, true, true, true, true, true, true, true, true, true, true, true, true, true, true, true], [true, true, true, true, true, true, true, true, true, true, true, true, true, true, true], [true, true, true, true, true, true, true, true, true, true, true, true, true, true, true, false, false, false, false, false, false, true], [true, true, true, true, true, true, true, true, true, true, true, true, true, true, true], [true, true, true, true, true, true, true, true, true, true, true, true, true, true, true, false, false, false, false, false, false, true, true, true], [true, true, true, true, true, true, true, true, true, true, true, true, true, true, true, false, false, false, false, false, false, true, true, true, true], [true, true, true, true, true, true, true, true, true, true, true, true, true, true, true, true, true, true, true, true, true, true, true, true, true, true], [true, true, true, true, true, true, true, true, true, true, true, true, true, true, true, true, true, true, true, true, true, true, true, true, true, true, true], [true, true, true, true, true, true, true, true, true, true, true, true, true, true, true, true, true, true, true, true, true, true, true, true, true, true, true, true]] [] (by decide) (by kernel_rfl) (by kernel_rfl) ?_
        conv => whnf
        refine And.intro g5 ?_
        clear g5
        conv => whnf
        refine And.intro (callD_any (spec_l81In_c hx6) (by kernel_rfl)) ?_
        conv => whnf
        refine And.intro g7 ?_
        clear g7
        conv => whnf
        refine And.intro g8 ?_
        clear g8
        conv => whnf
        refine And.intro (by kernel_rfl) ?_
        conv => whnf
        refine And.intro (fun e => ?_) (fun e => ?_)
        · replace g3 := ite_t g3 e; clear e
          conv => whnf
          obtain rfl := Option.some.inj g3
          obtain rfl := hy2 _ rfl
          obtain rfl := Option.some.inj h
          exact ⟨_, LE.refl _, And.intro rfl trivial⟩
        · replace g3 := ite_f g3 e; clear e
          conv => whnf
          obtain rfl := Option.some.inj g3
          refine ⟨_, rfl, le_mk ?_ ?_ ?_⟩ <;> (repeat' first | exact trivial | exact rfl | refine And.intro ?_ ?_ | exact BLe.refl _ | exact VLe.refl _ | exact VLe.any _ | exact VLe.nil_osl rfl | exact VLe.nil_sl rfl | exact VLe.built rfl rfl | (refine VLe.osl rfl ?_; (first | rfl | (simp; done) | assumption | (simp [dsub_eq] <;> omega) | omega)) | exact VLe.rows (by first | rfl | (simp; done) | assumption | (simp [dsub_eq] <;> omega) | omega) (fun _ _ => rfl) | exact VLe.rows (by simp [dsub_eq] <;> omega) rows_take | exact VLe.rows (by simp [dsub_eq] <;> omega) rows_dt | exact VLe.rows (by simp [dsub_eq] <;> omega) rows_vt | exact VLe.rows (by simp) (fun i _ => by simp [viewRow_eq, Nat.add_comm]) | refine VLe.aggL ?_ | (refine BLe.rows rfl ?_ fun _ _ => rfl; (first | rfl | (simp; done) | assumption | (simp [dsub_eq] <;> omega) | omega)) | (refine BLe.rows rfl rfl ?_; first | exact rows_take) | refine BLe.box ?_)
      · replace g3 := ite_f g3 e; clear e
        conv => whnf
        obtain rfl := Option.some.inj g3
        obtain rfl := hy2 _ rfl
        refine seq_in tOk ?_
        conv => whnf
        obtain ⟨x14, hx14, h⟩ := bd_some h
        refine loop_m tOk hx14 (fun s11 => ⟨0, 102, [(1, .ref 1 0 0), (4, .d (.int .i64 s11))], [], [(1, .box 31 [.d (slD TreeBridge.enc a0.Bridges), .d (slD TreeLink.enc a0.Links), .d (slD encInt a0.Down), .d (slD TreeSlot.enc a0.AtA), .d (slD TreeSlot.enc a0.AtB), .d (slD TreeWord.enc a0.Radio)])], []⟩) ?_ ?_
        · refine le_mk ?_ ?_ ?_ <;> (repeat' first | exact trivial | exact rfl | refine And.intro ?_ ?_ | exact BLe.refl _ | exact VLe.refl _ | exact VLe.any _ | exact VLe.nil_osl rfl | exact VLe.nil_sl rfl | exact VLe.built rfl rfl | (refine VLe.osl rfl ?_; (first | rfl | (simp; done) | assumption | (simp [dsub_eq] <;> omega) | omega)) | exact VLe.rows (by first | rfl | (simp; done) | assumption | (simp [dsub_eq] <;> omega) | omega) (fun _ _ => rfl) | exact VLe.rows (by simp [dsub_eq] <;> omega) rows_take | exact VLe.rows (by simp [dsub_eq] <;> omega) rows_dt | exact VLe.rows (by simp [dsub_eq] <;> omega) rows_vt | exact VLe.rows (by simp) (fun i _ => by simp [viewRow_eq, Nat.add_comm]) | refine VLe.aggL ?_ | (refine BLe.rows rfl ?_ fun _ _ => rfl; (first | rfl | (simp; done) | assumption | (simp [dsub_eq] <;> omega) | omega)) | (refine BLe.rows rfl rfl ?_; first | exact rows_take) | refine BLe.box ?_)
        · clear hx14
          intro s11 y12 g13 hy12
          conv => whnf
          refine seq_in tOk ?_
          conv => whnf
          refine And.intro (fun e => ?_) (fun e => ?_)
          · replace g13 := ite_t g13 e; clear e
            conv => whnf
            refine seq_in tOk ?_
            conv => whnf
            obtain ⟨g15, g13⟩ := gd_some g13
            refine And.intro g15 ?_
            clear g15
            conv => whnf
            obtain ⟨x16, hx16, g13⟩ := bd_some g13
            refine callC 0 (spec_l81In_c hx16) (by kernel_rfl) (by kernel_rfl) ?_
            clear hx16
            conv => whnf
            obtain ⟨x17, hx17, g13⟩ := bd_some g13
            refine callG_m rfl rfl rfl rfl rfl rfl (by intro c0; exact spec_l81In_c (gcall_some hx17 c0)) ?_
            conv => whnf
            obtain ⟨x18, hx18, g13⟩ := bd_some g13
            refine callG_m rfl rfl rfl rfl rfl rfl (by intro c0; exact spec_TreeVectorOk_c (gcall_some hx18 c0)) ?_
            conv => whnf
            refine And.intro (fun e => ?_) (fun e => ?_)
            · replace g13 := ite_t g13 e; clear e
              conv => whnf
              obtain rfl := Option.some.inj g13
              obtain rfl := hy12 _ rfl
              obtain rfl := Option.some.inj h
              exact ⟨_, LE.refl _, And.intro rfl trivial⟩
            · replace g13 := ite_f g13 e; clear e
              conv => whnf
              obtain rfl := Option.some.inj g13
              refine ⟨_, rfl, le_mk ?_ ?_ ?_⟩ <;> (repeat' first | exact trivial | exact rfl | refine And.intro ?_ ?_ | exact BLe.refl _ | exact VLe.refl _ | exact VLe.any _ | exact VLe.nil_osl rfl | exact VLe.nil_sl rfl | exact VLe.built rfl rfl | (refine VLe.osl rfl ?_; (first | rfl | (simp; done) | assumption | (simp [dsub_eq] <;> omega) | omega)) | exact VLe.rows (by first | rfl | (simp; done) | assumption | (simp [dsub_eq] <;> omega) | omega) (fun _ _ => rfl) | exact VLe.rows (by simp [dsub_eq] <;> omega) rows_take | exact VLe.rows (by simp [dsub_eq] <;> omega) rows_dt | exact VLe.rows (by simp [dsub_eq] <;> omega) rows_vt | exact VLe.rows (by simp) (fun i _ => by simp [viewRow_eq, Nat.add_comm]) | refine VLe.aggL ?_ | (refine BLe.rows rfl ?_ fun _ _ => rfl; (first | rfl | (simp; done) | assumption | (simp [dsub_eq] <;> omega) | omega)) | (refine BLe.rows rfl rfl ?_; first | exact rows_take) | refine BLe.box ?_)
          · replace g13 := ite_f g13 e; clear e
            conv => whnf
            obtain rfl := Option.some.inj g13
            obtain rfl := hy12 _ rfl
            obtain rfl := Option.some.inj h
            exact ⟨_, LE.refl _, And.intro rfl trivial⟩

noncomputable def spec_l82BridgeOk_m (a0 : TreeWorld) (a1 : Int) : Option (Bool) :=
 gd ((0 : Int) ≤ a1 ∧ a1 < ((a0.Bridges.length : Nat) : Int)) <|
 bd (spec_l81In_m ((a0.Bridges.getD a1.toNat default).Id) 1 1000) fun x2 =>
(if (!x2) = true then
 some false
else
 bd (lp (σ := Int) (β := (Unit ⊕ Unit)) (fun s3 =>
(if (decide (s3 < a1)) = true then
 gd ((0 : Int) ≤ s3 ∧ s3 < ((a0.Bridges.length : Nat) : Int)) <|
(if (((a0.Bridges.getD s3.toNat default).Id) == ((a0.Bridges.getD a1.toNat default).Id)) = true then
 some (.inr (.inl ()))
else
 some (.inl (IntKind.i64.wrap (s3 + 1))))
else
 some (.inr (.inr ())))) 0) fun x6 =>
(match x6 with
| .inl d8 =>
 some false
| .inr d9 =>
(if (!((a0.Bridges.getD a1.toNat default).Up)) = true then
 some (((((((a0.Bridges.getD a1.toNat default).Mind).Vector).Root) == 0) && ((((((a0.Bridges.getD a1.toNat default).Mind).Vector).Cost) == 0) && ((((((a0.Bridges.getD a1.toNat default).Mind).Vector).Age) == 0) && true))) && (((((a0.Bridges.getD a1.toNat default).Mind).Link) == 0) && true))
else
 bd (spec_TreeVectorOk_m (((a0.Bridges.getD a1.toNat default).Mind).Vector)) fun x10 =>
 bd (gcall ((x10 && (decide (((((a0.Bridges.getD a1.toNat default).Mind).Vector).Root) > 0))) = true) (spec_l81In_m (((a0.Bridges.getD a1.toNat default).Mind).Link) (-1) (IntKind.i64.wrap (((a0.Links.length : Nat) : Int) - 1)))) fun x11 =>
 some ((x10 && (decide (((((a0.Bridges.getD a1.toNat default).Mind).Vector).Root) > 0))) && x11))))

theorem spec_l82BridgeOk_c {a0 : TreeWorld} {a1 : Int} {r : Bool} (h : spec_l82BridgeOk_m a0 a1 = some r) : PureC Try.prog 54 [.agg [.d (slD TreeBridge.enc a0.Bridges), .d (slD TreeLink.enc a0.Links), .d (slD encInt a0.Down), .d (slD TreeSlot.enc a0.AtA), .d (slD TreeSlot.enc a0.AtB), .d (slD TreeWord.enc a0.Radio)], .d (.int .i64 a1)] (.d (.bool r)) [] := by
  refine pureC_m tOk (fn := Try.f54) (c := codeOf Try.f54) rfl rfl (by kernel_rfl) rfl rfl (by simp) (by simp) (ids_of rfl) ?_
  unfold spec_l82BridgeOk_m at h
  conv => whnf
  obtain ⟨g1, h⟩ := gd_some h
  refine And.intro g1 ?_
  clear g1
  conv => whnf
  refine seq_in tOk ?_
  conv => whnf
  obtain ⟨x2, hx2, h⟩ := bd_some h
  refine callC 0 (spec_l81In_c hx2) (by kernel_rfl) (by kernel_rfl) ?_
  clear hx2
  conv => whnf
  refine And.intro (fun e => ?_) (fun e => ?_)
  · replace h := ite_t h e; clear e
    conv => whnf
    obtain rfl := Option.some.inj h
    exact ⟨_, LE.refl _, And.intro rfl trivial⟩
  · replace h := ite_f h e; clear e
    conv => whnf
    refine seq_in tOk ?_
    conv => whnf
    obtain ⟨x6, hx6, h⟩ := bd_some h
    refine loop_m tOk hx6 (fun s3 => ⟨0, 57, [(1, .d (.int .i64 a1)), (2, .ref 2 0 0), (5, .ref 5 0 0), (6, .d (.int .i64 s3))], [], [(5, .box 74 [.d (.int .i64 ((a0.Bridges.getD a1.toNat default).Id)), .d (.bool ((a0.Bridges.getD a1.toNat default).Up)), .d (.int .i64 ((((a0.Bridges.getD a1.toNat default).Mind).Vector).Root)), .d (.int .i64 ((((a0.Bridges.getD a1.toNat default).Mind).Vector).Cost)), .d (.int .i64 ((((a0.Bridges.getD a1.toNat default).Mind).Vector).Age)), .d (.int .i64 (((a0.Bridges.getD a1.toNat default).Mind).Link))]), (2, .box 31 [.d (slD TreeBridge.enc a0.Bridges), .d (slD TreeLink.enc a0.Links), .d (slD encInt a0.Down), .d (slD TreeSlot.enc a0.AtA), .d (slD TreeSlot.enc a0.AtB), .d (slD TreeWord.enc a0.Radio)])], []⟩) ?_ ?_
    · refine le_mk ?_ ?_ ?_ <;> (repeat' first | exact trivial | exact rfl | refine And.intro ?_ ?_ | exact BLe.refl _ | exact VLe.refl _ | exact VLe.any _ | exact VLe.nil_osl rfl | exact VLe.nil_sl rfl | exact VLe.built rfl rfl | (refine VLe.osl rfl ?_; (first | rfl | (simp; done) | assumption | (simp [dsub_eq] <;> omega) | omega)) | exact VLe.rows (by first | rfl | (simp; done) | assumption | (simp [dsub_eq] <;> omega) | omega) (fun _ _ => rfl) | exact VLe.rows (by simp [dsub_eq] <;> omega) rows_take | exact VLe.rows (by simp [dsub_eq] <;> omega) rows_dt | exact VLe.rows (by simp [dsub_eq] <;> omega) rows_vt | exact VLe.rows (by simp) (fun i _ => by simp [viewRow_eq, Nat.add_comm]) | refine VLe.aggL ?_ | (refine BLe.rows rfl ?_ fun _ _ => rfl; (first | rfl | (simp; done) | assumption | (simp [dsub_eq] <;> omega) | omega)) | (refine BLe.rows rfl rfl ?_; first | exact rows_take) | refine BLe.box ?_)
    · clear hx6
      intro s3 y4 g5 hy4
      conv => whnf
      refine seq_in tOk ?_
      conv => whnf
      refine And.intro (fun e => ?_) (fun e => ?_)
      · replace g5 := ite_t g5 e; clear e
        conv => whnf
        refine seq_in tOk ?_
        conv => whnf
        obtain ⟨g7, g5⟩ := gd_some g5
        refine draw_k tOk (by kernel_rfl) (fun _ => none) 9 [] [[], [true], [], [true, true, true], [true, true, true, true], [true, true, true, true, true], [], [false, false, false, false, false, false, true], [true, true, true, true, true, true, true, true]] [] (by decide) (by kernel_rfl) (by kernel_rfl) ?_
        conv => whnf
        refine And.intro g7 ?_
        clear g7
        conv => whnf
        refine And.intro (by kernel_rfl) ?_
        conv => whnf
        refine And.intro (fun e => ?_) (fun e => ?_)
        · replace g5 := ite_t g5 e; clear e
          conv => whnf
          obtain rfl := Option.some.inj g5
          obtain rfl := hy4 _ rfl
          obtain rfl := Option.some.inj h
          exact ⟨_, LE.refl _, And.intro rfl trivial⟩
        · replace g5 := ite_f g5 e; clear e
          conv => whnf
          obtain rfl := Option.some.inj g5
          refine ⟨_, rfl, le_mk ?_ ?_ ?_⟩ <;> (repeat' first | exact trivial | exact rfl | refine And.intro ?_ ?_ | exact BLe.refl _ | exact VLe.refl _ | exact VLe.any _ | exact VLe.nil_osl rfl | exact VLe.nil_sl rfl | exact VLe.built rfl rfl | (refine VLe.osl rfl ?_; (first | rfl | (simp; done) | assumption | (simp [dsub_eq] <;> omega) | omega)) | exact VLe.rows (by first | rfl | (simp; done) | assumption | (simp [dsub_eq] <;> omega) | omega) (fun _ _ => rfl) | exact VLe.rows (by simp [dsub_eq] <;> omega) rows_take | exact VLe.rows (by simp [dsub_eq] <;> omega) rows_dt | exact VLe.rows (by simp [dsub_eq] <;> omega) rows_vt | exact VLe.rows (by simp) (fun i _ => by simp [viewRow_eq, Nat.add_comm]) | refine VLe.aggL ?_ | (refine BLe.rows rfl ?_ fun _ _ => rfl; (first | rfl | (simp; done) | assumption | (simp [dsub_eq] <;> omega) | omega)) | (refine BLe.rows rfl rfl ?_; first | exact rows_take) | refine BLe.box ?_)
      · replace g5 := ite_f g5 e; clear e
        conv => whnf
        obtain rfl := Option.some.inj g5
        obtain rfl := hy4 _ rfl
        refine seq_in tOk ?_
        conv => whnf
        refine And.intro (fun e => ?_) (fun e => ?_)
        · replace h := ite_t h e; clear e
          conv => whnf
          obtain rfl := Option.some.inj h
          exact ⟨_, LE.refl _, And.intro rfl trivial⟩
        · replace h := ite_f h e; clear e
          conv => whnf
          obtain ⟨x10, hx10, h⟩ := bd_some h
          refine callC 0 (spec_TreeVectorOk_c hx10) (by kernel_rfl) (by kernel_rfl) ?_
          clear hx10
          conv => whnf
          obtain ⟨x11, hx11, h⟩ := bd_some h
          refine callG_m rfl rfl rfl rfl rfl rfl (by intro c0; exact spec_l81In_c (gcall_some hx11 c0)) ?_
          conv => whnf
          obtain rfl := Option.some.inj h
          exact ⟨_, LE.refl _, And.intro rfl trivial⟩

noncomputable def spec_l82SlotOk_m (a0 : TreeSlot) : Option (Bool) :=
 bd (spec_TreeVectorOk_m a0.Vector) fun x1 =>
 bd (gcall (x1 = true) (spec_l81In_m a0.Left 0 3)) fun x2 =>
 some ((x1 && x2) && ((a0.Left == 0) == (a0.Vector.Root == 0)))

theorem spec_l82SlotOk_c {a0 : TreeSlot} {r : Bool} (h : spec_l82SlotOk_m a0 = some r) : PureC Try.prog 92 [.agg [.d (.int .i64 a0.Vector.Root), .d (.int .i64 a0.Vector.Cost), .d (.int .i64 a0.Vector.Age), .d (.int .i64 a0.Left)]] (.d (.bool r)) [] := by
  refine pureC_m tOk (fn := Try.f92) (c := codeOf Try.f92) rfl rfl (by kernel_rfl) rfl rfl (by simp) (by simp) (ids_of rfl) ?_
  unfold spec_l82SlotOk_m at h
  conv => whnf
  obtain ⟨x1, hx1, h⟩ := bd_some h
  refine callC 0 (spec_TreeVectorOk_c hx1) (by kernel_rfl) (by kernel_rfl) ?_
  clear hx1
  conv => whnf
  obtain ⟨x2, hx2, h⟩ := bd_some h
  refine callG_m rfl rfl rfl rfl rfl rfl (by intro c0; exact spec_l81In_c (gcall_some hx2 c0)) ?_
  conv => whnf
  obtain rfl := Option.some.inj h
  exact ⟨_, LE.refl _, And.intro rfl trivial⟩

noncomputable def spec_l82Has_m (a0 : (List Int)) (a1 : Int) : Option (Bool) :=
 bd (lp (σ := Int) (β := (Unit ⊕ Unit)) (fun s1 =>
(if (decide (s1 < ((a0.length : Nat) : Int))) = true then
 gd ((0 : Int) ≤ s1 ∧ s1 < ((a0.length : Nat) : Int)) <|
(if ((a0.getD s1.toNat default) == a1) = true then
 some (.inr (.inl ()))
else
 some (.inl (IntKind.i64.wrap (s1 + 1))))
else
 some (.inr (.inr ())))) 0) fun x4 =>
(match x4 with
| .inl d6 =>
 some true
| .inr d7 =>
 some false)

theorem spec_l82Has_c {a0 : (List Int)} {a1 : Int} {r : Bool} (h : spec_l82Has_m a0 a1 = some r) : PureC Try.prog 88 [.d (slD encInt a0), .d (.int .i64 a1)] (.d (.bool r)) [] := by
  refine pureC_m tOk (fn := Try.f88) (c := codeOf Try.f88) rfl rfl (by kernel_rfl) rfl rfl (by simp) (by simp) (ids_of rfl) ?_
  unfold spec_l82Has_m at h
  conv => whnf
  refine seq_in tOk ?_
  conv => whnf
  obtain ⟨x4, hx4, h⟩ := bd_some h
  refine loop_m tOk hx4 (fun s1 => ⟨0, 18, [(0, .d (slD encInt a0)), (1, .d (.int .i64 a1)), (5, .d (.int .i64 s1))], [], [], []⟩) ?_ ?_
  · refine le_mk ?_ ?_ ?_ <;> (repeat' first | exact trivial | exact rfl | refine And.intro ?_ ?_ | exact BLe.refl _ | exact VLe.refl _ | exact VLe.any _ | exact VLe.nil_osl rfl | exact VLe.nil_sl rfl | exact VLe.built rfl rfl | (refine VLe.osl rfl ?_; (first | rfl | (simp; done) | assumption | (simp [dsub_eq] <;> omega) | omega)) | exact VLe.rows (by first | rfl | (simp; done) | assumption | (simp [dsub_eq] <;> omega) | omega) (fun _ _ => rfl) | exact VLe.rows (by simp [dsub_eq] <;> omega) rows_take | exact VLe.rows (by simp [dsub_eq] <;> omega) rows_dt | exact VLe.rows (by simp [dsub_eq] <;> omega) rows_vt | exact VLe.rows (by simp) (fun i _ => by simp [viewRow_eq, Nat.add_comm]) | refine VLe.aggL ?_ | (refine BLe.rows rfl ?_ fun _ _ => rfl; (first | rfl | (simp; done) | assumption | (simp [dsub_eq] <;> omega) | omega)) | (refine BLe.rows rfl rfl ?_; first | exact rows_take) | refine BLe.box ?_)
  · clear hx4
    intro s1 y2 g3 hy2
    conv => whnf
    refine seq_in tOk ?_
    conv => whnf
    refine And.intro (fun e => ?_) (fun e => ?_)
    · replace g3 := ite_t g3 e; clear e
      conv => whnf
      refine seq_in tOk ?_
      conv => whnf
      obtain ⟨g5, g3⟩ := gd_some g3
      refine And.intro g5 ?_
      clear g5
      conv => whnf
      refine And.intro (fun e => ?_) (fun e => ?_)
      · replace g3 := ite_t g3 e; clear e
        conv => whnf
        obtain rfl := Option.some.inj g3
        obtain rfl := hy2 _ rfl
        obtain rfl := Option.some.inj h
        exact ⟨_, LE.refl _, And.intro rfl trivial⟩
      · replace g3 := ite_f g3 e; clear e
        conv => whnf
        obtain rfl := Option.some.inj g3
        refine ⟨_, rfl, le_mk ?_ ?_ ?_⟩ <;> (repeat' first | exact trivial | exact rfl | refine And.intro ?_ ?_ | exact BLe.refl _ | exact VLe.refl _ | exact VLe.any _ | exact VLe.nil_osl rfl | exact VLe.nil_sl rfl | exact VLe.built rfl rfl | (refine VLe.osl rfl ?_; (first | rfl | (simp; done) | assumption | (simp [dsub_eq] <;> omega) | omega)) | exact VLe.rows (by first | rfl | (simp; done) | assumption | (simp [dsub_eq] <;> omega) | omega) (fun _ _ => rfl) | exact VLe.rows (by simp [dsub_eq] <;> omega) rows_take | exact VLe.rows (by simp [dsub_eq] <;> omega) rows_dt | exact VLe.rows (by simp [dsub_eq] <;> omega) rows_vt | exact VLe.rows (by simp) (fun i _ => by simp [viewRow_eq, Nat.add_comm]) | refine VLe.aggL ?_ | (refine BLe.rows rfl ?_ fun _ _ => rfl; (first | rfl | (simp; done) | assumption | (simp [dsub_eq] <;> omega) | omega)) | (refine BLe.rows rfl rfl ?_; first | exact rows_take) | refine BLe.box ?_)
    · replace g3 := ite_f g3 e; clear e
      conv => whnf
      obtain rfl := Option.some.inj g3
      obtain rfl := hy2 _ rfl
      obtain rfl := Option.some.inj h
      exact ⟨_, LE.refl _, And.intro rfl trivial⟩

noncomputable def spec_l82Ends_m (a0 : TreeWorld) : Option (Bool) :=
 bd (lp (σ := Int) (β := (Unit ⊕ Unit)) (fun s1 =>
(if (decide (s1 < ((a0.Links.length : Nat) : Int))) = true then
 gd ((0 : Int) ≤ s1 ∧ s1 < ((a0.Links.length : Nat) : Int)) <|
 gd ((0 : Int) ≤ s1 ∧ s1 < ((a0.AtA.length : Nat) : Int)) <|
 bd (spec_l82SlotOk_m (⟨((a0.AtA.getD s1.toNat default).Vector), (a0.AtA.getD s1.toNat default).Left⟩ : TreeSlot)) fun x7 =>
 gd ((!x7) = false → ((0 : Int) ≤ s1 ∧ s1 < ((a0.AtB.length : Nat) : Int))) <|
 bd (gcall ((!x7) = false) (spec_l82SlotOk_m (⟨((a0.AtB.getD s1.toNat default).Vector), (a0.AtB.getD s1.toNat default).Left⟩ : TreeSlot))) fun x9 =>
(if ((!x7) || (!x9)) = true then
 some (.inr (.inl ()))
else
 bd (spec_l82Has_m a0.Down s1) fun x10 =>
 gd (x10 = false → ((0 : Int) ≤ (a0.Links.getD s1.toNat default).A ∧ (a0.Links.getD s1.toNat default).A < ((a0.Bridges.length : Nat) : Int))) <|
 gd ((x10 || (!((a0.Bridges.getD (((a0.Links.getD s1.toNat default).A).toNat) default).Up))) = true → ((0 : Int) ≤ s1 ∧ s1 < ((a0.AtA.length : Nat) : Int))) <|
 bd (gcall (((x10 || (!((a0.Bridges.getD (((a0.Links.getD s1.toNat default).A).toNat) default).Up))) && (decide (((a0.AtA.getD s1.toNat default).Left) > 0))) = false) (spec_l82Has_m a0.Down s1)) fun x13 =>
 gd (x13 = false → (((x10 || (!((a0.Bridges.getD (((a0.Links.getD s1.toNat default).A).toNat) default).Up))) && (decide (((a0.AtA.getD s1.toNat default).Left) > 0))) = false → ((0 : Int) ≤ (a0.Links.getD s1.toNat default).B ∧ (a0.Links.getD s1.toNat default).B < ((a0.Bridges.length : Nat) : Int)))) <|
 gd ((x13 || (!((a0.Bridges.getD (((a0.Links.getD s1.toNat default).B).toNat) default).Up))) = true → (((x10 || (!((a0.Bridges.getD (((a0.Links.getD s1.toNat default).A).toNat) default).Up))) && (decide (((a0.AtA.getD s1.toNat default).Left) > 0))) = false → ((0 : Int) ≤ s1 ∧ s1 < ((a0.AtB.length : Nat) : Int)))) <|
(if (((x10 || (!((a0.Bridges.getD (((a0.Links.getD s1.toNat default).A).toNat) default).Up))) && (decide (((a0.AtA.getD s1.toNat default).Left) > 0))) || ((x13 || (!((a0.Bridges.getD (((a0.Links.getD s1.toNat default).B).toNat) default).Up))) && (decide (((a0.AtB.getD s1.toNat default).Left) > 0)))) = true then
 some (.inr (.inl ()))
else
 some (.inl (IntKind.i64.wrap (s1 + 1)))))
else
 some (.inr (.inr ())))) 0) fun x4 =>
(match x4 with
| .inl d16 =>
 some false
| .inr d17 =>
 some true)

theorem spec_l82Ends_c {a0 : TreeWorld} {r : Bool} (h : spec_l82Ends_m a0 = some r) : PureC Try.prog 55 [.agg [.d (slD TreeBridge.enc a0.Bridges), .d (slD TreeLink.enc a0.Links), .d (slD encInt a0.Down), .d (slD TreeSlot.enc a0.AtA), .d (slD TreeSlot.enc a0.AtB), .d (slD TreeWord.enc a0.Radio)]] (.d (.bool r)) [] := by
  refine pureC_m tOk (fn := Try.f55) (c := codeOf Try.f55) rfl rfl (by kernel_rfl) rfl rfl (by simp) (by simp) (ids_of rfl) ?_
  unfold spec_l82Ends_m at h
  conv => whnf
  refine seq_in tOk ?_
  conv => whnf
  obtain ⟨x4, hx4, h⟩ := bd_some h
  refine loop_m tOk hx4 (fun s1 => ⟨0, 81, [(1, .ref 1 0 0), (3, .d (.int .i64 s1))], [], [(1, .box 31 [.d (slD TreeBridge.enc a0.Bridges), .d (slD TreeLink.enc a0.Links), .d (slD encInt a0.Down), .d (slD TreeSlot.enc a0.AtA), .d (slD TreeSlot.enc a0.AtB), .d (slD TreeWord.enc a0.Radio)])], []⟩) ?_ ?_
  · refine le_mk ?_ ?_ ?_ <;> (repeat' first | exact trivial | exact rfl | refine And.intro ?_ ?_ | exact BLe.refl _ | exact VLe.refl _ | exact VLe.any _ | exact VLe.nil_osl rfl | exact VLe.nil_sl rfl | exact VLe.built rfl rfl | (refine VLe.osl rfl ?_; (first | rfl | (simp; done) | assumption | (simp [dsub_eq] <;> omega) | omega)) | exact VLe.rows (by first | rfl | (simp; done) | assumption | (simp [dsub_eq] <;> omega) | omega) (fun _ _ => rfl) | exact VLe.rows (by simp [dsub_eq] <;> omega) rows_take | exact VLe.rows (by simp [dsub_eq] <;> omega) rows_dt | exact VLe.rows (by simp [dsub_eq] <;> omega) rows_vt | exact VLe.rows (by simp) (fun i _ => by simp [viewRow_eq, Nat.add_comm]) | refine VLe.aggL ?_ | (refine BLe.rows rfl ?_ fun _ _ => rfl; (first | rfl | (simp; done) | assumption | (simp [dsub_eq] <;> omega) | omega)) | (refine BLe.rows rfl rfl ?_; first | exact rows_take) | refine BLe.box ?_)
  · clear hx4
    intro s1 y2 g3 hy2
    conv => whnf
    refine seq_in tOk ?_
    conv => whnf
    refine And.intro (fun e => ?_) (fun e => ?_)
    · replace g3 := ite_t g3 e; clear e
      conv => whnf
      refine seq_in tOk ?_
      conv => whnf
      obtain ⟨g5, g3⟩ := gd_some g3
      refine And.intro g5 ?_
      clear g5
      conv => whnf
      refine seq_in tOk ?_
      conv => whnf
      obtain ⟨g6, g3⟩ := gd_some g3
      refine And.intro g6 ?_
      clear g6
      conv => whnf
      obtain ⟨x7, hx7, g3⟩ := bd_some g3
      refine callC 0 (spec_l82SlotOk_c hx7) (by kernel_rfl) (by kernel_rfl) ?_
      clear hx7
      conv => whnf
      obtain ⟨g8, g3⟩ := gd_some g3
      refine And.intro g8 ?_
      clear g8
      conv => whnf
      obtain ⟨x9, hx9, g3⟩ := bd_some g3
      refine callG_m rfl rfl rfl rfl rfl rfl (by intro c0; exact spec_l82SlotOk_c (gcall_some hx9 c0)) ?_
      conv => whnf
      refine And.intro (fun e => ?_) (fun e => ?_)
      · replace g3 := ite_t g3 e; clear e
        conv => whnf
        obtain rfl := Option.some.inj g3
        obtain rfl := hy2 _ rfl
        obtain rfl := Option.some.inj h
        exact ⟨_, LE.refl _, And.intro rfl trivial⟩
      · replace g3 := ite_f g3 e; clear e
        conv => whnf
        obtain ⟨x10, hx10, g3⟩ := bd_some g3
        refine callC 0 (spec_l82Has_c hx10) (by kernel_rfl) (by kernel_rfl) ?_
        clear hx10
        conv => whnf
        obtain ⟨g11, g3⟩ := gd_some g3
        refine And.intro g11 ?_
        clear g11
        conv => whnf
        obtain ⟨g12, g3⟩ := gd_some g3
        refine And.intro g12 ?_
        clear g12
        conv => whnf
        obtain ⟨x13, hx13, g3⟩ := bd_some g3
        refine callG_m rfl rfl rfl rfl rfl rfl (by intro c0; exact spec_l82Has_c (gcall_some hx13 c0)) ?_
        conv => whnf
        obtain ⟨g14, g3⟩ := gd_some g3
        refine And.intro g14 ?_
        clear g14
        conv => whnf
        obtain ⟨g15, g3⟩ := gd_some g3
        refine And.intro g15 ?_
        clear g15
        conv => whnf
        refine And.intro (fun e => ?_) (fun e => ?_)
        · replace g3 := ite_t g3 e; clear e
          conv => whnf
          obtain rfl := Option.some.inj g3
          obtain rfl := hy2 _ rfl
          obtain rfl := Option.some.inj h
          exact ⟨_, LE.refl _, And.intro rfl trivial⟩
        · replace g3 := ite_f g3 e; clear e
          conv => whnf
          obtain rfl := Option.some.inj g3
          refine ⟨_, rfl, le_mk ?_ ?_ ?_⟩ <;> (repeat' first | exact trivial | exact rfl | refine And.intro ?_ ?_ | exact BLe.refl _ | exact VLe.refl _ | exact VLe.any _ | exact VLe.nil_osl rfl | exact VLe.nil_sl rfl | exact VLe.built rfl rfl | (refine VLe.osl rfl ?_; (first | rfl | (simp; done) | assumption | (simp [dsub_eq] <;> omega) | omega)) | exact VLe.rows (by first | rfl | (simp; done) | assumption | (simp [dsub_eq] <;> omega) | omega) (fun _ _ => rfl) | exact VLe.rows (by simp [dsub_eq] <;> omega) rows_take | exact VLe.rows (by simp [dsub_eq] <;> omega) rows_dt | exact VLe.rows (by simp [dsub_eq] <;> omega) rows_vt | exact VLe.rows (by simp) (fun i _ => by simp [viewRow_eq, Nat.add_comm]) | refine VLe.aggL ?_ | (refine BLe.rows rfl ?_ fun _ _ => rfl; (first | rfl | (simp; done) | assumption | (simp [dsub_eq] <;> omega) | omega)) | (refine BLe.rows rfl rfl ?_; first | exact rows_take) | refine BLe.box ?_)
    · replace g3 := ite_f g3 e; clear e
      conv => whnf
      obtain rfl := Option.some.inj g3
      obtain rfl := hy2 _ rfl
      obtain rfl := Option.some.inj h
      exact ⟨_, LE.refl _, And.intro rfl trivial⟩

noncomputable def spec_TreeWorldOk_m (a0 : TreeWorld) : Option (Bool) :=
 bd (spec_TreeLinksOk_m ((a0.Bridges.length : Nat) : Int) a0.Links) fun x1 =>
 bd (gcall ((!x1) = false) (spec_l82Lists_m a0)) fun x2 =>
(if ((!x1) || (!x2)) = true then
 some false
else
 bd (lp (σ := Int) (β := (Unit ⊕ Unit)) (fun s3 =>
(if (decide (s3 < ((a0.Bridges.length : Nat) : Int))) = true then
 bd (spec_l82BridgeOk_m a0 s3) fun x7 =>
(if (!x7) = true then
 some (.inr (.inl ()))
else
 some (.inl (IntKind.i64.wrap (s3 + 1))))
else
 some (.inr (.inr ())))) 0) fun x6 =>
(match x6 with
| .inl d8 =>
 some false
| .inr d9 =>
 bd (spec_l82Ends_m a0) fun x10 =>
 some x10))

theorem spec_TreeWorldOk_c {a0 : TreeWorld} {r : Bool} (h : spec_TreeWorldOk_m a0 = some r) : PureC Try.prog 16 [.agg [.d (slD TreeBridge.enc a0.Bridges), .d (slD TreeLink.enc a0.Links), .d (slD encInt a0.Down), .d (slD TreeSlot.enc a0.AtA), .d (slD TreeSlot.enc a0.AtB), .d (slD TreeWord.enc a0.Radio)]] (.d (.bool r)) [] := by
  refine pureC_m tOk (fn := Try.f16) (c := codeOf Try.f16) rfl rfl (by kernel_rfl) rfl rfl (by simp) (by simp) (ids_of rfl) ?_
  unfold spec_TreeWorldOk_m at h
  conv => whnf
  refine seq_in tOk ?_
  conv => whnf
  obtain ⟨x1, hx1, h⟩ := bd_some h
  refine callC 0 (spec_TreeLinksOk_c hx1) (by kernel_rfl) (by kernel_rfl) ?_
  clear hx1
  conv => whnf
  obtain ⟨x2, hx2, h⟩ := bd_some h
  refine callG_m rfl rfl rfl rfl rfl rfl (by intro c0; exact spec_l82Lists_c (gcall_some hx2 c0)) ?_
  conv => whnf
  refine And.intro (fun e => ?_) (fun e => ?_)
  · replace h := ite_t h e; clear e
    conv => whnf
    obtain rfl := Option.some.inj h
    exact ⟨_, LE.refl _, And.intro rfl trivial⟩
  · replace h := ite_f h e; clear e
    conv => whnf
    refine seq_in tOk ?_
    conv => whnf
    obtain ⟨x6, hx6, h⟩ := bd_some h
    refine loop_m tOk hx6 (fun s3 => ⟨0, 29, [(1, .ref 1 0 0), (3, .d (.int .i64 s3))], [], [(1, .box 31 [.d (slD TreeBridge.enc a0.Bridges), .d (slD TreeLink.enc a0.Links), .d (slD encInt a0.Down), .d (slD TreeSlot.enc a0.AtA), .d (slD TreeSlot.enc a0.AtB), .d (slD TreeWord.enc a0.Radio)])], []⟩) ?_ ?_
    · refine le_mk ?_ ?_ ?_ <;> (repeat' first | exact trivial | exact rfl | refine And.intro ?_ ?_ | exact BLe.refl _ | exact VLe.refl _ | exact VLe.any _ | exact VLe.nil_osl rfl | exact VLe.nil_sl rfl | exact VLe.built rfl rfl | (refine VLe.osl rfl ?_; (first | rfl | (simp; done) | assumption | (simp [dsub_eq] <;> omega) | omega)) | exact VLe.rows (by first | rfl | (simp; done) | assumption | (simp [dsub_eq] <;> omega) | omega) (fun _ _ => rfl) | exact VLe.rows (by simp [dsub_eq] <;> omega) rows_take | exact VLe.rows (by simp [dsub_eq] <;> omega) rows_dt | exact VLe.rows (by simp [dsub_eq] <;> omega) rows_vt | exact VLe.rows (by simp) (fun i _ => by simp [viewRow_eq, Nat.add_comm]) | refine VLe.aggL ?_ | (refine BLe.rows rfl ?_ fun _ _ => rfl; (first | rfl | (simp; done) | assumption | (simp [dsub_eq] <;> omega) | omega)) | (refine BLe.rows rfl rfl ?_; first | exact rows_take) | refine BLe.box ?_)
    · clear hx6
      intro s3 y4 g5 hy4
      conv => whnf
      refine seq_in tOk ?_
      conv => whnf
      refine And.intro (fun e => ?_) (fun e => ?_)
      · replace g5 := ite_t g5 e; clear e
        conv => whnf
        refine seq_in tOk ?_
        conv => whnf
        obtain ⟨x7, hx7, g5⟩ := bd_some g5
        refine callC 0 (spec_l82BridgeOk_c hx7) (by kernel_rfl) (by kernel_rfl) ?_
        clear hx7
        conv => whnf
        refine And.intro (fun e => ?_) (fun e => ?_)
        · replace g5 := ite_t g5 e; clear e
          conv => whnf
          obtain rfl := Option.some.inj g5
          obtain rfl := hy4 _ rfl
          obtain rfl := Option.some.inj h
          exact ⟨_, LE.refl _, And.intro rfl trivial⟩
        · replace g5 := ite_f g5 e; clear e
          conv => whnf
          obtain rfl := Option.some.inj g5
          refine ⟨_, rfl, le_mk ?_ ?_ ?_⟩ <;> (repeat' first | exact trivial | exact rfl | refine And.intro ?_ ?_ | exact BLe.refl _ | exact VLe.refl _ | exact VLe.any _ | exact VLe.nil_osl rfl | exact VLe.nil_sl rfl | exact VLe.built rfl rfl | (refine VLe.osl rfl ?_; (first | rfl | (simp; done) | assumption | (simp [dsub_eq] <;> omega) | omega)) | exact VLe.rows (by first | rfl | (simp; done) | assumption | (simp [dsub_eq] <;> omega) | omega) (fun _ _ => rfl) | exact VLe.rows (by simp [dsub_eq] <;> omega) rows_take | exact VLe.rows (by simp [dsub_eq] <;> omega) rows_dt | exact VLe.rows (by simp [dsub_eq] <;> omega) rows_vt | exact VLe.rows (by simp) (fun i _ => by simp [viewRow_eq, Nat.add_comm]) | refine VLe.aggL ?_ | (refine BLe.rows rfl ?_ fun _ _ => rfl; (first | rfl | (simp; done) | assumption | (simp [dsub_eq] <;> omega) | omega)) | (refine BLe.rows rfl rfl ?_; first | exact rows_take) | refine BLe.box ?_)
      · replace g5 := ite_f g5 e; clear e
        conv => whnf
        obtain rfl := Option.some.inj g5
        obtain rfl := hy4 _ rfl
        obtain ⟨x10, hx10, h⟩ := bd_some h
        refine callC 0 (spec_l82Ends_c hx10) (by kernel_rfl) (by kernel_rfl) ?_
        clear hx10
        conv => whnf
        obtain rfl := Option.some.inj h
        exact ⟨_, LE.refl _, And.intro rfl trivial⟩

noncomputable def impl_within_m (a0 : Int) (a1 : Int) (a2 : Int) : Option (Bool) :=
 some ((decide (a1 ≤ a0)) && (decide (a0 ≤ a2)))

theorem impl_within_c {a0 : Int} {a1 : Int} {a2 : Int} {r : Bool} (h : impl_within_m a0 a1 a2 = some r) : PureC Try.prog 47 [.d (.int .i64 a0), .d (.int .i64 a1), .d (.int .i64 a2)] (.d (.bool r)) [] := by
  refine pureC_m tOk (fn := Try.f47) (c := codeOf Try.f47) rfl rfl (by kernel_rfl) rfl rfl (by simp) (by simp) (ids_of rfl) ?_
  unfold impl_within_m at h
  conv => whnf
  obtain rfl := Option.some.inj h
  exact ⟨_, LE.refl _, And.intro rfl trivial⟩

noncomputable def impl_TreeLinksOk_m (a0 : Int) (a1 : (List TreeLink)) : Option (Bool) :=
 bd (lp (σ := Int) (β := (Unit ⊕ Unit)) (fun s1 =>
(if (decide (s1 < ((a1.length : Nat) : Int))) = true then
 gd ((0 : Int) ≤ s1 ∧ s1 < ((a1.length : Nat) : Int)) <|
 bd (gcall ((((decide (((a1.getD s1.toNat default).A) < 0)) || (decide (((a1.getD s1.toNat default).A) ≥ ((a1.getD s1.toNat default).B)))) || (decide (((a1.getD s1.toNat default).B) ≥ a0))) = false) (impl_within_m ((a1.getD s1.toNat default).Cost) 1 50)) fun x6 =>
(if ((((decide (((a1.getD s1.toNat default).A) < 0)) || (decide (((a1.getD s1.toNat default).A) ≥ ((a1.getD s1.toNat default).B)))) || (decide (((a1.getD s1.toNat default).B) ≥ a0))) || (!x6)) = true then
 some (.inr (.inl ()))
else
 some (.inl (IntKind.i64.wrap (s1 + 1))))
else
 some (.inr (.inr ())))) 0) fun x4 =>
(match x4 with
| .inl d7 =>
 some false
| .inr d8 =>
 bd (impl_within_m a0 1 8) fun x9 =>
 some (x9 && (decide (((a1.length : Nat) : Int) ≤ 12))))

theorem impl_TreeLinksOk_c {a0 : Int} {a1 : (List TreeLink)} {r : Bool} (h : impl_TreeLinksOk_m a0 a1 = some r) : PureC Try.prog 13 [.d (.int .i64 a0), .d (slD TreeLink.enc a1)] (.d (.bool r)) [] := by
  refine pureC_m tOk (fn := Try.f13) (c := codeOf Try.f13) rfl rfl (by kernel_rfl) rfl rfl (by simp) (by simp) (ids_of rfl) ?_
  unfold impl_TreeLinksOk_m at h
  conv => whnf
  refine seq_in tOk ?_
  conv => whnf
  obtain ⟨x4, hx4, h⟩ := bd_some h
  refine loop_m tOk hx4 (fun s1 => ⟨0, 43, [(0, .d (.int .i64 a0)), (1, .d (slD TreeLink.enc a1)), (7, .d (slD TreeLink.enc a1)), (8, .d (.int .i64 ((a1.length : Nat) : Int))), (9, .d (.int .i64 s1))], [], [], []⟩) ?_ ?_
  · refine le_mk ?_ ?_ ?_ <;> (repeat' first | exact trivial | exact rfl | refine And.intro ?_ ?_ | exact BLe.refl _ | exact VLe.refl _ | exact VLe.any _ | exact VLe.nil_osl rfl | exact VLe.nil_sl rfl | exact VLe.built rfl rfl | (refine VLe.osl rfl ?_; (first | rfl | (simp; done) | assumption | (simp [dsub_eq] <;> omega) | omega)) | exact VLe.rows (by first | rfl | (simp; done) | assumption | (simp [dsub_eq] <;> omega) | omega) (fun _ _ => rfl) | exact VLe.rows (by simp [dsub_eq] <;> omega) rows_take | exact VLe.rows (by simp [dsub_eq] <;> omega) rows_dt | exact VLe.rows (by simp [dsub_eq] <;> omega) rows_vt | exact VLe.rows (by simp) (fun i _ => by simp [viewRow_eq, Nat.add_comm]) | refine VLe.aggL ?_ | (refine BLe.rows rfl ?_ fun _ _ => rfl; (first | rfl | (simp; done) | assumption | (simp [dsub_eq] <;> omega) | omega)) | (refine BLe.rows rfl rfl ?_; first | exact rows_take) | refine BLe.box ?_)
  · clear hx4
    intro s1 y2 g3 hy2
    conv => whnf
    refine seq_in tOk ?_
    conv => whnf
    refine And.intro (fun e => ?_) (fun e => ?_)
    · replace g3 := ite_t g3 e; clear e
      conv => whnf
      refine seq_in tOk ?_
      conv => whnf
      obtain ⟨g5, g3⟩ := gd_some g3
      refine And.intro g5 ?_
      clear g5
      conv => whnf
      obtain ⟨x6, hx6, g3⟩ := bd_some g3
      refine callG_m rfl rfl rfl rfl rfl rfl (by intro c0; exact impl_within_c (gcall_some hx6 c0)) ?_
      conv => whnf
      refine And.intro (fun e => ?_) (fun e => ?_)
      · replace g3 := ite_t g3 e; clear e
        conv => whnf
        obtain rfl := Option.some.inj g3
        obtain rfl := hy2 _ rfl
        obtain rfl := Option.some.inj h
        exact ⟨_, LE.refl _, And.intro rfl trivial⟩
      · replace g3 := ite_f g3 e; clear e
        conv => whnf
        obtain rfl := Option.some.inj g3
        refine ⟨_, rfl, le_mk ?_ ?_ ?_⟩ <;> (repeat' first | exact trivial | exact rfl | refine And.intro ?_ ?_ | exact BLe.refl _ | exact VLe.refl _ | exact VLe.any _ | exact VLe.nil_osl rfl | exact VLe.nil_sl rfl | exact VLe.built rfl rfl | (refine VLe.osl rfl ?_; (first | rfl | (simp; done) | assumption | (simp [dsub_eq] <;> omega) | omega)) | exact VLe.rows (by first | rfl | (simp; done) | assumption | (simp [dsub_eq] <;> omega) | omega) (fun _ _ => rfl) | exact VLe.rows (by simp [dsub_eq] <;> omega) rows_take | exact VLe.rows (by simp [dsub_eq] <;> omega) rows_dt | exact VLe.rows (by simp [dsub_eq] <;> omega) rows_vt | exact VLe.rows (by simp) (fun i _ => by simp [viewRow_eq, Nat.add_comm]) | refine VLe.aggL ?_ | (refine BLe.rows rfl ?_ fun _ _ => rfl; (first | rfl | (simp; done) | assumption | (simp [dsub_eq] <;> omega) | omega)) | (refine BLe.rows rfl rfl ?_; first | exact rows_take) | refine BLe.box ?_)
    · replace g3 := ite_f g3 e; clear e
      conv => whnf
      obtain rfl := Option.some.inj g3
      obtain rfl := hy2 _ rfl
      obtain ⟨x9, hx9, h⟩ := bd_some h
      refine callC 0 (impl_within_c hx9) (by kernel_rfl) (by kernel_rfl) ?_
      clear hx9
      conv => whnf
      obtain rfl := Option.some.inj h
      exact ⟨_, LE.refl _, And.intro rfl trivial⟩

noncomputable def impl_TreeWorld_bridgesOk_1_m (a0 : TreeBridge) (a1 : TreeBridge) : Option (Bool) :=
 some (a0.Id == a1.Id)

theorem impl_TreeWorld_bridgesOk_1_c {a0 : TreeBridge} {a1 : TreeBridge} {r : Bool} (h : impl_TreeWorld_bridgesOk_1_m a0 a1 = some r) : PureC Try.prog 97 [.agg [.d (.int .i64 a0.Id), .d (.bool a0.Up), .d (.int .i64 a0.Mind.Vector.Root), .d (.int .i64 a0.Mind.Vector.Cost), .d (.int .i64 a0.Mind.Vector.Age), .d (.int .i64 a0.Mind.Link)], .rp [.int .i64 a1.Id, .bool a1.Up, .int .i64 a1.Mind.Vector.Root, .int .i64 a1.Mind.Vector.Cost, .int .i64 a1.Mind.Vector.Age, .int .i64 a1.Mind.Link]] (.d (.bool r)) [] := by
  refine pureC_m tOk (fn := Try.f97) (c := codeOf Try.f97) rfl rfl (by kernel_rfl) rfl rfl (by simp) (by simp) (ids_of rfl) ?_
  unfold impl_TreeWorld_bridgesOk_1_m at h
  conv => whnf
  obtain rfl := Option.some.inj h
  exact ⟨_, LE.refl _, And.intro rfl trivial⟩

noncomputable def slices_IndexFunc_TreeBridge_TreeBridge_impl_TreeWorld_bridgesOk_1_m (a0 : (List TreeBridge)) (a1c0 : TreeBridge) : Option (Int) :=
 bd (lp (σ := Int) (β := (Int ⊕ Unit)) (fun s1 =>
(if (decide (s1 < ((a0.length : Nat) : Int))) = true then
 gd ((0 : Int) ≤ s1 ∧ s1 < ((a0.length : Nat) : Int)) <|
 bd (impl_TreeWorld_bridgesOk_1_m ({ (a0.getD s1.toNat default) with Mind := (⟨(((a0.getD s1.toNat default).Mind).Vector), ((a0.getD s1.toNat default).Mind).Link⟩ : TreeMind) }) a1c0) fun x6 =>
(if x6 = true then
 some (.inr (.inl s1))
else
 some (.inl (IntKind.i64.wrap (s1 + 1))))
else
 some (.inr (.inr ())))) 0) fun x4 =>
(match x4 with
| .inl d7 =>
 some d7
| .inr d8 =>
 some (-1))

theorem slices_IndexFunc_TreeBridge_TreeBridge_impl_TreeWorld_bridgesOk_1_c {a0 : (List TreeBridge)} {a1c0 : TreeBridge} {r : Int} (h : slices_IndexFunc_TreeBridge_TreeBridge_impl_TreeWorld_bridgesOk_1_m a0 a1c0 = some r) : PureC Try.prog 115 [.d (slD TreeBridge.enc a0), .fn 97 [.rp [.int .i64 a1c0.Id, .bool a1c0.Up, .int .i64 a1c0.Mind.Vector.Root, .int .i64 a1c0.Mind.Vector.Cost, .int .i64 a1c0.Mind.Vector.Age, .int .i64 a1c0.Mind.Link]]] (.d (.int .i64 r)) [] := by
  refine pureC_m tOk (fn := Try.f115) (c := codeOf Try.f115) rfl rfl (by kernel_rfl) rfl rfl (by simp) (by simp) (ids_of rfl) ?_
  unfold slices_IndexFunc_TreeBridge_TreeBridge_impl_TreeWorld_bridgesOk_1_m at h
  conv => whnf
  refine seq_in tOk ?_
  conv => whnf
  obtain ⟨x4, hx4, h⟩ := bd_some h
  refine loop_m tOk hx4 (fun s1 => ⟨0, 19, [(0, .d (slD TreeBridge.enc a0)), (1, .fn 97 [.rp [.int .i64 a1c0.Id, .bool a1c0.Up, .int .i64 a1c0.Mind.Vector.Root, .int .i64 a1c0.Mind.Vector.Cost, .int .i64 a1c0.Mind.Vector.Age, .int .i64 a1c0.Mind.Link]]), (7, .d (.int .i64 ((a0.length : Nat) : Int))), (8, .d (.int .i64 s1))], [], [], []⟩) ?_ ?_
  · refine le_mk ?_ ?_ ?_ <;> (repeat' first | exact trivial | exact rfl | refine And.intro ?_ ?_ | exact BLe.refl _ | exact VLe.refl _ | exact VLe.any _ | exact VLe.nil_osl rfl | exact VLe.nil_sl rfl | exact VLe.built rfl rfl | (refine VLe.osl rfl ?_; (first | rfl | (simp; done) | assumption | (simp [dsub_eq] <;> omega) | omega)) | exact VLe.rows (by first | rfl | (simp; done) | assumption | (simp [dsub_eq] <;> omega) | omega) (fun _ _ => rfl) | exact VLe.rows (by simp [dsub_eq] <;> omega) rows_take | exact VLe.rows (by simp [dsub_eq] <;> omega) rows_dt | exact VLe.rows (by simp [dsub_eq] <;> omega) rows_vt | exact VLe.rows (by simp) (fun i _ => by simp [viewRow_eq, Nat.add_comm]) | refine VLe.aggL ?_ | (refine BLe.rows rfl ?_ fun _ _ => rfl; (first | rfl | (simp; done) | assumption | (simp [dsub_eq] <;> omega) | omega)) | (refine BLe.rows rfl rfl ?_; first | exact rows_take) | refine BLe.box ?_)
  · clear hx4
    intro s1 y2 g3 hy2
    conv => whnf
    refine seq_in tOk ?_
    conv => whnf
    refine And.intro (fun e => ?_) (fun e => ?_)
    · replace g3 := ite_t g3 e; clear e
      conv => whnf
      refine seq_in tOk ?_
      conv => whnf
      obtain ⟨g5, g3⟩ := gd_some g3
      refine And.intro g5 ?_
      clear g5
      conv => whnf
      obtain ⟨x6, hx6, g3⟩ := bd_some g3
      refine callC 0 (impl_TreeWorld_bridgesOk_1_c hx6) (by kernel_rfl) (by kernel_rfl) ?_
      clear hx6
      conv => whnf
      refine And.intro (fun e => ?_) (fun e => ?_)
      · replace g3 := ite_t g3 e; clear e
        conv => whnf
        obtain rfl := Option.some.inj g3
        obtain rfl := hy2 _ rfl
        obtain rfl := Option.some.inj h
        exact ⟨_, LE.refl _, And.intro rfl trivial⟩
      · replace g3 := ite_f g3 e; clear e
        conv => whnf
        obtain rfl := Option.some.inj g3
        refine ⟨_, rfl, le_mk ?_ ?_ ?_⟩ <;> (repeat' first | exact trivial | exact rfl | refine And.intro ?_ ?_ | exact BLe.refl _ | exact VLe.refl _ | exact VLe.any _ | exact VLe.nil_osl rfl | exact VLe.nil_sl rfl | exact VLe.built rfl rfl | (refine VLe.osl rfl ?_; (first | rfl | (simp; done) | assumption | (simp [dsub_eq] <;> omega) | omega)) | exact VLe.rows (by first | rfl | (simp; done) | assumption | (simp [dsub_eq] <;> omega) | omega) (fun _ _ => rfl) | exact VLe.rows (by simp [dsub_eq] <;> omega) rows_take | exact VLe.rows (by simp [dsub_eq] <;> omega) rows_dt | exact VLe.rows (by simp [dsub_eq] <;> omega) rows_vt | exact VLe.rows (by simp) (fun i _ => by simp [viewRow_eq, Nat.add_comm]) | refine VLe.aggL ?_ | (refine BLe.rows rfl ?_ fun _ _ => rfl; (first | rfl | (simp; done) | assumption | (simp [dsub_eq] <;> omega) | omega)) | (refine BLe.rows rfl rfl ?_; first | exact rows_take) | refine BLe.box ?_)
    · replace g3 := ite_f g3 e; clear e
      conv => whnf
      obtain rfl := Option.some.inj g3
      obtain rfl := hy2 _ rfl
      obtain rfl := Option.some.inj h
      exact ⟨_, LE.refl _, And.intro rfl trivial⟩

noncomputable def slices_ContainsFunc_TreeBridge_TreeBridge_impl_TreeWorld_bridgesOk_1_m (a0 : (List TreeBridge)) (a1c0 : TreeBridge) : Option (Bool) :=
 bd (slices_IndexFunc_TreeBridge_TreeBridge_impl_TreeWorld_bridgesOk_1_m a0 a1c0) fun x1 =>
 some (decide (x1 ≥ 0))

theorem slices_ContainsFunc_TreeBridge_TreeBridge_impl_TreeWorld_bridgesOk_1_c {a0 : (List TreeBridge)} {a1c0 : TreeBridge} {r : Bool} (h : slices_ContainsFunc_TreeBridge_TreeBridge_impl_TreeWorld_bridgesOk_1_m a0 a1c0 = some r) : PureC Try.prog 96 [.d (slD TreeBridge.enc a0), .fn 97 [.rp [.int .i64 a1c0.Id, .bool a1c0.Up, .int .i64 a1c0.Mind.Vector.Root, .int .i64 a1c0.Mind.Vector.Cost, .int .i64 a1c0.Mind.Vector.Age, .int .i64 a1c0.Mind.Link]]] (.d (.bool r)) [] := by
  refine pureC_m tOk (fn := Try.f96) (c := codeOf Try.f96) rfl rfl (by kernel_rfl) rfl rfl (by simp) (by simp) (ids_of rfl) ?_
  unfold slices_ContainsFunc_TreeBridge_TreeBridge_impl_TreeWorld_bridgesOk_1_m at h
  conv => whnf
  obtain ⟨x1, hx1, h⟩ := bd_some h
  refine callC 0 (slices_IndexFunc_TreeBridge_TreeBridge_impl_TreeWorld_bridgesOk_1_c hx1) (by kernel_rfl) (by kernel_rfl) ?_
  clear hx1
  conv => whnf
  obtain rfl := Option.some.inj h
  exact ⟨_, LE.refl _, And.intro rfl trivial⟩

noncomputable def impl_TreeVector_nothing_m (a0 : TreeVector) : Option (Bool) :=
 some ((a0.Root == 0) && ((a0.Cost == 0) && ((a0.Age == 0) && true)))

theorem impl_TreeVector_nothing_c {a0 : TreeVector} {r : Bool} (h : impl_TreeVector_nothing_m a0 = some r) : PureC Try.prog 65 [.agg [.d (.int .i64 a0.Root), .d (.int .i64 a0.Cost), .d (.int .i64 a0.Age)]] (.d (.bool r)) [] := by
  refine pureC_m tOk (fn := Try.f65) (c := codeOf Try.f65) rfl rfl (by kernel_rfl) rfl rfl (by simp) (by simp) (ids_of rfl) ?_
  unfold impl_TreeVector_nothing_m at h
  conv => whnf
  obtain rfl := Option.some.inj h
  exact ⟨_, LE.refl _, And.intro rfl trivial⟩

noncomputable def impl_TreeVectorOk_m (a0 : TreeVector) : Option (Bool) :=
 bd (impl_TreeVector_nothing_m a0) fun x1 =>
 bd (gcall (x1 = false) (impl_within_m a0.Root 1 1000)) fun x2 =>
 bd (gcall (x2 = true ∧ x1 = false) (impl_within_m a0.Cost 0 1000)) fun x3 =>
 bd (gcall ((x2 && x3) = true ∧ x1 = false) (impl_within_m a0.Age 0 10)) fun x4 =>
 some (x1 || ((x2 && x3) && x4))

theorem impl_TreeVectorOk_c {a0 : TreeVector} {r : Bool} (h : impl_TreeVectorOk_m a0 = some r) : PureC Try.prog 64 [.agg [.d (.int .i64 a0.Root), .d (.int .i64 a0.Cost), .d (.int .i64 a0.Age)]] (.d (.bool r)) [] := by
  refine pureC_m tOk (fn := Try.f64) (c := codeOf Try.f64) rfl rfl (by kernel_rfl) rfl rfl (by simp) (by simp) (ids_of rfl) ?_
  unfold impl_TreeVectorOk_m at h
  conv => whnf
  obtain ⟨x1, hx1, h⟩ := bd_some h
  refine callC 0 (impl_TreeVector_nothing_c hx1) (by kernel_rfl) (by kernel_rfl) ?_
  clear hx1
  conv => whnf
  obtain ⟨x2, hx2, h⟩ := bd_some h
  refine callG_m rfl rfl rfl rfl rfl rfl (by intro c0; exact impl_within_c (gcall_some hx2 c0)) ?_
  conv => whnf
  obtain ⟨x3, hx3, h⟩ := bd_some h
  refine callG_m rfl rfl rfl rfl rfl rfl (by intro c0 c1; exact impl_within_c (gcall_some hx3 ⟨c0, c1⟩)) ?_
  conv => whnf
  obtain ⟨x4, hx4, h⟩ := bd_some h
  refine callG_m rfl rfl rfl rfl rfl rfl (by intro c0 c1; exact impl_within_c (gcall_some hx4 ⟨c0, c1⟩)) ?_
  conv => whnf
  obtain rfl := Option.some.inj h
  exact ⟨_, LE.refl _, And.intro rfl trivial⟩

noncomputable def impl_TreeWorld_bridgesOk_m (a0 : TreeWorld) : Option (Bool) :=
 bd (lp (σ := Int) (β := (Unit ⊕ Unit)) (fun s1 =>
(if (decide (s1 < ((a0.Bridges.length : Nat) : Int))) = true then
 gd ((0 : Int) ≤ s1 ∧ s1 < ((a0.Bridges.length : Nat) : Int)) <|
 bd (impl_within_m ((a0.Bridges.getD s1.toNat default).Id) 1 1000) fun x6 =>
 gd ((!x6) = false → ((0 : Int) ≤ (0 : Int) ∧ (0 : Int) ≤ s1 ∧ s1 ≤ ((a0.Bridges.length : Nat) : Int))) <|
 bd (gcall ((!x6) = false) (slices_ContainsFunc_TreeBridge_TreeBridge_impl_TreeWorld_bridgesOk_1_m (a0.Bridges.take s1.toNat) ({ (a0.Bridges.getD s1.toNat default) with Mind := (⟨(((a0.Bridges.getD s1.toNat default).Mind).Vector), ((a0.Bridges.getD s1.toNat default).Mind).Link⟩ : TreeMind) }))) fun x8 =>
(if ((!x6) || x8) = true then
 some (.inr (.inl ()))
else
 bd (gcall ((a0.Bridges.getD s1.toNat default).Up = true) (impl_TreeVectorOk_m (((a0.Bridges.getD s1.toNat default).Mind).Vector))) fun x9 =>
 bd (gcall ((!x9) = false ∧ (a0.Bridges.getD s1.toNat default).Up = true) (impl_TreeVector_nothing_m (((a0.Bridges.getD s1.toNat default).Mind).Vector))) fun x10 =>
 bd (gcall (((!x9) || x10) = false ∧ (a0.Bridges.getD s1.toNat default).Up = true) (impl_within_m (((a0.Bridges.getD s1.toNat default).Mind).Link) (-1) (IntKind.i64.wrap (((a0.Links.length : Nat) : Int) - 1)))) fun x11 =>
(if (((a0.Bridges.getD s1.toNat default).Up && (((!x9) || x10) || (!x11))) || ((!((a0.Bridges.getD s1.toNat default).Up)) && (!(((((((a0.Bridges.getD s1.toNat default).Mind).Vector).Root) == 0) && ((((((a0.Bridges.getD s1.toNat default).Mind).Vector).Cost) == 0) && ((((((a0.Bridges.getD s1.toNat default).Mind).Vector).Age) == 0) && true))) && (((((a0.Bridges.getD s1.toNat default).Mind).Link) == 0) && true))))) = true then
 some (.inr (.inl ()))
else
 some (.inl (IntKind.i64.wrap (s1 + 1)))))
else
 some (.inr (.inr ())))) 0) fun x4 =>
(match x4 with
| .inl d12 =>
 some false
| .inr d13 =>
 some true)

theorem impl_TreeWorld_bridgesOk_c {a0 : TreeWorld} {r : Bool} (h : impl_TreeWorld_bridgesOk_m a0 = some r) : PureC Try.prog 59 [.rp [slD TreeBridge.enc a0.Bridges, slD TreeLink.enc a0.Links, slD encInt a0.Down, slD TreeSlot.enc a0.AtA, slD TreeSlot.enc a0.AtB, slD TreeWord.enc a0.Radio]] (.d (.bool r)) [] := by
  refine pureC_m tOk (fn := Try.f59) (c := codeOf Try.f59) rfl rfl (by kernel_rfl) rfl rfl (by simp) (by simp) (ids_of rfl) ?_
  unfold impl_TreeWorld_bridgesOk_m at h
  conv => whnf
  refine seq_in tOk ?_
  conv => whnf
  obtain ⟨x4, hx4, h⟩ := bd_some h
  refine loop_m tOk hx4 (fun s1 => ⟨0, 69, [(0, .rp [slD TreeBridge.enc a0.Bridges, slD TreeLink.enc a0.Links, slD encInt a0.Down, slD TreeSlot.enc a0.AtA, slD TreeSlot.enc a0.AtB, slD TreeWord.enc a0.Radio]), (9, .d (slD TreeBridge.enc a0.Bridges)), (10, .d (.int .i64 ((a0.Bridges.length : Nat) : Int))), (11, .d (.int .i64 s1))], [], [], []⟩) ?_ ?_
  · refine le_mk ?_ ?_ ?_ <;> (repeat' first | exact trivial | exact rfl | refine And.intro ?_ ?_ | exact BLe.refl _ | exact VLe.refl _ | exact VLe.any _ | exact VLe.nil_osl rfl | exact VLe.nil_sl rfl | exact VLe.built rfl rfl | (refine VLe.osl rfl ?_; (first | rfl | (simp; done) | assumption | (simp [dsub_eq] <;> omega) | omega)) | exact VLe.rows (by first | rfl | (simp; done) | assumption | (simp [dsub_eq] <;> omega) | omega) (fun _ _ => rfl) | exact VLe.rows (by simp [dsub_eq] <;> omega) rows_take | exact VLe.rows (by simp [dsub_eq] <;> omega) rows_dt | exact VLe.rows (by simp [dsub_eq] <;> omega) rows_vt | exact VLe.rows (by simp) (fun i _ => by simp [viewRow_eq, Nat.add_comm]) | refine VLe.aggL ?_ | (refine BLe.rows rfl ?_ fun _ _ => rfl; (first | rfl | (simp; done) | assumption | (simp [dsub_eq] <;> omega) | omega)) | (refine BLe.rows rfl rfl ?_; first | exact rows_take) | refine BLe.box ?_)
  · clear hx4
    intro s1 y2 g3 hy2
    conv => whnf
    refine seq_in tOk ?_
    conv => whnf
    refine And.intro (fun e => ?_) (fun e => ?_)
    · replace g3 := ite_t g3 e; clear e
      conv => whnf
      refine seq_in tOk ?_
      conv => whnf
      obtain ⟨g5, g3⟩ := gd_some g3
      refine And.intro g5 ?_
      clear g5
      conv => whnf
      refine seq_in tOk ?_
      conv => whnf
      obtain ⟨x6, hx6, g3⟩ := bd_some g3
      refine callC 0 (impl_within_c hx6) (by kernel_rfl) (by kernel_rfl) ?_
      clear hx6
      conv => whnf
      obtain ⟨g7, g3⟩ := gd_some g3
      refine And.intro (by intro c0; exact ⟨g7 c0, .inr rfl⟩) ?_
      conv => whnf
      obtain ⟨x8, hx8, g3⟩ := bd_some g3
      refine callG_m rfl rfl rfl rfl rfl rfl (by intro c0; have q0 := g7 c0; exact (slices_ContainsFunc_TreeBridge_TreeBridge_impl_TreeWorld_bridgesOk_1_c (gcall_some hx8 c0)).le (by (repeat' first | exact trivial | refine And.intro ?_ ?_ | exact VLe.refl _ | exact VLe.any _ | exact VLe.nil_osl rfl | exact VLe.nil_sl rfl | exact VLe.built rfl rfl | (refine VLe.osl rfl ?_; (first | rfl | (simp; done) | assumption | (simp [dsub_eq] <;> omega) | omega)) | exact VLe.rows (by first | rfl | (simp; done) | assumption | (simp [dsub_eq] <;> omega) | omega) (fun _ _ => rfl) | exact VLe.rows (by simp [dsub_eq] <;> omega) rows_take | exact VLe.rows (by simp [dsub_eq] <;> omega) rows_dt | exact VLe.rows (by simp [dsub_eq] <;> omega) rows_vt | exact VLe.rows (by simp) (fun i _ => by simp [viewRow_eq, Nat.add_comm]) | refine VLe.aggL ?_))) ?_
      conv => whnf
      refine And.intro (fun e => ?_) (fun e => ?_)
      · replace g3 := ite_t g3 e; clear e
        conv => whnf
        obtain rfl := Option.some.inj g3
        obtain rfl := hy2 _ rfl
        obtain rfl := Option.some.inj h
        exact ⟨_, LE.refl _, And.intro rfl trivial⟩
      · replace g3 := ite_f g3 e; clear e
        conv => whnf
        obtain ⟨x9, hx9, g3⟩ := bd_some g3
        obtain ⟨x10, hx10, g3⟩ := bd_some g3
        obtain ⟨x11, hx11, g3⟩ := bd_some g3
        refine draw_k tOk (by kernel_rfl) (fun j => match j with | 4 => some (.pure 0 (.d (.bool x9)) []) | 8 => some (.pure 0 (.d (.bool x10)) []) | 20 => some (.pure 0 (.d (.bool x11)) []) | _ => none) 35 [] [[], [true], [true, true], [true, true, true], [true, true, true, true], [true, true, true, true, true], [true, true, true, true, true, true], [true, true, true, true, true, true, true], [true, true, true, true, true, true, true, true], [true, true, true, true, true, true, true, true, true], [true, true, true, true, true, true, true, true, true, true], [true, true, true, true, true, true, true, true, true, true, true], [true, true, true, true, true, true, true, true, true, true, true, true], [true, true, true, true, true, true, true, true, true, true, true, true, true], [true, true, true, true, true, true, true, true, true, true, true], [true, true, true, true, true, true, true, true, true, true, true, false, false, false, true], [true, true, true, true, true, true, true, true, true, true, true, false, false, false, true, true], [true, true, true, true, true, true, true, true, true, true, true, false, false, false, true, true, true], [true, true, true, true, true, true, true, true, true, true, true, false, false, false, true, true, true, true], [true, true, true, true, true, true, true, true, true, true, true, false, false, false, true, true, true, true, true], [true, true, true, true, true, true, true, true, true, true, true, true, true, true, true, true, true, true, true, true], [true, true, true, true, true, true, true, true, true, true, true, true, true, true, true, true, true, true, true, true, true], [true, true, true, true, true, true, true, true, true, true, true, true, true, true, true, true, true, true, true, true, true, true], [true, true, true, true, true, true, true, true, true, true, true, true, true, true, true, true, true, true, true, true, true, true, true], [true, true, true, true, true, true, true, true, true, true, true, true, true, true, true, true, true, true, true, true, true, true, true, true], [true, true, true, true, true, true, true, true, true, true, true, true, true, true, true, true, true, true, true, true, true, true, true, true, true], [true, true, true, true, true, true, true, true, true, true, true, true, true, true, true, true, true, true, true, true, true, true, true, true, true, true], [true, true, true, true, true, true, true, true, true, true, true, true, true, true, true, true, true, true, true, true, true, true, true, true, true, true, true], [true, true, true, true, true, true, true, true, true, true, true, true, true, true, true, true, true, true, true, true, true, true, true, true, true, true, true, true], [true, true, true, true, true, true, true, true, true, true, true, true, true, true, true, true, true, true, true, true, true, true, true, true, true, true, true, true, true], [true, true, true, true, true, true, true, true, true, true, true, true, true, true, true, true, true, true, true, true, true, true, true, true, true, true, true, true, true, true], [true, true, true, true, true, true, true, true, true, true, true, true, true, true, true, true, true, true, true, true, true, true, true, true, true, true, true, true, true], [true, true, true, true, true, true, true, true, true, true, true, true, true, true, true, true, true, true, true, true, true, true, true, true, true, true, true, true, true, true, true, true], [true, true, true, true, true, true, true, true, true, true, true, true, true, true, true, true, true, true, true, true, true, true, true, true, true, true, true, true, true, true, true, true, true], [true, true, true, true, true, true, true, true, true, true, true, true, true, true, true, true, true, true, true, true, true, true, true, true, true, true, true, true, true, true, true, true, true, true]] [] (by decide) (by kernel_rfl) (by kernel_rfl) ?_
        conv => whnf
        refine And.intro (callDG_if rfl rfl rfl rfl (by intro c0; exact impl_TreeVectorOk_c (gcall_some hx9 c0))) ?_
        conv => whnf
        refine And.intro (callDG_if rfl rfl rfl rfl (by intro c0 c1; exact impl_TreeVector_nothing_c (gcall_some hx10 ⟨c0, c1⟩))) ?_
        conv => whnf
        refine And.intro (callDG_if rfl rfl rfl rfl (by intro c0 c1; exact impl_within_c (gcall_some hx11 ⟨c0, c1⟩))) ?_
        conv => whnf
        refine And.intro (by kernel_rfl) ?_
        conv => whnf
        refine And.intro (fun e => ?_) (fun e => ?_)
        · replace g3 := ite_t g3 e; clear e
          conv => whnf
          obtain rfl := Option.some.inj g3
          obtain rfl := hy2 _ rfl
          obtain rfl := Option.some.inj h
          exact ⟨_, LE.refl _, And.intro rfl trivial⟩
        · replace g3 := ite_f g3 e; clear e
          conv => whnf
          obtain rfl := Option.some.inj g3
          refine ⟨_, rfl, le_mk ?_ ?_ ?_⟩ <;> (repeat' first | exact trivial | exact rfl | refine And.intro ?_ ?_ | exact BLe.refl _ | exact VLe.refl _ | exact VLe.any _ | exact VLe.nil_osl rfl | exact VLe.nil_sl rfl | exact VLe.built rfl rfl | (refine VLe.osl rfl ?_; (first | rfl | (simp; done) | assumption | (simp [dsub_eq] <;> omega) | omega)) | exact VLe.rows (by first | rfl | (simp; done) | assumption | (simp [dsub_eq] <;> omega) | omega) (fun _ _ => rfl) | exact VLe.rows (by simp [dsub_eq] <;> omega) rows_take | exact VLe.rows (by simp [dsub_eq] <;> omega) rows_dt | exact VLe.rows (by simp [dsub_eq] <;> omega) rows_vt | exact VLe.rows (by simp) (fun i _ => by simp [viewRow_eq, Nat.add_comm]) | refine VLe.aggL ?_ | (refine BLe.rows rfl ?_ fun _ _ => rfl; (first | rfl | (simp; done) | assumption | (simp [dsub_eq] <;> omega) | omega)) | (refine BLe.rows rfl rfl ?_; first | exact rows_take) | refine BLe.box ?_)
    · replace g3 := ite_f g3 e; clear e
      conv => whnf
      obtain rfl := Option.some.inj g3
      obtain rfl := hy2 _ rfl
      obtain rfl := Option.some.inj h
      exact ⟨_, LE.refl _, And.intro rfl trivial⟩

noncomputable def impl_TreeWorld_isLink_m (a0 : TreeWorld) (a1 : Int) : Option (Bool) :=
 bd (impl_within_m a1 0 (IntKind.i64.wrap (((a0.Links.length : Nat) : Int) - 1))) fun x1 =>
 some x1

theorem impl_TreeWorld_isLink_c {a0 : TreeWorld} {a1 : Int} {r : Bool} (h : impl_TreeWorld_isLink_m a0 a1 = some r) : PureC Try.prog 60 [.rp [slD TreeBridge.enc a0.Bridges, slD TreeLink.enc a0.Links, slD encInt a0.Down, slD TreeSlot.enc a0.AtA, slD TreeSlot.enc a0.AtB, slD TreeWord.enc a0.Radio], .d (.int .i64 a1)] (.d (.bool r)) [] := by
  refine pureC_m tOk (fn := Try.f60) (c := codeOf Try.f60) rfl rfl (by kernel_rfl) rfl rfl (by simp) (by simp) (ids_of rfl) ?_
  unfold impl_TreeWorld_isLink_m at h
  conv => whnf
  obtain ⟨x1, hx1, h⟩ := bd_some h
  refine callC 0 (impl_within_c hx1) (by kernel_rfl) (by kernel_rfl) ?_
  clear hx1
  conv => whnf
  obtain rfl := Option.some.inj h
  exact ⟨_, LE.refl _, And.intro rfl trivial⟩

end Go.Proofs.Ytbolhcpkpncmfaa
