/-
  What some of the program's functions compute: their models, and that the functions compute these; no condition.
-/
import Derived.Test.YtbolhcpkpncmfaaTyz
import Derived.Test.YtbolhcpkpncmfaaTbz
import Derived.Test.YtbolhcpkpncmfaaKz3
set_option linter.all false
namespace Go.Proofs.Ytbolhcpkpncmfaa
open Go Go.Ab
set_option maxRecDepth 100000
set_option maxHeartbeats 4000000
noncomputable def laws_wtInts_m (a0 : (List Int)) (a1 : (List Int)) : Option (Bool) :=
(if (((a0.length : Nat) : Int) != ((a1.length : Nat) : Int)) = true then
 some false
else
 bd (lp (σ := Int) (β := (Unit ⊕ Unit)) (fun s1 =>
(if (decide (s1 < ((a0.length : Nat) : Int))) = true then
 gd ((0 : Int) ≤ s1 ∧ s1 < ((a0.length : Nat) : Int)) <|
 gd ((0 : Int) ≤ s1 ∧ s1 < ((a1.length : Nat) : Int)) <|
(if ((a0.getD s1.toNat default) != (a1.getD s1.toNat default)) = true then
 some (.inr (.inl ()))
else
 some (.inl (IntKind.i64.wrap (s1 + 1))))
else
 some (.inr (.inr ())))) 0) fun x4 =>
(match x4 with
| .inl d7 =>
 some false
| .inr d8 =>
 some true))

theorem laws_wtInts_c {a0 : (List Int)} {a1 : (List Int)} {r : Bool} (h : laws_wtInts_m a0 a1 = some r) : PureC Try.prog 45 [.d (slD encInt a0), .d (slD encInt a1)] (.d (.bool r)) [] := by
  refine pureC_m tOk (fn := Try.f45) (c := codeOf Try.f45) rfl rfl (by kernel_rfl) rfl rfl (by simp) (by simp) (ids_of rfl) ?_
  unfold laws_wtInts_m at h
  conv => whnf
  refine seq_in tOk ?_
  conv => whnf
  refine And.intro (fun e => ?_) (fun e => ?_)
  · replace h := ite_t h e; clear e
    conv => whnf
    obtain rfl := Option.some.inj h
    exact ⟨_, LE.refl _, And.intro rfl trivial⟩
  · replace h := ite_f h e; clear e
    conv => whnf
    refine seq_in tOk ?_
    conv => whnf
    obtain ⟨x4, hx4, h⟩ := bd_some h
    refine loop_m tOk hx4 (fun s1 => ⟨0, 26, [(0, .d (slD encInt a0)), (1, .d (slD encInt a1)), (5, .d (.int .i64 s1))], [], [], []⟩) ?_ ?_
    · refine le_mk ?_ ?_ ?_ <;> (repeat' first | ((conv => whnf); first | exact trivial | refine And.intro ?_ ?_ | exact BLe.refl _ | exact VLe.refl _) | exact trivial | exact rfl | refine And.intro ?_ ?_ | exact BLe.refl _ | exact VLe.refl _ | exact VLe.any _ | exact VLe.nil_osl rfl | exact VLe.nil_sl rfl | exact VLe.built rfl rfl | (refine VLe.osl rfl ?_; (first | rfl | (simp; done) | assumption | (simp [dsub_eq] <;> omega) | omega)) | exact VLe.rows (by first | rfl | (simp; done) | assumption | (simp [dsub_eq] <;> omega) | omega) (fun _ _ => rfl) | exact VLe.rows (by simp [dsub_eq] <;> omega) rows_take | exact VLe.rows (by simp [dsub_eq] <;> omega) rows_dt | exact VLe.rows (by simp [dsub_eq] <;> omega) rows_vt | exact VLe.rows (by simp) (fun i _ => by simp [viewRow_eq, Nat.add_comm]) | refine VLe.aggL ?_ | (refine BLe.rows rfl ?_ fun _ _ => rfl; (first | rfl | (simp; done) | assumption | (simp [dsub_eq] <;> omega) | omega)) | (refine BLe.rows rfl rfl ?_; first | exact rows_take) | refine BLe.box ?_)
    · clear hx4
      intro s1 y2 g3 hy2
      conv => whnf
      refine seq_in tOk ?_
      conv => whnf
      refine And.intro (fun e => ?_) (fun e => ?_)
      · replace g3 := ite_t g3 e; clear e
        conv => whnf
        refine seq_in tOk ?_
        conv => whnf
        obtain ⟨g5, g3⟩ := gd_some g3
        obtain ⟨g6, g3⟩ := gd_some g3
        refine draw_k tOk (by kernel_rfl) (fun _ => none) 9 [] [[], [], [true, true], [true, true, true], [], [], [false, false, false, false, true, true], [false, false, false, false, true, true, true], [true, true, true, true, true, true, true, true]] [] (by decide) (by kernel_rfl) (by kernel_rfl) ?_
        conv => whnf
        refine And.intro g5 ?_
        clear g5
        conv => whnf
        refine And.intro g6 ?_
        clear g6
        conv => whnf
        refine And.intro (by kernel_rfl) ?_
        conv => whnf
        refine And.intro (fun e => ?_) (fun e => ?_)
        · replace g3 := ite_t g3 e; clear e
          conv => whnf
          obtain rfl := Option.some.inj g3
          obtain rfl := hy2 _ rfl
          obtain rfl := Option.some.inj h
          exact ⟨_, LE.refl _, And.intro rfl trivial⟩
        · replace g3 := ite_f g3 e; clear e
          conv => whnf
          obtain rfl := Option.some.inj g3
          refine ⟨_, rfl, le_mk ?_ ?_ ?_⟩ <;> (repeat' first | ((conv => whnf); first | exact trivial | refine And.intro ?_ ?_ | exact BLe.refl _ | exact VLe.refl _) | exact trivial | exact rfl | refine And.intro ?_ ?_ | exact BLe.refl _ | exact VLe.refl _ | exact VLe.any _ | exact VLe.nil_osl rfl | exact VLe.nil_sl rfl | exact VLe.built rfl rfl | (refine VLe.osl rfl ?_; (first | rfl | (simp; done) | assumption | (simp [dsub_eq] <;> omega) | omega)) | exact VLe.rows (by first | rfl | (simp; done) | assumption | (simp [dsub_eq] <;> omega) | omega) (fun _ _ => rfl) | exact VLe.rows (by simp [dsub_eq] <;> omega) rows_take | exact VLe.rows (by simp [dsub_eq] <;> omega) rows_dt | exact VLe.rows (by simp [dsub_eq] <;> omega) rows_vt | exact VLe.rows (by simp) (fun i _ => by simp [viewRow_eq, Nat.add_comm]) | refine VLe.aggL ?_ | (refine BLe.rows rfl ?_ fun _ _ => rfl; (first | rfl | (simp; done) | assumption | (simp [dsub_eq] <;> omega) | omega)) | (refine BLe.rows rfl rfl ?_; first | exact rows_take) | refine BLe.box ?_)
      · replace g3 := ite_f g3 e; clear e
        conv => whnf
        obtain rfl := Option.some.inj g3
        obtain rfl := hy2 _ rfl
        obtain rfl := Option.some.inj h
        exact ⟨_, LE.refl _, And.intro rfl trivial⟩

noncomputable def laws_wtSlots_m (a0 : (List TreeSlot)) (a1 : (List TreeSlot)) : Option (Bool) :=
(if (((a0.length : Nat) : Int) != ((a1.length : Nat) : Int)) = true then
 some false
else
 bd (lp (σ := Int) (β := (Unit ⊕ Unit)) (fun s1 =>
(if (decide (s1 < ((a0.length : Nat) : Int))) = true then
 gd ((0 : Int) ≤ s1 ∧ s1 < ((a0.length : Nat) : Int)) <|
 gd ((0 : Int) ≤ s1 ∧ s1 < ((a1.length : Nat) : Int)) <|
(if (!((((((a0.getD s1.toNat default).Vector).Root) == (((a1.getD s1.toNat default).Vector).Root)) && (((((a0.getD s1.toNat default).Vector).Cost) == (((a1.getD s1.toNat default).Vector).Cost)) && (((((a0.getD s1.toNat default).Vector).Age) == (((a1.getD s1.toNat default).Vector).Age)) && true))) && ((((a0.getD s1.toNat default).Left) == ((a1.getD s1.toNat default).Left)) && true))) = true then
 some (.inr (.inl ()))
else
 some (.inl (IntKind.i64.wrap (s1 + 1))))
else
 some (.inr (.inr ())))) 0) fun x4 =>
(match x4 with
| .inl d7 =>
 some false
| .inr d8 =>
 some true))

theorem laws_wtSlots_c {a0 : (List TreeSlot)} {a1 : (List TreeSlot)} {r : Bool} (h : laws_wtSlots_m a0 a1 = some r) : PureC Try.prog 46 [.d (slD TreeSlot.enc a0), .d (slD TreeSlot.enc a1)] (.d (.bool r)) [] := by
  refine pureC_m tOk (fn := Try.f46) (c := codeOf Try.f46) rfl rfl (by kernel_rfl) rfl rfl (by simp) (by simp) (ids_of rfl) ?_
  unfold laws_wtSlots_m at h
  conv => whnf
  refine seq_in tOk ?_
  conv => whnf
  refine And.intro (fun e => ?_) (fun e => ?_)
  · replace h := ite_t h e; clear e
    conv => whnf
    obtain rfl := Option.some.inj h
    exact ⟨_, LE.refl _, And.intro rfl trivial⟩
  · replace h := ite_f h e; clear e
    conv => whnf
    refine seq_in tOk ?_
    conv => whnf
    obtain ⟨x4, hx4, h⟩ := bd_some h
    refine loop_m tOk hx4 (fun s1 => ⟨0, 26, [(0, .d (slD TreeSlot.enc a0)), (1, .d (slD TreeSlot.enc a1)), (5, .d (.int .i64 s1))], [], [], []⟩) ?_ ?_
    · refine le_mk ?_ ?_ ?_ <;> (repeat' first | ((conv => whnf); first | exact trivial | refine And.intro ?_ ?_ | exact BLe.refl _ | exact VLe.refl _) | exact trivial | exact rfl | refine And.intro ?_ ?_ | exact BLe.refl _ | exact VLe.refl _ | exact VLe.any _ | exact VLe.nil_osl rfl | exact VLe.nil_sl rfl | exact VLe.built rfl rfl | (refine VLe.osl rfl ?_; (first | rfl | (simp; done) | assumption | (simp [dsub_eq] <;> omega) | omega)) | exact VLe.rows (by first | rfl | (simp; done) | assumption | (simp [dsub_eq] <;> omega) | omega) (fun _ _ => rfl) | exact VLe.rows (by simp [dsub_eq] <;> omega) rows_take | exact VLe.rows (by simp [dsub_eq] <;> omega) rows_dt | exact VLe.rows (by simp [dsub_eq] <;> omega) rows_vt | exact VLe.rows (by simp) (fun i _ => by simp [viewRow_eq, Nat.add_comm]) | refine VLe.aggL ?_ | (refine BLe.rows rfl ?_ fun _ _ => rfl; (first | rfl | (simp; done) | assumption | (simp [dsub_eq] <;> omega) | omega)) | (refine BLe.rows rfl rfl ?_; first | exact rows_take) | refine BLe.box ?_)
    · clear hx4
      intro s1 y2 g3 hy2
      conv => whnf
      refine seq_in tOk ?_
      conv => whnf
      refine And.intro (fun e => ?_) (fun e => ?_)
      · replace g3 := ite_t g3 e; clear e
        conv => whnf
        refine seq_in tOk ?_
        conv => whnf
        obtain ⟨g5, g3⟩ := gd_some g3
        obtain ⟨g6, g3⟩ := gd_some g3
        refine draw_k tOk (by kernel_rfl) (fun _ => none) 9 [] [[], [], [true, true], [true, true, true], [], [], [false, false, false, false, true, true], [false, false, false, false, true, true, true], [true, true, true, true, true, true, true, true]] [] (by decide) (by kernel_rfl) (by kernel_rfl) ?_
        conv => whnf
        refine And.intro g5 ?_
        clear g5
        conv => whnf
        refine And.intro g6 ?_
        clear g6
        conv => whnf
        refine And.intro (by kernel_rfl) ?_
        conv => whnf
        refine And.intro (fun e => ?_) (fun e => ?_)
        · replace g3 := ite_t g3 e; clear e
          conv => whnf
          obtain rfl := Option.some.inj g3
          obtain rfl := hy2 _ rfl
          obtain rfl := Option.some.inj h
          exact ⟨_, LE.refl _, And.intro rfl trivial⟩
        · replace g3 := ite_f g3 e; clear e
          conv => whnf
          obtain rfl := Option.some.inj g3
          refine ⟨_, rfl, le_mk ?_ ?_ ?_⟩ <;> (repeat' first | ((conv => whnf); first | exact trivial | refine And.intro ?_ ?_ | exact BLe.refl _ | exact VLe.refl _) | exact trivial | exact rfl | refine And.intro ?_ ?_ | exact BLe.refl _ | exact VLe.refl _ | exact VLe.any _ | exact VLe.nil_osl rfl | exact VLe.nil_sl rfl | exact VLe.built rfl rfl | (refine VLe.osl rfl ?_; (first | rfl | (simp; done) | assumption | (simp [dsub_eq] <;> omega) | omega)) | exact VLe.rows (by first | rfl | (simp; done) | assumption | (simp [dsub_eq] <;> omega) | omega) (fun _ _ => rfl) | exact VLe.rows (by simp [dsub_eq] <;> omega) rows_take | exact VLe.rows (by simp [dsub_eq] <;> omega) rows_dt | exact VLe.rows (by simp [dsub_eq] <;> omega) rows_vt | exact VLe.rows (by simp) (fun i _ => by simp [viewRow_eq, Nat.add_comm]) | refine VLe.aggL ?_ | (refine BLe.rows rfl ?_ fun _ _ => rfl; (first | rfl | (simp; done) | assumption | (simp [dsub_eq] <;> omega) | omega)) | (refine BLe.rows rfl rfl ?_; first | exact rows_take) | refine BLe.box ?_)
      · replace g3 := ite_f g3 e; clear e
        conv => whnf
        obtain rfl := Option.some.inj g3
        obtain rfl := hy2 _ rfl
        obtain rfl := Option.some.inj h
        exact ⟨_, LE.refl _, And.intro rfl trivial⟩

noncomputable def laws_wtWorld_m (a0 : TreeWorld) (a1 : TreeWorld) : Option (Bool) :=
 bd (gcall (((((a0.Bridges.length : Nat) : Int) != ((a1.Bridges.length : Nat) : Int)) || (((a0.Links.length : Nat) : Int) != ((a1.Links.length : Nat) : Int))) = false) (laws_wtInts_m a0.Down a1.Down)) fun x1 =>
 bd (gcall ((((((a0.Bridges.length : Nat) : Int) != ((a1.Bridges.length : Nat) : Int)) || (((a0.Links.length : Nat) : Int) != ((a1.Links.length : Nat) : Int))) || (!x1)) = false) (laws_wtSlots_m a0.AtA a1.AtA)) fun x2 =>
 bd (gcall (((((((a0.Bridges.length : Nat) : Int) != ((a1.Bridges.length : Nat) : Int)) || (((a0.Links.length : Nat) : Int) != ((a1.Links.length : Nat) : Int))) || (!x1)) || (!x2)) = false) (laws_wtSlots_m a0.AtB a1.AtB)) fun x3 =>
(if ((((((((a0.Bridges.length : Nat) : Int) != ((a1.Bridges.length : Nat) : Int)) || (((a0.Links.length : Nat) : Int) != ((a1.Links.length : Nat) : Int))) || (!x1)) || (!x2)) || (!x3)) || (((a0.Radio.length : Nat) : Int) != ((a1.Radio.length : Nat) : Int))) = true then
 some false
else
 bd (lp (σ := Int) (β := (Unit ⊕ Unit)) (fun s4 =>
(if (decide (s4 < ((a0.Bridges.length : Nat) : Int))) = true then
 gd ((0 : Int) ≤ s4 ∧ s4 < ((a0.Bridges.length : Nat) : Int)) <|
 gd ((0 : Int) ≤ s4 ∧ s4 < ((a1.Bridges.length : Nat) : Int)) <|
(if (!((((a0.Bridges.getD s4.toNat default).Id) == ((a1.Bridges.getD s4.toNat default).Id)) && ((((a0.Bridges.getD s4.toNat default).Up) == ((a1.Bridges.getD s4.toNat default).Up)) && ((((((((a0.Bridges.getD s4.toNat default).Mind).Vector).Root) == ((((a1.Bridges.getD s4.toNat default).Mind).Vector).Root)) && ((((((a0.Bridges.getD s4.toNat default).Mind).Vector).Cost) == ((((a1.Bridges.getD s4.toNat default).Mind).Vector).Cost)) && ((((((a0.Bridges.getD s4.toNat default).Mind).Vector).Age) == ((((a1.Bridges.getD s4.toNat default).Mind).Vector).Age)) && true))) && (((((a0.Bridges.getD s4.toNat default).Mind).Link) == (((a1.Bridges.getD s4.toNat default).Mind).Link)) && true)) && true)))) = true then
 some (.inr (.inl ()))
else
 some (.inl (IntKind.i64.wrap (s4 + 1))))
else
 some (.inr (.inr ())))) 0) fun x7 =>
(match x7 with
| .inl d10 =>
 some false
| .inr d11 =>
 bd (lp (σ := Int) (β := (Unit ⊕ Unit)) (fun s12 =>
(if (decide (s12 < ((a0.Links.length : Nat) : Int))) = true then
 gd ((0 : Int) ≤ s12 ∧ s12 < ((a0.Links.length : Nat) : Int)) <|
 gd ((0 : Int) ≤ s12 ∧ s12 < ((a1.Links.length : Nat) : Int)) <|
(if (!((((a0.Links.getD s12.toNat default).A) == ((a1.Links.getD s12.toNat default).A)) && ((((a0.Links.getD s12.toNat default).B) == ((a1.Links.getD s12.toNat default).B)) && ((((a0.Links.getD s12.toNat default).Cost) == ((a1.Links.getD s12.toNat default).Cost)) && true)))) = true then
 some (.inr (.inl ()))
else
 some (.inl (IntKind.i64.wrap (s12 + 1))))
else
 some (.inr (.inr ())))) 0) fun x15 =>
(match x15 with
| .inl d18 =>
 some false
| .inr d19 =>
 bd (lp (σ := Int) (β := (Unit ⊕ Unit)) (fun s20 =>
(if (decide (s20 < ((a0.Radio.length : Nat) : Int))) = true then
 gd ((0 : Int) ≤ s20 ∧ s20 < ((a0.Radio.length : Nat) : Int)) <|
 gd ((0 : Int) ≤ s20 ∧ s20 < ((a1.Radio.length : Nat) : Int)) <|
(if (!((((a0.Radio.getD s20.toNat default).Link) == ((a1.Radio.getD s20.toNat default).Link)) && ((((a0.Radio.getD s20.toNat default).End) == ((a1.Radio.getD s20.toNat default).End)) && ((((((a0.Radio.getD s20.toNat default).Vector).Root) == (((a1.Radio.getD s20.toNat default).Vector).Root)) && (((((a0.Radio.getD s20.toNat default).Vector).Cost) == (((a1.Radio.getD s20.toNat default).Vector).Cost)) && (((((a0.Radio.getD s20.toNat default).Vector).Age) == (((a1.Radio.getD s20.toNat default).Vector).Age)) && true))) && true)))) = true then
 some (.inr (.inl ()))
else
 some (.inl (IntKind.i64.wrap (s20 + 1))))
else
 some (.inr (.inr ())))) 0) fun x23 =>
(match x23 with
| .inl d26 =>
 some false
| .inr d27 =>
 some true))))

theorem laws_wtWorld_c {a0 : TreeWorld} {a1 : TreeWorld} {r : Bool} (h : laws_wtWorld_m a0 a1 = some r) : PureC Try.prog 12 [.agg [.d (slD TreeBridge.enc a0.Bridges), .d (slD TreeLink.enc a0.Links), .d (slD encInt a0.Down), .d (slD TreeSlot.enc a0.AtA), .d (slD TreeSlot.enc a0.AtB), .d (slD TreeWord.enc a0.Radio)], .agg [.d (slD TreeBridge.enc a1.Bridges), .d (slD TreeLink.enc a1.Links), .d (slD encInt a1.Down), .d (slD TreeSlot.enc a1.AtA), .d (slD TreeSlot.enc a1.AtB), .d (slD TreeWord.enc a1.Radio)]] (.d (.bool r)) [] := by
  refine pureC_m tOk (fn := Try.f12) (c := codeOf Try.f12) rfl rfl (by kernel_rfl) rfl rfl (by simp) (by simp) (ids_of rfl) ?_
  unfold laws_wtWorld_m at h
  conv => whnf
  refine seq_in tOk ?_
  conv => whnf
  obtain ⟨x1, hx1, h⟩ := bd_some h
  refine callG_m rfl rfl rfl rfl rfl rfl (by intro c0; exact laws_wtInts_c (gcall_some hx1 c0)) ?_
  conv => whnf
  obtain ⟨x2, hx2, h⟩ := bd_some h
  refine callG_m rfl rfl rfl rfl rfl rfl (by intro c0; exact laws_wtSlots_c (gcall_some hx2 c0)) ?_
  conv => whnf
  obtain ⟨x3, hx3, h⟩ := bd_some h
  refine callG_m rfl rfl rfl rfl rfl rfl (by intro c0; exact laws_wtSlots_c (gcall_some hx3 c0)) ?_
  conv => whnf
  refine And.intro (fun e => ?_) (fun e => ?_)
  · replace h := ite_t h e; clear e
    conv => whnf
    obtain rfl := Option.some.inj h
    exact ⟨_, LE.refl _, And.intro rfl trivial⟩
  · replace h := ite_f h e; clear e
    conv => whnf
    refine seq_in tOk ?_
    conv => whnf
    obtain ⟨x7, hx7, h⟩ := bd_some h
    refine loop_m tOk hx7 (fun s4 => ⟨0, 111, [(2, .ref 2 0 0), (3, .ref 3 0 0), (5, .d (.int .i64 s4))], [], [(3, .box 31 [.d (slD TreeBridge.enc a1.Bridges), .d (slD TreeLink.enc a1.Links), .d (slD encInt a1.Down), .d (slD TreeSlot.enc a1.AtA), .d (slD TreeSlot.enc a1.AtB), .d (slD TreeWord.enc a1.Radio)]), (2, .box 31 [.d (slD TreeBridge.enc a0.Bridges), .d (slD TreeLink.enc a0.Links), .d (slD encInt a0.Down), .d (slD TreeSlot.enc a0.AtA), .d (slD TreeSlot.enc a0.AtB), .d (slD TreeWord.enc a0.Radio)])], []⟩) ?_ ?_
    · refine le_mk ?_ ?_ ?_ <;> (repeat' first | ((conv => whnf); first | exact trivial | refine And.intro ?_ ?_ | exact BLe.refl _ | exact VLe.refl _) | exact trivial | exact rfl | refine And.intro ?_ ?_ | exact BLe.refl _ | exact VLe.refl _ | exact VLe.any _ | exact VLe.nil_osl rfl | exact VLe.nil_sl rfl | exact VLe.built rfl rfl | (refine VLe.osl rfl ?_; (first | rfl | (simp; done) | assumption | (simp [dsub_eq] <;> omega) | omega)) | exact VLe.rows (by first | rfl | (simp; done) | assumption | (simp [dsub_eq] <;> omega) | omega) (fun _ _ => rfl) | exact VLe.rows (by simp [dsub_eq] <;> omega) rows_take | exact VLe.rows (by simp [dsub_eq] <;> omega) rows_dt | exact VLe.rows (by simp [dsub_eq] <;> omega) rows_vt | exact VLe.rows (by simp) (fun i _ => by simp [viewRow_eq, Nat.add_comm]) | refine VLe.aggL ?_ | (refine BLe.rows rfl ?_ fun _ _ => rfl; (first | rfl | (simp; done) | assumption | (simp [dsub_eq] <;> omega) | omega)) | (refine BLe.rows rfl rfl ?_; first | exact rows_take) | refine BLe.box ?_)
    · clear hx7
      intro s4 y5 g6 hy5
      conv => whnf
      refine seq_in tOk ?_
      conv => whnf
      refine And.intro (fun e => ?_) (fun e => ?_)
      · replace g6 := ite_t g6 e; clear e
        conv => whnf
        refine seq_in tOk ?_
        conv => whnf
        obtain ⟨g8, g6⟩ := gd_some g6
        obtain ⟨g9, g6⟩ := gd_some g6
        refine draw_k tOk (by kernel_rfl) (fun _ => none) 11 [] [[], [true], [], [true, true, true], [true, true, true, true], [], [false, false, false, false, false, true], [], [false, false, false, false, false, true, true, true], [false, false, false, false, false, true, true, true, true], [true, true, true, true, true, true, true, true, true, true]] [] (by decide) (by kernel_rfl) (by kernel_rfl) ?_
        conv => whnf
        refine And.intro g8 ?_
        clear g8
        conv => whnf
        refine And.intro g9 ?_
        clear g9
        conv => whnf
        refine And.intro (by kernel_rfl) ?_
        conv => whnf
        refine And.intro (fun e => ?_) (fun e => ?_)
        · replace g6 := ite_t g6 e; clear e
          conv => whnf
          obtain rfl := Option.some.inj g6
          obtain rfl := hy5 _ rfl
          obtain rfl := Option.some.inj h
          exact ⟨_, LE.refl _, And.intro rfl trivial⟩
        · replace g6 := ite_f g6 e; clear e
          conv => whnf
          obtain rfl := Option.some.inj g6
          refine ⟨_, rfl, le_mk ?_ ?_ ?_⟩ <;> (repeat' first | ((conv => whnf); first | exact trivial | refine And.intro ?_ ?_ | exact BLe.refl _ | exact VLe.refl _) | exact trivial | exact rfl | refine And.intro ?_ ?_ | exact BLe.refl _ | exact VLe.refl _ | exact VLe.any _ | exact VLe.nil_osl rfl | exact VLe.nil_sl rfl | exact VLe.built rfl rfl | (refine VLe.osl rfl ?_; (first | rfl | (simp; done) | assumption | (simp [dsub_eq] <;> omega) | omega)) | exact VLe.rows (by first | rfl | (simp; done) | assumption | (simp [dsub_eq] <;> omega) | omega) (fun _ _ => rfl) | exact VLe.rows (by simp [dsub_eq] <;> omega) rows_take | exact VLe.rows (by simp [dsub_eq] <;> omega) rows_dt | exact VLe.rows (by simp [dsub_eq] <;> omega) rows_vt | exact VLe.rows (by simp) (fun i _ => by simp [viewRow_eq, Nat.add_comm]) | refine VLe.aggL ?_ | (refine BLe.rows rfl ?_ fun _ _ => rfl; (first | rfl | (simp; done) | assumption | (simp [dsub_eq] <;> omega) | omega)) | (refine BLe.rows rfl rfl ?_; first | exact rows_take) | refine BLe.box ?_)
      · replace g6 := ite_f g6 e; clear e
        conv => whnf
        obtain rfl := Option.some.inj g6
        obtain rfl := hy5 _ rfl
        refine seq_in tOk ?_
        conv => whnf
        obtain ⟨x15, hx15, h⟩ := bd_some h
        refine loop_m tOk hx15 (fun s12 => ⟨0, 111, [(2, .ref 2 0 0), (3, .ref 3 0 0), (6, .d (.int .i64 s12))], [], [(3, .box 31 [.d (slD TreeBridge.enc a1.Bridges), .d (slD TreeLink.enc a1.Links), .d (slD encInt a1.Down), .d (slD TreeSlot.enc a1.AtA), .d (slD TreeSlot.enc a1.AtB), .d (slD TreeWord.enc a1.Radio)]), (2, .box 31 [.d (slD TreeBridge.enc a0.Bridges), .d (slD TreeLink.enc a0.Links), .d (slD encInt a0.Down), .d (slD TreeSlot.enc a0.AtA), .d (slD TreeSlot.enc a0.AtB), .d (slD TreeWord.enc a0.Radio)])], []⟩) ?_ ?_
        · refine le_mk ?_ ?_ ?_ <;> (repeat' first | ((conv => whnf); first | exact trivial | refine And.intro ?_ ?_ | exact BLe.refl _ | exact VLe.refl _) | exact trivial | exact rfl | refine And.intro ?_ ?_ | exact BLe.refl _ | exact VLe.refl _ | exact VLe.any _ | exact VLe.nil_osl rfl | exact VLe.nil_sl rfl | exact VLe.built rfl rfl | (refine VLe.osl rfl ?_; (first | rfl | (simp; done) | assumption | (simp [dsub_eq] <;> omega) | omega)) | exact VLe.rows (by first | rfl | (simp; done) | assumption | (simp [dsub_eq] <;> omega) | omega) (fun _ _ => rfl) | exact VLe.rows (by simp [dsub_eq] <;> omega) rows_take | exact VLe.rows (by simp [dsub_eq] <;> omega) rows_dt | exact VLe.rows (by simp [dsub_eq] <;> omega) rows_vt | exact VLe.rows (by simp) (fun i _ => by simp [viewRow_eq, Nat.add_comm]) | refine VLe.aggL ?_ | (refine BLe.rows rfl ?_ fun _ _ => rfl; (first | rfl | (simp; done) | assumption | (simp [dsub_eq] <;> omega) | omega)) | (refine BLe.rows rfl rfl ?_; first | exact rows_take) | refine BLe.box ?_)
        · clear hx15
          intro s12 y13 g14 hy13
          conv => whnf
          refine seq_in tOk ?_
          conv => whnf
          refine And.intro (fun e => ?_) (fun e => ?_)
          · replace g14 := ite_t g14 e; clear e
            conv => whnf
            refine seq_in tOk ?_
            conv => whnf
            obtain ⟨g16, g14⟩ := gd_some g14
            obtain ⟨g17, g14⟩ := gd_some g14
            refine draw_k tOk (by kernel_rfl) (fun _ => none) 11 [] [[], [true], [], [true, true, true], [true, true, true, true], [], [false, false, false, false, false, true], [], [false, false, false, false, false, true, true, true], [false, false, false, false, false, true, true, true, true], [true, true, true, true, true, true, true, true, true, true]] [] (by decide) (by kernel_rfl) (by kernel_rfl) ?_
            conv => whnf
            refine And.intro g16 ?_
            clear g16
            conv => whnf
            refine And.intro g17 ?_
            clear g17
            conv => whnf
            refine And.intro (by kernel_rfl) ?_
            conv => whnf
            refine And.intro (fun e => ?_) (fun e => ?_)
            · replace g14 := ite_t g14 e; clear e
              conv => whnf
              obtain rfl := Option.some.inj g14
              obtain rfl := hy13 _ rfl
              obtain rfl := Option.some.inj h
              exact ⟨_, LE.refl _, And.intro rfl trivial⟩
            · replace g14 := ite_f g14 e; clear e
              conv => whnf
              obtain rfl := Option.some.inj g14
              refine ⟨_, rfl, le_mk ?_ ?_ ?_⟩ <;> (repeat' first | ((conv => whnf); first | exact trivial | refine And.intro ?_ ?_ | exact BLe.refl _ | exact VLe.refl _) | exact trivial | exact rfl | refine And.intro ?_ ?_ | exact BLe.refl _ | exact VLe.refl _ | exact VLe.any _ | exact VLe.nil_osl rfl | exact VLe.nil_sl rfl | exact VLe.built rfl rfl | (refine VLe.osl rfl ?_; (first | rfl | (simp; done) | assumption | (simp [dsub_eq] <;> omega) | omega)) | exact VLe.rows (by first | rfl | (simp; done) | assumption | (simp [dsub_eq] <;> omega) | omega) (fun _ _ => rfl) | exact VLe.rows (by simp [dsub_eq] <;> omega) rows_take | exact VLe.rows (by simp [dsub_eq] <;> omega) rows_dt | exact VLe.rows (by simp [dsub_eq] <;> omega) rows_vt | exact VLe.rows (by simp) (fun i _ => by simp [viewRow_eq, Nat.add_comm]) | refine VLe.aggL ?_ | (refine BLe.rows rfl ?_ fun _ _ => rfl; (first | rfl | (simp; done) | assumption | (simp [dsub_eq] <;> omega) | omega)) | (refine BLe.rows rfl rfl ?_; first | exact rows_take) | refine BLe.box ?_)
          · replace g14 := ite_f g14 e; clear e
            conv => whnf
            obtain rfl := Option.some.inj g14
            obtain rfl := hy13 _ rfl
            refine seq_in tOk ?_
            conv => whnf
            obtain ⟨x23, hx23, h⟩ := bd_some h
            refine loop_m tOk hx23 (fun s20 => ⟨0, 111, [(2, .ref 2 0 0), (3, .ref 3 0 0), (7, .d (.int .i64 s20))], [], [(3, .box 31 [.d (slD TreeBridge.enc a1.Bridges), .d (slD TreeLink.enc a1.Links), .d (slD encInt a1.Down), .d (slD TreeSlot.enc a1.AtA), .d (slD TreeSlot.enc a1.AtB), .d (slD TreeWord.enc a1.Radio)]), (2, .box 31 [.d (slD TreeBridge.enc a0.Bridges), .d (slD TreeLink.enc a0.Links), .d (slD encInt a0.Down), .d (slD TreeSlot.enc a0.AtA), .d (slD TreeSlot.enc a0.AtB), .d (slD TreeWord.enc a0.Radio)])], []⟩) ?_ ?_
            · refine le_mk ?_ ?_ ?_ <;> (repeat' first | ((conv => whnf); first | exact trivial | refine And.intro ?_ ?_ | exact BLe.refl _ | exact VLe.refl _) | exact trivial | exact rfl | refine And.intro ?_ ?_ | exact BLe.refl _ | exact VLe.refl _ | exact VLe.any _ | exact VLe.nil_osl rfl | exact VLe.nil_sl rfl | exact VLe.built rfl rfl | (refine VLe.osl rfl ?_; (first | rfl | (simp; done) | assumption | (simp [dsub_eq] <;> omega) | omega)) | exact VLe.rows (by first | rfl | (simp; done) | assumption | (simp [dsub_eq] <;> omega) | omega) (fun _ _ => rfl) | exact VLe.rows (by simp [dsub_eq] <;> omega) rows_take | exact VLe.rows (by simp [dsub_eq] <;> omega) rows_dt | exact VLe.rows (by simp [dsub_eq] <;> omega) rows_vt | exact VLe.rows (by simp) (fun i _ => by simp [viewRow_eq, Nat.add_comm]) | refine VLe.aggL ?_ | (refine BLe.rows rfl ?_ fun _ _ => rfl; (first | rfl | (simp; done) | assumption | (simp [dsub_eq] <;> omega) | omega)) | (refine BLe.rows rfl rfl ?_; first | exact rows_take) | refine BLe.box ?_)
            · clear hx23
              intro s20 y21 g22 hy21
              conv => whnf
              refine seq_in tOk ?_
              conv => whnf
              refine And.intro (fun e => ?_) (fun e => ?_)
              · replace g22 := ite_t g22 e; clear e
                conv => whnf
                refine seq_in tOk ?_
                conv => whnf
                obtain ⟨g24, g22⟩ := gd_some g22
                obtain ⟨g25, g22⟩ := gd_some g22
                refine draw_k tOk (by kernel_rfl) (fun _ => none) 11 [] [[], [true], [], [true, true, true], [true, true, true, true], [], [false, false, false, false, false, true], [], [false, false, false, false, false, true, true, true], [false, false, false, false, false, true, true, true, true], [true, true, true, true, true, true, true, true, true, true]] [] (by decide) (by kernel_rfl) (by kernel_rfl) ?_
                conv => whnf
                refine And.intro g24 ?_
                clear g24
                conv => whnf
                refine And.intro g25 ?_
                clear g25
                conv => whnf
                refine And.intro (by kernel_rfl) ?_
                conv => whnf
                refine And.intro (fun e => ?_) (fun e => ?_)
                · replace g22 := ite_t g22 e; clear e
                  conv => whnf
                  obtain rfl := Option.some.inj g22
                  obtain rfl := hy21 _ rfl
                  obtain rfl := Option.some.inj h
                  exact ⟨_, LE.refl _, And.intro rfl trivial⟩
                · replace g22 := ite_f g22 e; clear e
                  conv => whnf
                  obtain rfl := Option.some.inj g22
                  refine ⟨_, rfl, le_mk ?_ ?_ ?_⟩ <;> (repeat' first | ((conv => whnf); first | exact trivial | refine And.intro ?_ ?_ | exact BLe.refl _ | exact VLe.refl _) | exact trivial | exact rfl | refine And.intro ?_ ?_ | exact BLe.refl _ | exact VLe.refl _ | exact VLe.any _ | exact VLe.nil_osl rfl | exact VLe.nil_sl rfl | exact VLe.built rfl rfl | (refine VLe.osl rfl ?_; (first | rfl | (simp; done) | assumption | (simp [dsub_eq] <;> omega) | omega)) | exact VLe.rows (by first | rfl | (simp; done) | assumption | (simp [dsub_eq] <;> omega) | omega) (fun _ _ => rfl) | exact VLe.rows (by simp [dsub_eq] <;> omega) rows_take | exact VLe.rows (by simp [dsub_eq] <;> omega) rows_dt | exact VLe.rows (by simp [dsub_eq] <;> omega) rows_vt | exact VLe.rows (by simp) (fun i _ => by simp [viewRow_eq, Nat.add_comm]) | refine VLe.aggL ?_ | (refine BLe.rows rfl ?_ fun _ _ => rfl; (first | rfl | (simp; done) | assumption | (simp [dsub_eq] <;> omega) | omega)) | (refine BLe.rows rfl rfl ?_; first | exact rows_take) | refine BLe.box ?_)
              · replace g22 := ite_f g22 e; clear e
                conv => whnf
                obtain rfl := Option.some.inj g22
                obtain rfl := hy21 _ rfl
                obtain rfl := Option.some.inj h
                exact ⟨_, LE.refl _, And.intro rfl trivial⟩

noncomputable def impl_TreeWorld_open_m (a0 : TreeWorld) (a1 : Int) : Option (Bool) :=
 gd ((0 : Int) ≤ a1 ∧ a1 < ((a0.Links.length : Nat) : Int)) <|
 bd (impl_TreeWorld_isDown_m a0 a1) fun x2 =>
 gd ((!x2) = true → ((0 : Int) ≤ (a0.Links.getD a1.toNat default).A ∧ (a0.Links.getD a1.toNat default).A < ((a0.Bridges.length : Nat) : Int))) <|
 gd (((!x2) && (a0.Bridges.getD (((a0.Links.getD a1.toNat default).A).toNat) default).Up) = true → ((0 : Int) ≤ (a0.Links.getD a1.toNat default).B ∧ (a0.Links.getD a1.toNat default).B < ((a0.Bridges.length : Nat) : Int))) <|
 some (((!x2) && (a0.Bridges.getD (((a0.Links.getD a1.toNat default).A).toNat) default).Up) && (a0.Bridges.getD (((a0.Links.getD a1.toNat default).B).toNat) default).Up)

theorem impl_TreeWorld_open_c {a0 : TreeWorld} {a1 : Int} {r : Bool} (h : impl_TreeWorld_open_m a0 a1 = some r) : PureC Try.prog 89 [.rp [slD TreeBridge.enc a0.Bridges, slD TreeLink.enc a0.Links, slD encInt a0.Down, slD TreeSlot.enc a0.AtA, slD TreeSlot.enc a0.AtB, slD TreeWord.enc a0.Radio], .d (.int .i64 a1)] (.d (.bool r)) [] := by
  refine pureC_m tOk (fn := Try.f89) (c := codeOf Try.f89) rfl rfl (by kernel_rfl) rfl rfl (by simp) (by simp) (ids_of rfl) ?_
  unfold impl_TreeWorld_open_m at h
  conv => whnf
  obtain ⟨g1, h⟩ := gd_some h
  refine And.intro g1 ?_
  clear g1
  conv => whnf
  obtain ⟨x2, hx2, h⟩ := bd_some h
  obtain ⟨g3, h⟩ := gd_some h
  obtain ⟨g4, h⟩ := gd_some h
  refine draw_k tOk (by kernel_rfl) (fun j => match j with | 2 => some (.pure 0 (.d (.bool x2)) []) | _ => none) 27 [] [[], [], [true, true], [true, true, true], [true, true, true, true], [true, true, true, true, true], [true, true, true, true, true, true], [true, true, true, true, true, true, true], [true, true, true, true, true, true, true, true], [true, true, true, true, true], [true, true, true, true, true, false, false, false, false, true], [true, true, true, true, true, true, true, true, true, true, true], [true, true, true, true, true, true, true, true, true, true, true, true], [true, true, true, true, true, true, true, true, true, true, true, true, true], [true, true, true, true, true, true, true, true, true, true, true, true, true, true], [true, true, true, true, true, true, true, true, true, true, true, true, true, true, true], [true, true, true, true, true, true, true, true, true, true, true, true, true, true, true, true], [true, true, true, true, true, true, true, true, true, true, true, true, true, true, true, true, true], [true, true, true, true, true, true, true, true, true, true, true, true, true, true, true, true, true, true], [true, true, true, true, true, true, true, true, true, true, true, true, true, true, true, true, true, true, true], [true, true, true, true, true, true, true, true, true, true, true, true, true, true, true, true], [true, true, true, true, true, true, true, true, true, true, true, true, true, true, true, true, false, false, false, false, true], [true, true, true, true, true, true, true, true, true, true, true, true, true, true, true, true, true, true, true, true, true, true], [true, true, true, true, true, true, true, true, true, true, true, true, true, true, true, true, true, true, true, true, true, true, true], [true, true, true, true, true, true, true, true, true, true, true, true, true, true, true, true, true, true, true, true, true, true, true, true], [true, true, true, true, true, true, true, true, true, true, true, true, true, true, true, true, true, true, true, true, true, true, true, true, true], [true, true, true, true, true, true, true, true, true, true, true, true, true, true, true, true, true, true, true, true, true, true, true, true, true, true]] [] (by decide) (by kernel_rfl) (by kernel_rfl) ?_
  conv => whnf
  refine And.intro (callD_any (impl_TreeWorld_isDown_c hx2) (by kernel_rfl)) ?_
  conv => whnf
  refine And.intro g3 ?_
  clear g3
  conv => whnf
  refine And.intro g4 ?_
  clear g4
  conv => whnf
  refine And.intro (by kernel_rfl) ?_
  conv => whnf
  obtain rfl := Option.some.inj h
  exact ⟨_, LE.refl _, And.intro rfl trivial⟩

noncomputable def impl_TreeVector_compare_m (a0 : TreeVector) (a1 : TreeVector) : Option (Int) :=
(if (a0.Root != a1.Root) = true then
 some (IntKind.i64.wrap (a0.Root - a1.Root))
else
 some (IntKind.i64.wrap (a0.Cost - a1.Cost)))

theorem impl_TreeVector_compare_c {a0 : TreeVector} {a1 : TreeVector} {r : Int} (h : impl_TreeVector_compare_m a0 a1 = some r) : PureC Try.prog 108 [.agg [.d (.int .i64 a0.Root), .d (.int .i64 a0.Cost), .d (.int .i64 a0.Age)], .agg [.d (.int .i64 a1.Root), .d (.int .i64 a1.Cost), .d (.int .i64 a1.Age)]] (.d (.int .i64 r)) [] := by
  refine pureC_m tOk (fn := Try.f108) (c := codeOf Try.f108) rfl rfl (by kernel_rfl) rfl rfl (by simp) (by simp) (ids_of rfl) ?_
  unfold impl_TreeVector_compare_m at h
  conv => whnf
  refine seq_in tOk ?_
  conv => whnf
  refine And.intro (fun e => ?_) (fun e => ?_)
  · replace h := ite_t h e; clear e
    conv => whnf
    obtain rfl := Option.some.inj h
    exact ⟨_, LE.refl _, And.intro rfl trivial⟩
  · replace h := ite_f h e; clear e
    conv => whnf
    obtain rfl := Option.some.inj h
    exact ⟨_, LE.refl _, And.intro rfl trivial⟩

noncomputable def impl_TreeWorld_lets_m (a0 : TreeWorld) (a1 : Int) (a2 : Int) : Option (Bool) :=
 bd (impl_TreeWorld_bridgeAt_m a0 a1 a2) fun x1 =>
 gd ((0 : Int) ≤ x1 ∧ x1 < ((a0.Bridges.length : Nat) : Int)) <|
 bd (impl_TreeWorld_bridgeAt_m a0 a1 (IntKind.i64.wrap (1 - a2))) fun x3 =>
 gd ((0 : Int) ≤ x3 ∧ x3 < ((a0.Bridges.length : Nat) : Int)) <|
 bd (impl_TreeWorld_slot_m a0 a1 a2) fun x5 =>
 bd (gcall (((((a0.Bridges.getD x1.toNat default).Mind).Link) == a1) = false) (impl_TreeVector_nothing_m x5.Vector)) fun x6 =>
(if (((((a0.Bridges.getD x1.toNat default).Mind).Link) == a1) || x6) = true then
 some true
else
 bd (impl_TreeVector_compare_m (((a0.Bridges.getD x1.toNat default).Mind).Vector) x5.Vector) fun x7 =>
 some ((decide (x7 < 0)) || ((x7 == 0) && (decide (((a0.Bridges.getD x1.toNat default).Id) < ((a0.Bridges.getD x3.toNat default).Id))))))

theorem impl_TreeWorld_lets_c {a0 : TreeWorld} {a1 : Int} {a2 : Int} {r : Bool} (h : impl_TreeWorld_lets_m a0 a1 a2 = some r) : PureC Try.prog 90 [.rp [slD TreeBridge.enc a0.Bridges, slD TreeLink.enc a0.Links, slD encInt a0.Down, slD TreeSlot.enc a0.AtA, slD TreeSlot.enc a0.AtB, slD TreeWord.enc a0.Radio], .d (.int .i64 a1), .d (.int .i64 a2)] (.d (.bool r)) [] := by
  refine pureC_m tOk (fn := Try.f90) (c := codeOf Try.f90) rfl rfl (by kernel_rfl) rfl rfl (by simp) (by simp) (ids_of rfl) ?_
  unfold impl_TreeWorld_lets_m at h
  conv => whnf
  obtain ⟨x1, hx1, h⟩ := bd_some h
  obtain ⟨g2, h⟩ := gd_some h
  obtain ⟨x3, hx3, h⟩ := bd_some h
  obtain ⟨g4, h⟩ := gd_some h
  refine draw_gk tOk (by kernel_rfl) (fun j => match j with | 7 => some (.pure 0 (.d (.int .i64 x1)) []) | 18 => some (.pure 0 (.d (.int .i64 x3)) []) | 21 => some (.app [] (.ref 7 0 0) [(7, .box 74 [.d (.int .i64 0), .d (.bool false), .d (.int .i64 0), .d (.int .i64 0), .d (.int .i64 0), .d (.int .i64 0)])]) | 22 => some (.app [] (.ref 8 0 0) [(8, .box 74 [.d (.int .i64 0), .d (.bool false), .d (.int .i64 0), .d (.int .i64 0), .d (.int .i64 0), .d (.int .i64 0)])]) | 23 => some (.app [(7, .box 74 [.d (.int .i64 0), .d (.bool false), .d (.int .i64 0), .d (.int .i64 0), .d (.int .i64 0), .d (.int .i64 0)])] (.any) [(7, .box 74 [.d (.int .i64 ((a0.Bridges.getD x1.toNat default).Id)), .d (.bool ((a0.Bridges.getD x1.toNat default).Up)), .d (.int .i64 ((((a0.Bridges.getD x1.toNat default).Mind).Vector).Root)), .d (.int .i64 ((((a0.Bridges.getD x1.toNat default).Mind).Vector).Cost)), .d (.int .i64 ((((a0.Bridges.getD x1.toNat default).Mind).Vector).Age)), .d (.int .i64 (((a0.Bridges.getD x1.toNat default).Mind).Link))])]) | 24 => some (.app [(8, .box 74 [.d (.int .i64 0), .d (.bool false), .d (.int .i64 0), .d (.int .i64 0), .d (.int .i64 0), .d (.int .i64 0)])] (.any) [(8, .box 74 [.d (.int .i64 ((a0.Bridges.getD x3.toNat default).Id)), .d (.bool ((a0.Bridges.getD x3.toNat default).Up)), .d (.int .i64 ((((a0.Bridges.getD x3.toNat default).Mind).Vector).Root)), .d (.int .i64 ((((a0.Bridges.getD x3.toNat default).Mind).Vector).Cost)), .d (.int .i64 ((((a0.Bridges.getD x3.toNat default).Mind).Vector).Age)), .d (.int .i64 (((a0.Bridges.getD x3.toNat default).Mind).Link))])]) | _ => none) (fun j => match j with | 23 => [(7, .box 74 [.d (.int .i64 0), .d (.bool false), .d (.int .i64 0), .d (.int .i64 0), .d (.int .i64 0), .d (.int .i64 0)])] | 24 => [(8, .box 74 [.d (.int .i64 0), .d (.bool false), .d (.int .i64 0), .d (.int .i64 0), .d (.int .i64 0), .d (.int .i64 0)])] | _ => []) (fun _ => []) 25 [] [[], [true], [true, true], [true, true, true], [], [], [], [false, false, false, false, true, true, true], [true, true, true, true, true, true, true, true], [true, true, true, true, true, true, true, true, true], [], [false, false, false, false, false, false, false, false, false, false, true], [false, false, false, false, false, false, false, false, false, false, true, true], [false, false, false, false, false, false, false, false, false, false, true, true, true], [], [], [], [false, false, false, false, false, false, false, false, false, false, false, false, false, false, false, false, true], [false, false, false, false, true, true, true, true, false, false, false, false, false, false, true, true, true, true], [false, false, false, false, true, true, true, true, false, false, true, true, true, true, true, true, true, true, true], [false, false, false, false, true, true, true, true, false, false, true, true, true, true, true, true, true, true, true, true], [], [], [true, true, true, true, true, true, true, true, true, true, false, false, false, false, true, true, true, true, true, false, false, true, true], [true, true, true, true, true, true, true, true, true, true, true, true, true, true, true, true, true, true, true, true, true, true, true, true]] [] [] (by decide) (by kernel_rfl) (chainG_app rfl rfl rfl rfl (chainG_app rfl rfl rfl rfl (chainG_app rfl rfl rfl rfl (chainG_app rfl rfl rfl rfl (chainG_pure rfl (chainG_pure rfl (chainG_pure rfl (chainG_pure rfl (chainG_pure rfl (chainG_pure rfl (chainG_pure rfl (chainG_pure rfl (chainG_pure rfl (chainG_pure rfl (chainG_pure rfl (chainG_pure rfl (chainG_pure rfl (chainG_pure rfl (chainG_pure rfl (chainG_pure rfl (chainG_pure rfl (chainG_pure rfl (chainG_pure rfl (chainG_pure rfl (chainG_pure rfl (chainG_nil)))))))))))))))))))))))))) (by kernel_rfl) ?_
  conv => whnf
  refine And.intro (callD_any (impl_TreeWorld_bridgeAt_c hx1) (by kernel_rfl)) ?_
  conv => whnf
  refine And.intro g2 ?_
  clear g2
  conv => whnf
  refine And.intro (callD_any (impl_TreeWorld_bridgeAt_c hx3) (by kernel_rfl)) ?_
  conv => whnf
  refine And.intro g4 ?_
  clear g4
  conv => whnf
  refine And.intro (by (conv => whnf); exact ⟨rfl, rfl⟩) ?_
  conv => whnf
  refine And.intro (by (conv => whnf); exact ⟨rfl, rfl⟩) ?_
  conv => whnf
  refine And.intro (by (conv => whnf); exact ⟨rfl, rfl⟩) ?_
  conv => whnf
  refine And.intro (by (conv => whnf); exact ⟨rfl, rfl⟩) ?_
  conv => whnf
  refine And.intro (by kernel_rfl) ?_
  conv => whnf
  obtain ⟨x5, hx5, h⟩ := bd_some h
  refine callE [] 0 (impl_TreeWorld_slot_c hx5) (by (repeat' first | ((conv => whnf); first | exact trivial | refine And.intro ?_ ?_ | exact BLe.refl _ | exact VLe.refl _) | exact trivial | refine And.intro ?_ ?_ | exact VLe.refl _ | exact VLe.any _ | exact VLe.nil_osl rfl | exact VLe.nil_sl rfl | exact VLe.built rfl rfl | (refine VLe.osl rfl ?_; (first | rfl | (simp; done) | assumption | (simp [dsub_eq] <;> omega) | omega)) | exact VLe.rows (by first | rfl | (simp; done) | assumption | (simp [dsub_eq] <;> omega) | omega) (fun _ _ => rfl) | exact VLe.rows (by simp [dsub_eq] <;> omega) rows_take | exact VLe.rows (by simp [dsub_eq] <;> omega) rows_dt | exact VLe.rows (by simp [dsub_eq] <;> omega) rows_vt | exact VLe.rows (by simp) (fun i _ => by simp [viewRow_eq, Nat.add_comm]) | refine VLe.aggL ?_)) (by (repeat' first | ((conv => whnf); first | exact trivial | refine And.intro ?_ ?_ | exact BLe.refl _ | exact VLe.refl _) | exact trivial | exact rfl | refine And.intro ?_ ?_ | exact BLe.refl _ | exact VLe.refl _ | exact VLe.any _ | exact VLe.nil_osl rfl | exact VLe.nil_sl rfl | exact VLe.built rfl rfl | (refine VLe.osl rfl ?_; (first | rfl | (simp; done) | assumption | (simp [dsub_eq] <;> omega) | omega)) | exact VLe.rows (by first | rfl | (simp; done) | assumption | (simp [dsub_eq] <;> omega) | omega) (fun _ _ => rfl) | exact VLe.rows (by simp [dsub_eq] <;> omega) rows_take | exact VLe.rows (by simp [dsub_eq] <;> omega) rows_dt | exact VLe.rows (by simp [dsub_eq] <;> omega) rows_vt | exact VLe.rows (by simp) (fun i _ => by simp [viewRow_eq, Nat.add_comm]) | refine VLe.aggL ?_ | (refine BLe.rows rfl ?_ fun _ _ => rfl; (first | rfl | (simp; done) | assumption | (simp [dsub_eq] <;> omega) | omega)) | refine BLe.box ?_ | (simp; done))) rfl rfl ?_
  conv => whnf
  refine seq_in tOk ?_
  conv => whnf
  obtain ⟨x6, hx6, h⟩ := bd_some h
  refine callG_m rfl rfl rfl rfl rfl rfl (by intro c0; exact impl_TreeVector_nothing_c (gcall_some hx6 c0)) ?_
  conv => whnf
  refine And.intro (fun e => ?_) (fun e => ?_)
  · replace h := ite_t h e; clear e
    conv => whnf
    obtain rfl := Option.some.inj h
    exact ⟨_, LE.refl _, And.intro rfl trivial⟩
  · replace h := ite_f h e; clear e
    conv => whnf
    obtain ⟨x7, hx7, h⟩ := bd_some h
    refine callC 0 (impl_TreeVector_compare_c hx7) (by kernel_rfl) (by kernel_rfl) ?_
    clear hx7
    conv => whnf
    obtain rfl := Option.some.inj h
    exact ⟨_, LE.refl _, And.intro rfl trivial⟩

noncomputable def impl_TreeWorld_passes_m (a0 : TreeWorld) : Option ((List Int)) :=
 bd (lp (σ := List Int × Int) (β := (Nat × (List Int))) (fun s1 =>
(if (decide (s1.2 < ((a0.Links.length : Nat) : Int))) = true then
 bd (impl_TreeWorld_open_m a0 s1.2) fun x5 =>
 bd (gcall (x5 = true) (impl_TreeWorld_lets_m a0 s1.2 0)) fun x6 =>
 bd (gcall ((x5 && x6) = true) (impl_TreeWorld_lets_m a0 s1.2 1)) fun x7 =>
(if ((x5 && x6) && x7) = true then
 gd (((s1.1.length) + (([s1.2] : List Int).length)) * (8 + 1) ≤ 70368744177664) <|
 some (.inl ((s1.1 ++ ([s1.2] : List Int)), IntKind.i64.wrap (s1.2 + 1)))
else
 some (.inl (s1.1, IntKind.i64.wrap (s1.2 + 1))))
else
 some (.inr (s1.1.length, s1.1)))) (([] : List Int), 0)) fun x4 =>
 some x4.2

theorem impl_TreeWorld_passes_c {a0 : TreeWorld} {r : (List Int)} (h : impl_TreeWorld_passes_m a0 = some r) : PureC Try.prog 48 [.rp [slD TreeBridge.enc a0.Bridges, slD TreeLink.enc a0.Links, slD encInt a0.Down, slD TreeSlot.enc a0.AtA, slD TreeSlot.enc a0.AtB, slD TreeWord.enc a0.Radio]] (.osl 5001 0 r.length) [⟨5001, 3, 1, r.length, rows encInt r⟩] := by
  refine pureC_m tOk (fn := Try.f48) (c := codeOf Try.f48) rfl rfl (by kernel_rfl) rfl rfl (by simp [atomD]) (by simp) (ids_of rfl) ?_
  unfold impl_TreeWorld_passes_m at h
  conv => whnf
  refine seq_in tOk ?_
  conv => whnf
  obtain ⟨x4, hx4, h⟩ := bd_some h
  refine loop_m tOk hx4 (fun s1 => ⟨0, 33, [(0, .rp [slD TreeBridge.enc a0.Bridges, slD TreeLink.enc a0.Links, slD encInt a0.Down, slD TreeSlot.enc a0.AtA, slD TreeSlot.enc a0.AtB, slD TreeWord.enc a0.Radio]), (3, .osl 7001 0 s1.1.length), (10, .d (.int .i64 ((a0.Links.length : Nat) : Int))), (11, .d (.int .i64 s1.2))], [], [(7001, .arr 3 1 s1.1.length (rows encInt s1.1))], []⟩) ?_ ?_
  · refine LE.trans (S' := ⟨0, 33, [(0, .rp [slD TreeBridge.enc a0.Bridges, slD TreeLink.enc a0.Links, slD encInt a0.Down, slD TreeSlot.enc a0.AtA, slD TreeSlot.enc a0.AtB, slD TreeWord.enc a0.Radio]), (3, .d (.nil)), (10, .d (.int .i64 ((a0.Links.length : Nat) : Int))), (11, .d (.int .i64 0))], [], [], []⟩) (le_mk ?_ ?_ ?_) (LE.trans (S' := ⟨0, 33, [(0, .rp [slD TreeBridge.enc a0.Bridges, slD TreeLink.enc a0.Links, slD encInt a0.Down, slD TreeSlot.enc a0.AtA, slD TreeSlot.enc a0.AtB, slD TreeWord.enc a0.Radio]), (3, .d (.nil)), (10, .d (.int .i64 ((a0.Links.length : Nat) : Int))), (11, .d (.int .i64 0))], [], [(7001, .arr 3 1 (([] : List Int).length) (rows encInt ([] : List Int)))], []⟩) (le_ph 7001 3 1 (rows encInt ([] : List Int)) rfl rfl) (le_mk ?_ ?_ ?_)) <;> (repeat' first | ((conv => whnf); first | exact trivial | refine And.intro ?_ ?_ | exact BLe.refl _ | exact VLe.refl _) | exact trivial | exact rfl | refine And.intro ?_ ?_ | exact BLe.refl _ | exact VLe.refl _ | exact VLe.any _ | exact VLe.nil_osl rfl | exact VLe.nil_sl rfl | exact VLe.built rfl rfl | (refine VLe.osl rfl ?_; (first | rfl | (simp; done) | assumption | (simp [dsub_eq] <;> omega) | omega)) | exact VLe.rows (by first | rfl | (simp; done) | assumption | (simp [dsub_eq] <;> omega) | omega) (fun _ _ => rfl) | exact VLe.rows (by simp [dsub_eq] <;> omega) rows_take | exact VLe.rows (by simp [dsub_eq] <;> omega) rows_dt | exact VLe.rows (by simp [dsub_eq] <;> omega) rows_vt | exact VLe.rows (by simp) (fun i _ => by simp [viewRow_eq, Nat.add_comm]) | refine VLe.aggL ?_ | (refine BLe.rows rfl ?_ fun _ _ => rfl; (first | rfl | (simp; done) | assumption | (simp [dsub_eq] <;> omega) | omega)) | (refine BLe.rows rfl rfl ?_; first | exact rows_take) | refine BLe.box ?_)
  · clear hx4
    intro s1 y2 g3 hy2
    conv => whnf
    refine seq_in tOk ?_
    conv => whnf
    refine And.intro (fun e => ?_) (fun e => ?_)
    · replace g3 := ite_t g3 e; clear e
      conv => whnf
      refine seq_in tOk ?_
      conv => whnf
      obtain ⟨x5, hx5, g3⟩ := bd_some g3
      refine callC 0 (impl_TreeWorld_open_c hx5) (by kernel_rfl) (by kernel_rfl) ?_
      clear hx5
      conv => whnf
      obtain ⟨x6, hx6, g3⟩ := bd_some g3
      refine callG_m rfl rfl rfl rfl rfl rfl (by intro c0; exact impl_TreeWorld_lets_c (gcall_some hx6 c0)) ?_
      conv => whnf
      obtain ⟨x7, hx7, g3⟩ := bd_some g3
      refine callG_m rfl rfl rfl rfl rfl rfl (by intro c0; exact impl_TreeWorld_lets_c (gcall_some hx7 c0)) ?_
      conv => whnf
      refine And.intro (fun e => ?_) (fun e => ?_)
      · replace g3 := ite_t g3 e; clear e
        conv => whnf
        refine ⟨([s1.2] : List Int).length, rows encInt ([s1.2] : List Int), rfl, build_rows, ?_⟩
        conv => whnf
        obtain ⟨g8, g3⟩ := gd_some g3
        refine And.intro g8 ?_
        clear g8
        refine ⟨(s1.1 ++ ([s1.2] : List Int)).length, rows encInt (s1.1 ++ ([s1.2] : List Int)), (by first | rfl | (simp; done) | assumption | (simp [dsub_eq] <;> omega) | omega), (by first | exact app_rows (m := ([s1.2] : List Int).length) (by first | rfl | (simp; done) | assumption | (simp [dsub_eq] <;> omega) | omega) (by first | rfl | (simp; done) | assumption | (simp [dsub_eq] <;> omega) | omega) (fun _ _ => rfl) (fun _ _ => rfl) | exact app_rows0 (m := ([s1.2] : List Int).length) (by first | rfl | (simp; done) | assumption | (simp [dsub_eq] <;> omega) | omega) (fun _ _ => rfl) | exact app_rows (m := ([s1.2] : List Int).length) (by first | rfl | (simp; done) | assumption | (simp [dsub_eq] <;> omega) | omega) (by first | rfl | (simp; done) | assumption | (simp [dsub_eq] <;> omega) | omega) (by first | exact fun _ _ => rfl | exact rows_take | (intro i hi; simp only [viewRow_eq, addOff_eq, Int.toNat_zero, Nat.zero_add, Nat.add_zero]; exact rows_take i hi) | exact rows_vt | exact rows_dt | (intro i hi; simp only [viewRow_eq, Nat.zero_add]) | (intro i hi; simp [viewRow_eq])) (by first | exact fun _ _ => rfl | exact rows_take | (intro i hi; simp only [viewRow_eq, addOff_eq, Int.toNat_zero, Nat.zero_add, Nat.add_zero]; exact rows_take i hi) | exact rows_vt | exact rows_dt | (intro i hi; simp only [viewRow_eq, Nat.zero_add]) | (intro i hi; simp [viewRow_eq])) | exact app_rows0 (m := ([s1.2] : List Int).length) (by first | rfl | (simp; done) | assumption | (simp [dsub_eq] <;> omega) | omega) (by first | exact fun _ _ => rfl | exact rows_take | (intro i hi; simp only [viewRow_eq, addOff_eq, Int.toNat_zero, Nat.zero_add, Nat.add_zero]; exact rows_take i hi) | exact rows_vt | exact rows_dt | (intro i hi; simp only [viewRow_eq, Nat.zero_add]) | (intro i hi; simp [viewRow_eq]))), ?_⟩
        conv => whnf
        obtain rfl := Option.some.inj g3
        refine ⟨_, rfl, le_mk ?_ ?_ ?_⟩ <;> (repeat' first | ((conv => whnf); first | exact trivial | refine And.intro ?_ ?_ | exact BLe.refl _ | exact VLe.refl _) | exact trivial | exact rfl | refine And.intro ?_ ?_ | exact BLe.refl _ | exact VLe.refl _ | exact VLe.any _ | exact VLe.nil_osl rfl | exact VLe.nil_sl rfl | exact VLe.built rfl rfl | (refine VLe.osl rfl ?_; (first | rfl | (simp; done) | assumption | (simp [dsub_eq] <;> omega) | omega)) | exact VLe.rows (by first | rfl | (simp; done) | assumption | (simp [dsub_eq] <;> omega) | omega) (fun _ _ => rfl) | exact VLe.rows (by simp [dsub_eq] <;> omega) rows_take | exact VLe.rows (by simp [dsub_eq] <;> omega) rows_dt | exact VLe.rows (by simp [dsub_eq] <;> omega) rows_vt | exact VLe.rows (by simp) (fun i _ => by simp [viewRow_eq, Nat.add_comm]) | refine VLe.aggL ?_ | (refine BLe.rows rfl ?_ fun _ _ => rfl; (first | rfl | (simp; done) | assumption | (simp [dsub_eq] <;> omega) | omega)) | (refine BLe.rows rfl rfl ?_; first | exact rows_take) | refine BLe.box ?_)
      · replace g3 := ite_f g3 e; clear e
        conv => whnf
        obtain rfl := Option.some.inj g3
        refine ⟨_, rfl, le_mk ?_ ?_ ?_⟩ <;> (repeat' first | ((conv => whnf); first | exact trivial | refine And.intro ?_ ?_ | exact BLe.refl _ | exact VLe.refl _) | exact trivial | exact rfl | refine And.intro ?_ ?_ | exact BLe.refl _ | exact VLe.refl _ | exact VLe.any _ | exact VLe.nil_osl rfl | exact VLe.nil_sl rfl | exact VLe.built rfl rfl | (refine VLe.osl rfl ?_; (first | rfl | (simp; done) | assumption | (simp [dsub_eq] <;> omega) | omega)) | exact VLe.rows (by first | rfl | (simp; done) | assumption | (simp [dsub_eq] <;> omega) | omega) (fun _ _ => rfl) | exact VLe.rows (by simp [dsub_eq] <;> omega) rows_take | exact VLe.rows (by simp [dsub_eq] <;> omega) rows_dt | exact VLe.rows (by simp [dsub_eq] <;> omega) rows_vt | exact VLe.rows (by simp) (fun i _ => by simp [viewRow_eq, Nat.add_comm]) | refine VLe.aggL ?_ | (refine BLe.rows rfl ?_ fun _ _ => rfl; (first | rfl | (simp; done) | assumption | (simp [dsub_eq] <;> omega) | omega)) | (refine BLe.rows rfl rfl ?_; first | exact rows_take) | refine BLe.box ?_)
    · replace g3 := ite_f g3 e; clear e
      conv => whnf
      obtain rfl := Option.some.inj g3
      obtain rfl := hy2 _ rfl
      obtain rfl := Option.some.inj h
      refine ⟨⟨0, 33, [(2, .osl 5001 0 (s1.1.length, s1.1).2.length)], [], [(5001, .arr 3 1 (s1.1.length, s1.1).2.length (rows encInt (s1.1.length, s1.1).2))], []⟩, ?_, And.intro rfl ?_⟩
      · refine LE.trans (S' := ⟨0, 33, [(2, .osl 7001 0 (s1.1.length, s1.1).1)], [], [(7001, .arr 3 1 (s1.1.length, s1.1).1 (rows encInt (s1.1.length, s1.1).2))], []⟩) (le_mk ?_ ?_ ?_) (LE.trans (S' := ⟨0, 33, [(2, .osl 5001 0 (s1.1.length, s1.1).1)], [], [(5001, .arr 3 1 (s1.1.length, s1.1).1 (rows encInt (s1.1.length, s1.1).2))], []⟩) (le_swaps [(7001, 5001)] rfl) (le_mk ?_ ?_ ?_)) <;> (repeat' first | ((conv => whnf); first | exact trivial | refine And.intro ?_ ?_ | exact BLe.refl _ | exact VLe.refl _) | exact trivial | exact rfl | refine And.intro ?_ ?_ | exact BLe.refl _ | exact VLe.refl _ | exact VLe.any _ | exact VLe.nil_osl rfl | exact VLe.nil_sl rfl | exact VLe.built rfl rfl | (refine VLe.osl rfl ?_; (first | rfl | (simp; done) | assumption | (simp [dsub_eq] <;> omega) | omega)) | exact VLe.rows (by first | rfl | (simp; done) | assumption | (simp [dsub_eq] <;> omega) | omega) (fun _ _ => rfl) | exact VLe.rows (by simp [dsub_eq] <;> omega) rows_take | exact VLe.rows (by simp [dsub_eq] <;> omega) rows_dt | exact VLe.rows (by simp [dsub_eq] <;> omega) rows_vt | exact VLe.rows (by simp) (fun i _ => by simp [viewRow_eq, Nat.add_comm]) | refine VLe.aggL ?_ | (refine BLe.rows rfl ?_ fun _ _ => rfl; (first | rfl | (simp; done) | assumption | (simp [dsub_eq] <;> omega) | omega)) | (refine BLe.rows rfl rfl ?_; first | exact rows_take) | refine BLe.box ?_)
      · exact And.intro (And.intro rfl (And.intro rfl (fun _ _ => rfl))) (trivial)

noncomputable def impl_TreePasses_m (a0 : TreeWorld) : Option ((List Int)) :=
 bd (impl_TreeWorldOk_m a0) fun x1 =>
(if (!x1) = true then
 some []
else
 bd (impl_TreeWorld_passes_m a0) fun x2 =>
 some x2)

theorem impl_TreePasses_c {a0 : TreeWorld} {r : (List Int)} (h : impl_TreePasses_m a0 = some r) : PureC Try.prog 14 [.agg [.d (slD TreeBridge.enc a0.Bridges), .d (slD TreeLink.enc a0.Links), .d (slD encInt a0.Down), .d (slD TreeSlot.enc a0.AtA), .d (slD TreeSlot.enc a0.AtB), .d (slD TreeWord.enc a0.Radio)]] (.osl 5001 0 r.length) [⟨5001, 3, 1, r.length, rows encInt r⟩] := by
  refine pureC_m tOk (fn := Try.f14) (c := codeOf Try.f14) rfl rfl (by kernel_rfl) rfl rfl (by simp [atomD]) (by simp) (ids_of rfl) ?_
  unfold impl_TreePasses_m at h
  conv => whnf
  refine seq_in tOk ?_
  conv => whnf
  obtain ⟨x1, hx1, h⟩ := bd_some h
  refine callC 0 (impl_TreeWorldOk_c hx1) (by kernel_rfl) (by kernel_rfl) ?_
  clear hx1
  conv => whnf
  refine And.intro (fun e => ?_) (fun e => ?_)
  · replace h := ite_t h e; clear e
    conv => whnf
    obtain rfl := Option.some.inj h
    refine ⟨⟨0, 7, [(2, .osl 5001 0 (([] : List Int).length))], [], [(5001, .arr 3 1 (([] : List Int).length) (rows encInt ([] : List Int)))], []⟩, ?_, And.intro rfl ?_⟩
    · refine LE.trans (S' := ⟨0, 7, [(2, .d (.nil))], [], [], []⟩) (le_mk ?_ ?_ ?_) (LE.trans (S' := ⟨0, 7, [(2, .d (.nil))], [], [(5001, .arr 3 1 (([] : List Int).length) (rows encInt ([] : List Int)))], []⟩) (le_ph 5001 3 1 (rows encInt ([] : List Int)) rfl rfl) (le_mk ?_ ?_ ?_)) <;> (repeat' first | ((conv => whnf); first | exact trivial | refine And.intro ?_ ?_ | exact BLe.refl _ | exact VLe.refl _) | exact trivial | exact rfl | refine And.intro ?_ ?_ | exact BLe.refl _ | exact VLe.refl _ | exact VLe.any _ | exact VLe.nil_osl rfl | exact VLe.nil_sl rfl | exact VLe.built rfl rfl | (refine VLe.osl rfl ?_; (first | rfl | (simp; done) | assumption | (simp [dsub_eq] <;> omega) | omega)) | exact VLe.rows (by first | rfl | (simp; done) | assumption | (simp [dsub_eq] <;> omega) | omega) (fun _ _ => rfl) | exact VLe.rows (by simp [dsub_eq] <;> omega) rows_take | exact VLe.rows (by simp [dsub_eq] <;> omega) rows_dt | exact VLe.rows (by simp [dsub_eq] <;> omega) rows_vt | exact VLe.rows (by simp) (fun i _ => by simp [viewRow_eq, Nat.add_comm]) | refine VLe.aggL ?_ | (refine BLe.rows rfl ?_ fun _ _ => rfl; (first | rfl | (simp; done) | assumption | (simp [dsub_eq] <;> omega) | omega)) | (refine BLe.rows rfl rfl ?_; first | exact rows_take) | refine BLe.box ?_)
    · exact And.intro (And.intro rfl (And.intro rfl (fun _ _ => rfl))) (trivial)
  · replace h := ite_f h e; clear e
    conv => whnf
    obtain ⟨x2, hx2, h⟩ := bd_some h
    refine callC 1000 (impl_TreeWorld_passes_c hx2) (by kernel_rfl) (by kernel_rfl) ?_
    clear hx2
    conv => whnf
    obtain rfl := Option.some.inj h
    refine ⟨⟨0, 7, [(2, .osl 5001 0 x2.length)], [], [(5001, .arr 3 1 x2.length (rows encInt x2))], []⟩, ?_, And.intro rfl ?_⟩
    · refine LE.trans (S' := ⟨0, 7, [(2, .osl 6001 0 x2.length)], [], [(6001, .arr 3 1 x2.length (rows encInt x2))], []⟩) (le_mk ?_ ?_ ?_) (le_swaps [(6001, 5001)] rfl) <;> (repeat' first | ((conv => whnf); first | exact trivial | refine And.intro ?_ ?_ | exact BLe.refl _ | exact VLe.refl _) | exact trivial | exact rfl | refine And.intro ?_ ?_ | exact BLe.refl _ | exact VLe.refl _ | exact VLe.any _ | exact VLe.nil_osl rfl | exact VLe.nil_sl rfl | exact VLe.built rfl rfl | (refine VLe.osl rfl ?_; (first | rfl | (simp; done) | assumption | (simp [dsub_eq] <;> omega) | omega)) | exact VLe.rows (by first | rfl | (simp; done) | assumption | (simp [dsub_eq] <;> omega) | omega) (fun _ _ => rfl) | exact VLe.rows (by simp [dsub_eq] <;> omega) rows_take | exact VLe.rows (by simp [dsub_eq] <;> omega) rows_dt | exact VLe.rows (by simp [dsub_eq] <;> omega) rows_vt | exact VLe.rows (by simp) (fun i _ => by simp [viewRow_eq, Nat.add_comm]) | refine VLe.aggL ?_ | (refine BLe.rows rfl ?_ fun _ _ => rfl; (first | rfl | (simp; done) | assumption | (simp [dsub_eq] <;> omega) | omega)) | (refine BLe.rows rfl rfl ?_; first | exact rows_take) | refine BLe.box ?_)
    · exact And.intro (And.intro rfl (And.intro rfl (fun _ _ => rfl))) (trivial)

noncomputable def impl_TreePasses_fz_m (a0 : TreeWorld) : Option ((List Int)) :=
 bd (impl_TreeWorldOk_m a0) fun x1 =>
(if (!x1) = true then
 some []
else
 bd (impl_TreeWorld_passes_m a0) fun x2 =>
 some x2)

theorem impl_TreePasses_fz_c {a0 : TreeWorld} {r : (List Int)} (h : impl_TreePasses_fz_m a0 = some r) : EffC Try.prog 14 [.agg [.d (slD TreeBridge.enc a0.Bridges), .d (slD TreeLink.enc a0.Links), .d (slD encInt a0.Down), .d (slD TreeSlot.enc a0.AtA), .d (slD TreeSlot.enc a0.AtB), .d (slD TreeWord.enc a0.Radio)]] [] (.d (slD encInt r)) [] := by
  refine effC_m tOk (fn := Try.f14) (c := codeOf Try.f14) rfl rfl (by kernel_rfl) rfl rfl rfl rfl ?_
  unfold impl_TreePasses_fz_m at h
  conv => whnf
  refine seq_in tOk ?_
  conv => whnf
  obtain ⟨x1, hx1, h⟩ := bd_some h
  refine callC 0 (impl_TreeWorldOk_c hx1) (by kernel_rfl) (by kernel_rfl) ?_
  clear hx1
  conv => whnf
  refine And.intro (fun e => ?_) (fun e => ?_)
  · replace h := ite_t h e; clear e
    conv => whnf
    obtain rfl := Option.some.inj h
    refine ⟨⟨0, 7, [(2, .d (slD encInt ([] : List Int)))], [], [], [⟨[], []⟩]⟩, ?_, And.intro rfl (And.intro ?_ ?_)⟩
    · refine LE.trans (S' := ⟨0, 7, [(2, .d (.nil))], [], [], [⟨[], []⟩]⟩) (le_mk ?_ ?_ ?_) (le_mk ?_ ?_ ?_) <;> (repeat' first | ((conv => whnf); first | exact trivial | refine And.intro ?_ ?_ | exact BLe.refl _ | exact VLe.refl _) | exact trivial | exact rfl | refine And.intro ?_ ?_ | exact BLe.refl _ | exact VLe.refl _ | exact VLe.any _ | exact VLe.nil_osl rfl | exact VLe.nil_sl rfl | exact VLe.built rfl rfl | (refine VLe.osl rfl ?_; (first | rfl | (simp; done) | assumption | (simp [dsub_eq] <;> omega) | omega)) | exact VLe.rows (by first | rfl | (simp; done) | assumption | (simp [dsub_eq] <;> omega) | omega) (fun _ _ => rfl) | exact VLe.rows (by simp [dsub_eq] <;> omega) rows_take | exact VLe.rows (by simp [dsub_eq] <;> omega) rows_dt | exact VLe.rows (by simp [dsub_eq] <;> omega) rows_vt | exact VLe.rows (by simp) (fun i _ => by simp [viewRow_eq, Nat.add_comm]) | refine VLe.aggL ?_ | (refine BLe.rows rfl ?_ fun _ _ => rfl; (first | rfl | (simp; done) | assumption | (simp [dsub_eq] <;> omega) | omega)) | (refine BLe.rows rfl rfl ?_; first | exact rows_take) | refine BLe.box ?_)
    · (repeat' first | ((conv => whnf); first | exact trivial | refine And.intro ?_ ?_ | exact BLe.refl _ | exact VLe.refl _) | exact trivial | exact rfl | refine And.intro ?_ ?_ | exact BLe.refl _ | exact VLe.refl _ | exact VLe.any _ | exact VLe.nil_osl rfl | exact VLe.nil_sl rfl | exact VLe.built rfl rfl | (refine VLe.osl rfl ?_; (first | rfl | (simp; done) | assumption | (simp [dsub_eq] <;> omega) | omega)) | exact VLe.rows (by first | rfl | (simp; done) | assumption | (simp [dsub_eq] <;> omega) | omega) (fun _ _ => rfl) | exact VLe.rows (by simp [dsub_eq] <;> omega) rows_take | exact VLe.rows (by simp [dsub_eq] <;> omega) rows_dt | exact VLe.rows (by simp [dsub_eq] <;> omega) rows_vt | exact VLe.rows (by simp) (fun i _ => by simp [viewRow_eq, Nat.add_comm]) | refine VLe.aggL ?_ | (refine BLe.rows rfl ?_ fun _ _ => rfl; (first | rfl | (simp; done) | assumption | (simp [dsub_eq] <;> omega) | omega)) | refine BLe.box ?_ | (simp; done))
    · (repeat' first | ((conv => whnf); first | exact trivial | refine And.intro ?_ ?_ | exact BLe.refl _ | exact VLe.refl _) | exact trivial | exact rfl | refine And.intro ?_ ?_ | exact BLe.refl _ | exact VLe.refl _ | exact VLe.any _ | exact VLe.nil_osl rfl | exact VLe.nil_sl rfl | exact VLe.built rfl rfl | (refine VLe.osl rfl ?_; (first | rfl | (simp; done) | assumption | (simp [dsub_eq] <;> omega) | omega)) | exact VLe.rows (by first | rfl | (simp; done) | assumption | (simp [dsub_eq] <;> omega) | omega) (fun _ _ => rfl) | exact VLe.rows (by simp [dsub_eq] <;> omega) rows_take | exact VLe.rows (by simp [dsub_eq] <;> omega) rows_dt | exact VLe.rows (by simp [dsub_eq] <;> omega) rows_vt | exact VLe.rows (by simp) (fun i _ => by simp [viewRow_eq, Nat.add_comm]) | refine VLe.aggL ?_ | (refine BLe.rows rfl ?_ fun _ _ => rfl; (first | rfl | (simp; done) | assumption | (simp [dsub_eq] <;> omega) | omega)) | refine BLe.box ?_ | (simp; done))
  · replace h := ite_f h e; clear e
    conv => whnf
    obtain ⟨x2, hx2, h⟩ := bd_some h
    refine callC 1000 (impl_TreeWorld_passes_c hx2) (by kernel_rfl) (by kernel_rfl) ?_
    clear hx2
    conv => whnf
    obtain rfl := Option.some.inj h
    refine ⟨⟨0, 7, [(2, .d (slD encInt x2))], [], [], [⟨[], []⟩]⟩, ?_, And.intro rfl (And.intro ?_ ?_)⟩
    · refine LE.trans (S' := ⟨0, 7, [(2, .osl 6001 0 x2.length)], [], [(6001, .arr 3 1 x2.length (rows encInt x2))], [⟨[], []⟩]⟩) (le_mk ?_ ?_ ?_) (le_frzs [6001] rfl) <;> (repeat' first | ((conv => whnf); first | exact trivial | refine And.intro ?_ ?_ | exact BLe.refl _ | exact VLe.refl _) | exact trivial | exact rfl | refine And.intro ?_ ?_ | exact BLe.refl _ | exact VLe.refl _ | exact VLe.any _ | exact VLe.nil_osl rfl | exact VLe.nil_sl rfl | exact VLe.built rfl rfl | (refine VLe.osl rfl ?_; (first | rfl | (simp; done) | assumption | (simp [dsub_eq] <;> omega) | omega)) | exact VLe.rows (by first | rfl | (simp; done) | assumption | (simp [dsub_eq] <;> omega) | omega) (fun _ _ => rfl) | exact VLe.rows (by simp [dsub_eq] <;> omega) rows_take | exact VLe.rows (by simp [dsub_eq] <;> omega) rows_dt | exact VLe.rows (by simp [dsub_eq] <;> omega) rows_vt | exact VLe.rows (by simp) (fun i _ => by simp [viewRow_eq, Nat.add_comm]) | refine VLe.aggL ?_ | (refine BLe.rows rfl ?_ fun _ _ => rfl; (first | rfl | (simp; done) | assumption | (simp [dsub_eq] <;> omega) | omega)) | (refine BLe.rows rfl rfl ?_; first | exact rows_take) | refine BLe.box ?_)
    · (repeat' first | ((conv => whnf); first | exact trivial | refine And.intro ?_ ?_ | exact BLe.refl _ | exact VLe.refl _) | exact trivial | exact rfl | refine And.intro ?_ ?_ | exact BLe.refl _ | exact VLe.refl _ | exact VLe.any _ | exact VLe.nil_osl rfl | exact VLe.nil_sl rfl | exact VLe.built rfl rfl | (refine VLe.osl rfl ?_; (first | rfl | (simp; done) | assumption | (simp [dsub_eq] <;> omega) | omega)) | exact VLe.rows (by first | rfl | (simp; done) | assumption | (simp [dsub_eq] <;> omega) | omega) (fun _ _ => rfl) | exact VLe.rows (by simp [dsub_eq] <;> omega) rows_take | exact VLe.rows (by simp [dsub_eq] <;> omega) rows_dt | exact VLe.rows (by simp [dsub_eq] <;> omega) rows_vt | exact VLe.rows (by simp) (fun i _ => by simp [viewRow_eq, Nat.add_comm]) | refine VLe.aggL ?_ | (refine BLe.rows rfl ?_ fun _ _ => rfl; (first | rfl | (simp; done) | assumption | (simp [dsub_eq] <;> omega) | omega)) | refine BLe.box ?_ | (simp; done))
    · (repeat' first | ((conv => whnf); first | exact trivial | refine And.intro ?_ ?_ | exact BLe.refl _ | exact VLe.refl _) | exact trivial | exact rfl | refine And.intro ?_ ?_ | exact BLe.refl _ | exact VLe.refl _ | exact VLe.any _ | exact VLe.nil_osl rfl | exact VLe.nil_sl rfl | exact VLe.built rfl rfl | (refine VLe.osl rfl ?_; (first | rfl | (simp; done) | assumption | (simp [dsub_eq] <;> omega) | omega)) | exact VLe.rows (by first | rfl | (simp; done) | assumption | (simp [dsub_eq] <;> omega) | omega) (fun _ _ => rfl) | exact VLe.rows (by simp [dsub_eq] <;> omega) rows_take | exact VLe.rows (by simp [dsub_eq] <;> omega) rows_dt | exact VLe.rows (by simp [dsub_eq] <;> omega) rows_vt | exact VLe.rows (by simp) (fun i _ => by simp [viewRow_eq, Nat.add_comm]) | refine VLe.aggL ?_ | (refine BLe.rows rfl ?_ fun _ _ => rfl; (first | rfl | (simp; done) | assumption | (simp [dsub_eq] <;> omega) | omega)) | refine BLe.box ?_ | (simp; done))

noncomputable def impl_TreeOpenWorld_fz_m (a0 : (List Int)) (a1 : (List TreeLink)) : Option (TreeWorld × Bool) :=
 bd (impl_TreeLinksOk_m ((a0.length : Nat) : Int) a1) fun x1 =>
(if (!x1) = true then
 some ((⟨[], [], [], [], [], []⟩ : TreeWorld), false)
else
 bd (impl_clone_TreeLink_m a1) fun x2 =>
 gd ((0 : Int) ≤ ((a1.length : Nat) : Int) ∧ ((a1.length : Nat) : Int) ≤ ((a1.length : Nat) : Int) ∧ ((a1.length : Nat) : Int) * 32 ≤ 140737488355328 ∧ ((a1.length : Nat) : Int) ≤ 140737488355328) <|
 gd ((0 : Int) ≤ ((a1.length : Nat) : Int) ∧ ((a1.length : Nat) : Int) ≤ ((a1.length : Nat) : Int) ∧ ((a1.length : Nat) : Int) * 32 ≤ 140737488355328 ∧ ((a1.length : Nat) : Int) ≤ 140737488355328) <|
 bd (lp (σ := List TreeBridge × Int) (β := ((List TreeBridge) × Nat)) (fun s5 =>
(if (decide (s5.2 < ((a0.length : Nat) : Int))) = true then
 gd ((0 : Int) ≤ s5.2 ∧ s5.2 < ((a0.length : Nat) : Int)) <|
 bd (impl_selfMind_m (a0.getD s5.2.toNat default)) fun x10 =>
 gd (((s5.1.length) + (([(⟨(a0.getD s5.2.toNat default), true, x10⟩ : TreeBridge)] : List TreeBridge).length)) * (48 + 1) ≤ 70368744177664) <|
 some (.inl ((s5.1 ++ ([(⟨(a0.getD s5.2.toNat default), true, x10⟩ : TreeBridge)] : List TreeBridge)), IntKind.i64.wrap (s5.2 + 1)))
else
 some (.inr (s5.1, s5.1.length)))) (([] : List TreeBridge), 0)) fun x8 =>
 bd (impl_TreeWorldOk_m (⟨x8.1, x2, [], (List.replicate (((a1.length : Nat) : Int) : Int).toNat (default : TreeSlot)), (List.replicate (((a1.length : Nat) : Int) : Int).toNat (default : TreeSlot)), []⟩ : TreeWorld)) fun x13 =>
(if (!x13) = true then
 some ((⟨[], [], [], [], [], []⟩ : TreeWorld), false)
else
 some ((⟨x8.1, x2, [], (List.replicate (((a1.length : Nat) : Int) : Int).toNat (default : TreeSlot)), (List.replicate (((a1.length : Nat) : Int) : Int).toNat (default : TreeSlot)), []⟩ : TreeWorld), true)))

theorem impl_TreeOpenWorld_fz_c {a0 : (List Int)} {a1 : (List TreeLink)} {r : TreeWorld × Bool} (h : impl_TreeOpenWorld_fz_m a0 a1 = some r) : EffC Try.prog 10 [.d (slD encInt a0), .d (slD TreeLink.enc a1)] [] (.tup [.agg [.d (slD TreeBridge.enc r.1.Bridges), .d (slD TreeLink.enc r.1.Links), .d (slD encInt r.1.Down), .d (slD TreeSlot.enc r.1.AtA), .d (slD TreeSlot.enc r.1.AtB), .d (slD TreeWord.enc r.1.Radio)], .d (.bool r.2)]) [] := by
  refine effC_m tOk (fn := Try.f10) (c := codeOf Try.f10) rfl rfl (by kernel_rfl) rfl rfl rfl rfl ?_
  unfold impl_TreeOpenWorld_fz_m at h
  conv => whnf
  refine seq_in tOk ?_
  conv => whnf
  obtain ⟨x1, hx1, h⟩ := bd_some h
  refine callC 0 (impl_TreeLinksOk_c hx1) (by kernel_rfl) (by kernel_rfl) ?_
  clear hx1
  conv => whnf
  refine And.intro (fun e => ?_) (fun e => ?_)
  · replace h := ite_t h e; clear e
    conv => whnf
    obtain rfl := Option.some.inj h
    refine ⟨⟨0, 45, [(4, .ref 4 0 0), (5, .d (.bool false))], [], [(4, .box 31 [.d (slD TreeBridge.enc ([] : List TreeBridge)), .d (slD TreeLink.enc ([] : List TreeLink)), .d (slD encInt ([] : List Int)), .d (slD TreeSlot.enc ([] : List TreeSlot)), .d (slD TreeSlot.enc ([] : List TreeSlot)), .d (slD TreeWord.enc ([] : List TreeWord))])], [⟨[], []⟩]⟩, ?_, And.intro rfl (And.intro ?_ ?_)⟩
    · refine LE.trans (S' := ⟨0, 45, [(4, .ref 4 0 0), (5, .d (.bool false))], [], [(4, .box 31 [.d (.nil), .d (.nil), .d (.nil), .d (.nil), .d (.nil), .d (.nil)])], [⟨[], []⟩]⟩) (le_mk ?_ ?_ ?_) (le_mk ?_ ?_ ?_) <;> (repeat' first | ((conv => whnf); first | exact trivial | refine And.intro ?_ ?_ | exact BLe.refl _ | exact VLe.refl _) | exact trivial | exact rfl | refine And.intro ?_ ?_ | exact BLe.refl _ | exact VLe.refl _ | exact VLe.any _ | exact VLe.nil_osl rfl | exact VLe.nil_sl rfl | exact VLe.built rfl rfl | (refine VLe.osl rfl ?_; (first | rfl | (simp; done) | assumption | (simp [dsub_eq] <;> omega) | omega)) | exact VLe.rows (by first | rfl | (simp; done) | assumption | (simp [dsub_eq] <;> omega) | omega) (fun _ _ => rfl) | exact VLe.rows (by simp [dsub_eq] <;> omega) rows_take | exact VLe.rows (by simp [dsub_eq] <;> omega) rows_dt | exact VLe.rows (by simp [dsub_eq] <;> omega) rows_vt | exact VLe.rows (by simp) (fun i _ => by simp [viewRow_eq, Nat.add_comm]) | refine VLe.aggL ?_ | (refine BLe.rows rfl ?_ fun _ _ => rfl; (first | rfl | (simp; done) | assumption | (simp [dsub_eq] <;> omega) | omega)) | (refine BLe.rows rfl rfl ?_; first | exact rows_take) | refine BLe.box ?_)
    · (repeat' first | ((conv => whnf); first | exact trivial | refine And.intro ?_ ?_ | exact BLe.refl _ | exact VLe.refl _) | exact trivial | exact rfl | refine And.intro ?_ ?_ | exact BLe.refl _ | exact VLe.refl _ | exact VLe.any _ | exact VLe.nil_osl rfl | exact VLe.nil_sl rfl | exact VLe.built rfl rfl | (refine VLe.osl rfl ?_; (first | rfl | (simp; done) | assumption | (simp [dsub_eq] <;> omega) | omega)) | exact VLe.rows (by first | rfl | (simp; done) | assumption | (simp [dsub_eq] <;> omega) | omega) (fun _ _ => rfl) | exact VLe.rows (by simp [dsub_eq] <;> omega) rows_take | exact VLe.rows (by simp [dsub_eq] <;> omega) rows_dt | exact VLe.rows (by simp [dsub_eq] <;> omega) rows_vt | exact VLe.rows (by simp) (fun i _ => by simp [viewRow_eq, Nat.add_comm]) | refine VLe.aggL ?_ | (refine BLe.rows rfl ?_ fun _ _ => rfl; (first | rfl | (simp; done) | assumption | (simp [dsub_eq] <;> omega) | omega)) | refine BLe.box ?_ | (simp; done))
    · (repeat' first | ((conv => whnf); first | exact trivial | refine And.intro ?_ ?_ | exact BLe.refl _ | exact VLe.refl _) | exact trivial | exact rfl | refine And.intro ?_ ?_ | exact BLe.refl _ | exact VLe.refl _ | exact VLe.any _ | exact VLe.nil_osl rfl | exact VLe.nil_sl rfl | exact VLe.built rfl rfl | (refine VLe.osl rfl ?_; (first | rfl | (simp; done) | assumption | (simp [dsub_eq] <;> omega) | omega)) | exact VLe.rows (by first | rfl | (simp; done) | assumption | (simp [dsub_eq] <;> omega) | omega) (fun _ _ => rfl) | exact VLe.rows (by simp [dsub_eq] <;> omega) rows_take | exact VLe.rows (by simp [dsub_eq] <;> omega) rows_dt | exact VLe.rows (by simp [dsub_eq] <;> omega) rows_vt | exact VLe.rows (by simp) (fun i _ => by simp [viewRow_eq, Nat.add_comm]) | refine VLe.aggL ?_ | (refine BLe.rows rfl ?_ fun _ _ => rfl; (first | rfl | (simp; done) | assumption | (simp [dsub_eq] <;> omega) | omega)) | refine BLe.box ?_ | (simp; done))
  · replace h := ite_f h e; clear e
    conv => whnf
    obtain ⟨x2, hx2, h⟩ := bd_some h
    obtain ⟨g3, h⟩ := gd_some h
    obtain ⟨g4, h⟩ := gd_some h
    refine draw_k tOk (by kernel_rfl) (fun j => match j with | 1 => some (.pure 1000 (.osl 5001 0 x2.length) [⟨5001, 70, 3, x2.length, rows TreeLink.enc x2⟩]) | _ => none) 10 [] [[], [true], [], [false, false, true], [false, false, true, true], [], [false, false, false, false, false, true], [false, false, false, false, false, true, true], [true, true, true, true, true, true, true, true], []] [[true, true, true, true, true, true, true, true, true, true]] (by decide) (by kernel_rfl) (by kernel_rfl) ?_
    conv => whnf
    refine And.intro (callD_any (impl_clone_TreeLink_c hx2) (by kernel_rfl)) ?_
    conv => whnf
    refine And.intro g3 ?_
    clear g3
    refine ⟨(List.replicate (((a1.length : Nat) : Int) : Int).toNat (default : TreeSlot)).length, rows TreeSlot.enc (List.replicate (((a1.length : Nat) : Int) : Int).toNat (default : TreeSlot)), by simp, make_rows rfl, ?_⟩
    conv => whnf
    refine And.intro g4 ?_
    clear g4
    refine ⟨(List.replicate (((a1.length : Nat) : Int) : Int).toNat (default : TreeSlot)).length, rows TreeSlot.enc (List.replicate (((a1.length : Nat) : Int) : Int).toNat (default : TreeSlot)), by simp, make_rows rfl, ?_⟩
    conv => whnf
    refine And.intro (by kernel_rfl) ?_
    conv => whnf
    refine seq_in tOk ?_
    conv => whnf
    obtain ⟨x8, hx8, h⟩ := bd_some h
    refine loop_m tOk hx8 (fun s5 => ⟨0, 45, [(4, .ref 4 0 0), (6, .ref 6 0 0), (24, .d (slD encInt a0)), (25, .d (.int .i64 ((a0.length : Nat) : Int))), (26, .d (.int .i64 s5.2))], [], [(7001, .arr 74 6 s5.1.length (rows TreeBridge.enc s5.1)), (6, .box 31 [.osl 7001 0 s5.1.length, .osl 6001 0 x2.length, .d (.nil), .osl 19 0 ((List.replicate (((a1.length : Nat) : Int) : Int).toNat (default : TreeSlot)).length), .osl 22 0 ((List.replicate (((a1.length : Nat) : Int) : Int).toNat (default : TreeSlot)).length), .d (.nil)]), (22, .arr 112 4 ((List.replicate (((a1.length : Nat) : Int) : Int).toNat (default : TreeSlot)).length) (rows TreeSlot.enc (List.replicate (((a1.length : Nat) : Int) : Int).toNat (default : TreeSlot)))), (19, .arr 112 4 ((List.replicate (((a1.length : Nat) : Int) : Int).toNat (default : TreeSlot)).length) (rows TreeSlot.enc (List.replicate (((a1.length : Nat) : Int) : Int).toNat (default : TreeSlot)))), (6001, .arr 70 3 x2.length (rows TreeLink.enc x2)), (4, .box 31 [.d (.nil), .d (.nil), .d (.nil), .d (.nil), .d (.nil), .d (.nil)])], [⟨[], []⟩]⟩) ?_ ?_
    · refine LE.trans (S' := ⟨0, 45, [(4, .ref 4 0 0), (6, .ref 6 0 0), (24, .d (slD encInt a0)), (25, .d (.int .i64 ((a0.length : Nat) : Int))), (26, .d (.int .i64 0))], [], [(6, .box 31 [.d (.nil), .osl 6001 0 x2.length, .d (.nil), .osl 19 0 ((List.replicate (((a1.length : Nat) : Int) : Int).toNat (default : TreeSlot)).length), .osl 22 0 ((List.replicate (((a1.length : Nat) : Int) : Int).toNat (default : TreeSlot)).length), .d (.nil)]), (22, .arr 112 4 ((List.replicate (((a1.length : Nat) : Int) : Int).toNat (default : TreeSlot)).length) (rows TreeSlot.enc (List.replicate (((a1.length : Nat) : Int) : Int).toNat (default : TreeSlot)))), (19, .arr 112 4 ((List.replicate (((a1.length : Nat) : Int) : Int).toNat (default : TreeSlot)).length) (rows TreeSlot.enc (List.replicate (((a1.length : Nat) : Int) : Int).toNat (default : TreeSlot)))), (6001, .arr 70 3 x2.length (rows TreeLink.enc x2)), (4, .box 31 [.d (.nil), .d (.nil), .d (.nil), .d (.nil), .d (.nil), .d (.nil)])], [⟨[], []⟩]⟩) (le_mk ?_ ?_ ?_) (LE.trans (S' := ⟨0, 45, [(4, .ref 4 0 0), (6, .ref 6 0 0), (24, .d (slD encInt a0)), (25, .d (.int .i64 ((a0.length : Nat) : Int))), (26, .d (.int .i64 0))], [], [(7001, .arr 74 6 (([] : List TreeBridge).length) (rows TreeBridge.enc ([] : List TreeBridge))), (6, .box 31 [.d (.nil), .osl 6001 0 x2.length, .d (.nil), .osl 19 0 ((List.replicate (((a1.length : Nat) : Int) : Int).toNat (default : TreeSlot)).length), .osl 22 0 ((List.replicate (((a1.length : Nat) : Int) : Int).toNat (default : TreeSlot)).length), .d (.nil)]), (22, .arr 112 4 ((List.replicate (((a1.length : Nat) : Int) : Int).toNat (default : TreeSlot)).length) (rows TreeSlot.enc (List.replicate (((a1.length : Nat) : Int) : Int).toNat (default : TreeSlot)))), (19, .arr 112 4 ((List.replicate (((a1.length : Nat) : Int) : Int).toNat (default : TreeSlot)).length) (rows TreeSlot.enc (List.replicate (((a1.length : Nat) : Int) : Int).toNat (default : TreeSlot)))), (6001, .arr 70 3 x2.length (rows TreeLink.enc x2)), (4, .box 31 [.d (.nil), .d (.nil), .d (.nil), .d (.nil), .d (.nil), .d (.nil)])], [⟨[], []⟩]⟩) (le_ph 7001 74 6 (rows TreeBridge.enc ([] : List TreeBridge)) rfl rfl) (le_mk ?_ ?_ ?_)) <;> (repeat' first | ((conv => whnf); first | exact trivial | refine And.intro ?_ ?_ | exact BLe.refl _ | exact VLe.refl _) | exact trivial | exact rfl | refine And.intro ?_ ?_ | exact BLe.refl _ | exact VLe.refl _ | exact VLe.any _ | exact VLe.nil_osl rfl | exact VLe.nil_sl rfl | exact VLe.built rfl rfl | (refine VLe.osl rfl ?_; (first | rfl | (simp; done) | assumption | (simp [dsub_eq] <;> omega) | omega)) | exact VLe.rows (by first | rfl | (simp; done) | assumption | (simp [dsub_eq] <;> omega) | omega) (fun _ _ => rfl) | exact VLe.rows (by simp [dsub_eq] <;> omega) rows_take | exact VLe.rows (by simp [dsub_eq] <;> omega) rows_dt | exact VLe.rows (by simp [dsub_eq] <;> omega) rows_vt | exact VLe.rows (by simp) (fun i _ => by simp [viewRow_eq, Nat.add_comm]) | refine VLe.aggL ?_ | (refine BLe.rows rfl ?_ fun _ _ => rfl; (first | rfl | (simp; done) | assumption | (simp [dsub_eq] <;> omega) | omega)) | (refine BLe.rows rfl rfl ?_; first | exact rows_take) | refine BLe.box ?_)
    · clear hx8
      intro s5 y6 g7 hy6
      conv => whnf
      refine seq_in tOk ?_
      conv => whnf
      refine And.intro (fun e => ?_) (fun e => ?_)
      · replace g7 := ite_t g7 e; clear e
        conv => whnf
        refine seq_in tOk ?_
        conv => whnf
        obtain ⟨g9, g7⟩ := gd_some g7
        refine And.intro g9 ?_
        clear g9
        conv => whnf
        obtain ⟨x10, hx10, g7⟩ := bd_some g7
        refine draw_k tOk (by kernel_rfl) (fun j => match j with | 4 => some (.pure 0 (.agg [.d (.int .i64 x10.Vector.Root), .d (.int .i64 x10.Vector.Cost), .d (.int .i64 x10.Vector.Age), .d (.int .i64 x10.Link)]) []) | _ => none) 7 [] [[], [true], [], [], [false, false, false, true], [false, false, true, true, true], [false, false, true, true, true, true]] [[true, true, true, true, true, true, true], [true, true, true, true, true, true, true, true], [true, true, true, true, true, true, true, true, true]] (by decide) (by kernel_rfl) (by kernel_rfl) ?_
        conv => whnf
        refine And.intro (callD_any (impl_selfMind_c hx10) (by kernel_rfl)) ?_
        conv => whnf
        refine ⟨([(⟨(a0.getD s5.2.toNat default), true, x10⟩ : TreeBridge)] : List TreeBridge).length, rows TreeBridge.enc ([(⟨(a0.getD s5.2.toNat default), true, x10⟩ : TreeBridge)] : List TreeBridge), rfl, build_rows, ?_⟩
        conv => whnf
        refine And.intro (by kernel_rfl) ?_
        conv => whnf
        obtain ⟨g11, g7⟩ := gd_some g7
        refine And.intro g11 ?_
        clear g11
        refine ⟨(s5.1 ++ ([(⟨(a0.getD s5.2.toNat default), true, x10⟩ : TreeBridge)] : List TreeBridge)).length, rows TreeBridge.enc (s5.1 ++ ([(⟨(a0.getD s5.2.toNat default), true, x10⟩ : TreeBridge)] : List TreeBridge)), (by first | rfl | (simp; done) | assumption | (simp [dsub_eq] <;> omega) | omega), (by first | exact app_rows (m := ([(⟨(a0.getD s5.2.toNat default), true, x10⟩ : TreeBridge)] : List TreeBridge).length) (by first | rfl | (simp; done) | assumption | (simp [dsub_eq] <;> omega) | omega) (by first | rfl | (simp; done) | assumption | (simp [dsub_eq] <;> omega) | omega) (fun _ _ => rfl) (fun _ _ => rfl) | exact app_rows0 (m := ([(⟨(a0.getD s5.2.toNat default), true, x10⟩ : TreeBridge)] : List TreeBridge).length) (by first | rfl | (simp; done) | assumption | (simp [dsub_eq] <;> omega) | omega) (fun _ _ => rfl) | exact app_rows (m := ([(⟨(a0.getD s5.2.toNat default), true, x10⟩ : TreeBridge)] : List TreeBridge).length) (by first | rfl | (simp; done) | assumption | (simp [dsub_eq] <;> omega) | omega) (by first | rfl | (simp; done) | assumption | (simp [dsub_eq] <;> omega) | omega) (by first | exact fun _ _ => rfl | exact rows_take | (intro i hi; simp only [viewRow_eq, addOff_eq, Int.toNat_zero, Nat.zero_add, Nat.add_zero]; exact rows_take i hi) | exact rows_vt | exact rows_dt | (intro i hi; simp only [viewRow_eq, Nat.zero_add]) | (intro i hi; simp [viewRow_eq])) (by first | exact fun _ _ => rfl | exact rows_take | (intro i hi; simp only [viewRow_eq, addOff_eq, Int.toNat_zero, Nat.zero_add, Nat.add_zero]; exact rows_take i hi) | exact rows_vt | exact rows_dt | (intro i hi; simp only [viewRow_eq, Nat.zero_add]) | (intro i hi; simp [viewRow_eq])) | exact app_rows0 (m := ([(⟨(a0.getD s5.2.toNat default), true, x10⟩ : TreeBridge)] : List TreeBridge).length) (by first | rfl | (simp; done) | assumption | (simp [dsub_eq] <;> omega) | omega) (by first | exact fun _ _ => rfl | exact rows_take | (intro i hi; simp only [viewRow_eq, addOff_eq, Int.toNat_zero, Nat.zero_add, Nat.add_zero]; exact rows_take i hi) | exact rows_vt | exact rows_dt | (intro i hi; simp only [viewRow_eq, Nat.zero_add]) | (intro i hi; simp [viewRow_eq]))), ?_⟩
        conv => whnf
        obtain rfl := Option.some.inj g7
        refine ⟨_, rfl, le_mk ?_ ?_ ?_⟩ <;> (repeat' first | ((conv => whnf); first | exact trivial | refine And.intro ?_ ?_ | exact BLe.refl _ | exact VLe.refl _) | exact trivial | exact rfl | refine And.intro ?_ ?_ | exact BLe.refl _ | exact VLe.refl _ | exact VLe.any _ | exact VLe.nil_osl rfl | exact VLe.nil_sl rfl | exact VLe.built rfl rfl | (refine VLe.osl rfl ?_; (first | rfl | (simp; done) | assumption | (simp [dsub_eq] <;> omega) | omega)) | exact VLe.rows (by first | rfl | (simp; done) | assumption | (simp [dsub_eq] <;> omega) | omega) (fun _ _ => rfl) | exact VLe.rows (by simp [dsub_eq] <;> omega) rows_take | exact VLe.rows (by simp [dsub_eq] <;> omega) rows_dt | exact VLe.rows (by simp [dsub_eq] <;> omega) rows_vt | exact VLe.rows (by simp) (fun i _ => by simp [viewRow_eq, Nat.add_comm]) | refine VLe.aggL ?_ | (refine BLe.rows rfl ?_ fun _ _ => rfl; (first | rfl | (simp; done) | assumption | (simp [dsub_eq] <;> omega) | omega)) | (refine BLe.rows rfl rfl ?_; first | exact rows_take) | refine BLe.box ?_)
      · replace g7 := ite_f g7 e; clear e
        conv => whnf
        obtain rfl := Option.some.inj g7
        obtain rfl := hy6 _ rfl
        refine seq_in tOk ?_
        conv => whnf
        obtain ⟨x13, hx13, h⟩ := bd_some h
        refine callW (args1 := [.agg [.d (.sl (s5.1, s5.1.length).2 (rows TreeBridge.enc (s5.1, s5.1.length).1)), .d (slD TreeLink.enc x2), .d (.nil), .d (slD TreeSlot.enc (List.replicate (((a1.length : Nat) : Int) : Int).toNat (default : TreeSlot))), .d (slD TreeSlot.enc (List.replicate (((a1.length : Nat) : Int) : Int).toNat (default : TreeSlot))), .d (.nil)]]) 0 (impl_TreeWorldOk_c hx13) (by kernel_rfl) (by (repeat' first | ((conv => whnf); first | exact trivial | refine And.intro ?_ ?_ | exact BLe.refl _ | exact VLe.refl _) | exact trivial | refine And.intro ?_ ?_ | exact VLe.refl _ | exact VLe.any _ | exact VLe.nil_osl rfl | exact VLe.nil_sl rfl | exact VLe.built rfl rfl | (refine VLe.osl rfl ?_; (first | rfl | (simp; done) | assumption | (simp [dsub_eq] <;> omega) | omega)) | exact VLe.rows (by first | rfl | (simp; done) | assumption | (simp [dsub_eq] <;> omega) | omega) (fun _ _ => rfl) | exact VLe.rows (by simp [dsub_eq] <;> omega) rows_take | exact VLe.rows (by simp [dsub_eq] <;> omega) rows_dt | exact VLe.rows (by simp [dsub_eq] <;> omega) rows_vt | exact VLe.rows (by simp) (fun i _ => by simp [viewRow_eq, Nat.add_comm]) | refine VLe.aggL ?_)) (by kernel_rfl) ?_
        conv => whnf
        refine And.intro (fun e => ?_) (fun e => ?_)
        · replace h := ite_t h e; clear e
          conv => whnf
          obtain rfl := Option.some.inj h
          refine ⟨⟨0, 45, [(4, .ref 4 0 0), (5, .d (.bool false))], [], [(4, .box 31 [.d (slD TreeBridge.enc ([] : List TreeBridge)), .d (slD TreeLink.enc ([] : List TreeLink)), .d (slD encInt ([] : List Int)), .d (slD TreeSlot.enc ([] : List TreeSlot)), .d (slD TreeSlot.enc ([] : List TreeSlot)), .d (slD TreeWord.enc ([] : List TreeWord))])], [⟨[], []⟩]⟩, ?_, And.intro rfl (And.intro ?_ ?_)⟩
          · refine LE.trans (S' := ⟨0, 45, [(4, .ref 4 0 0), (5, .d (.bool false))], [], [(4, .box 31 [.d (.nil), .d (.nil), .d (.nil), .d (.nil), .d (.nil), .d (.nil)])], [⟨[], []⟩]⟩) (le_mk ?_ ?_ ?_) (le_mk ?_ ?_ ?_) <;> (repeat' first | ((conv => whnf); first | exact trivial | refine And.intro ?_ ?_ | exact BLe.refl _ | exact VLe.refl _) | exact trivial | exact rfl | refine And.intro ?_ ?_ | exact BLe.refl _ | exact VLe.refl _ | exact VLe.any _ | exact VLe.nil_osl rfl | exact VLe.nil_sl rfl | exact VLe.built rfl rfl | (refine VLe.osl rfl ?_; (first | rfl | (simp; done) | assumption | (simp [dsub_eq] <;> omega) | omega)) | exact VLe.rows (by first | rfl | (simp; done) | assumption | (simp [dsub_eq] <;> omega) | omega) (fun _ _ => rfl) | exact VLe.rows (by simp [dsub_eq] <;> omega) rows_take | exact VLe.rows (by simp [dsub_eq] <;> omega) rows_dt | exact VLe.rows (by simp [dsub_eq] <;> omega) rows_vt | exact VLe.rows (by simp) (fun i _ => by simp [viewRow_eq, Nat.add_comm]) | refine VLe.aggL ?_ | (refine BLe.rows rfl ?_ fun _ _ => rfl; (first | rfl | (simp; done) | assumption | (simp [dsub_eq] <;> omega) | omega)) | (refine BLe.rows rfl rfl ?_; first | exact rows_take) | refine BLe.box ?_)
          · (repeat' first | ((conv => whnf); first | exact trivial | refine And.intro ?_ ?_ | exact BLe.refl _ | exact VLe.refl _) | exact trivial | exact rfl | refine And.intro ?_ ?_ | exact BLe.refl _ | exact VLe.refl _ | exact VLe.any _ | exact VLe.nil_osl rfl | exact VLe.nil_sl rfl | exact VLe.built rfl rfl | (refine VLe.osl rfl ?_; (first | rfl | (simp; done) | assumption | (simp [dsub_eq] <;> omega) | omega)) | exact VLe.rows (by first | rfl | (simp; done) | assumption | (simp [dsub_eq] <;> omega) | omega) (fun _ _ => rfl) | exact VLe.rows (by simp [dsub_eq] <;> omega) rows_take | exact VLe.rows (by simp [dsub_eq] <;> omega) rows_dt | exact VLe.rows (by simp [dsub_eq] <;> omega) rows_vt | exact VLe.rows (by simp) (fun i _ => by simp [viewRow_eq, Nat.add_comm]) | refine VLe.aggL ?_ | (refine BLe.rows rfl ?_ fun _ _ => rfl; (first | rfl | (simp; done) | assumption | (simp [dsub_eq] <;> omega) | omega)) | refine BLe.box ?_ | (simp; done))
          · (repeat' first | ((conv => whnf); first | exact trivial | refine And.intro ?_ ?_ | exact BLe.refl _ | exact VLe.refl _) | exact trivial | exact rfl | refine And.intro ?_ ?_ | exact BLe.refl _ | exact VLe.refl _ | exact VLe.any _ | exact VLe.nil_osl rfl | exact VLe.nil_sl rfl | exact VLe.built rfl rfl | (refine VLe.osl rfl ?_; (first | rfl | (simp; done) | assumption | (simp [dsub_eq] <;> omega) | omega)) | exact VLe.rows (by first | rfl | (simp; done) | assumption | (simp [dsub_eq] <;> omega) | omega) (fun _ _ => rfl) | exact VLe.rows (by simp [dsub_eq] <;> omega) rows_take | exact VLe.rows (by simp [dsub_eq] <;> omega) rows_dt | exact VLe.rows (by simp [dsub_eq] <;> omega) rows_vt | exact VLe.rows (by simp) (fun i _ => by simp [viewRow_eq, Nat.add_comm]) | refine VLe.aggL ?_ | (refine BLe.rows rfl ?_ fun _ _ => rfl; (first | rfl | (simp; done) | assumption | (simp [dsub_eq] <;> omega) | omega)) | refine BLe.box ?_ | (simp; done))
        · replace h := ite_f h e; clear e
          conv => whnf
          obtain rfl := Option.some.inj h
          refine ⟨⟨0, 45, [(4, .ref 4 0 0), (5, .d (.bool true))], [], [(4, .box 31 [.d (slD TreeBridge.enc (s5.1, s5.1.length).1), .d (slD TreeLink.enc x2), .d (slD encInt ([] : List Int)), .d (slD TreeSlot.enc (List.replicate (((a1.length : Nat) : Int) : Int).toNat (default : TreeSlot))), .d (slD TreeSlot.enc (List.replicate (((a1.length : Nat) : Int) : Int).toNat (default : TreeSlot))), .d (slD TreeWord.enc ([] : List TreeWord))])], [⟨[], []⟩]⟩, ?_, And.intro rfl (And.intro ?_ ?_)⟩
          · refine LE.trans (S' := ⟨0, 45, [(4, .ref 4 0 0), (5, .d (.bool true))], [], [(7001, .arr 74 6 (s5.1, s5.1.length).2 (rows TreeBridge.enc (s5.1, s5.1.length).1)), (22, .arr 112 4 ((List.replicate (((a1.length : Nat) : Int) : Int).toNat (default : TreeSlot)).length) (rows TreeSlot.enc (List.replicate (((a1.length : Nat) : Int) : Int).toNat (default : TreeSlot)))), (19, .arr 112 4 ((List.replicate (((a1.length : Nat) : Int) : Int).toNat (default : TreeSlot)).length) (rows TreeSlot.enc (List.replicate (((a1.length : Nat) : Int) : Int).toNat (default : TreeSlot)))), (6001, .arr 70 3 x2.length (rows TreeLink.enc x2)), (4, .box 31 [.osl 7001 0 (s5.1, s5.1.length).2, .osl 6001 0 x2.length, .d (.nil), .osl 19 0 ((List.replicate (((a1.length : Nat) : Int) : Int).toNat (default : TreeSlot)).length), .osl 22 0 ((List.replicate (((a1.length : Nat) : Int) : Int).toNat (default : TreeSlot)).length), .d (.nil)])], [⟨[], []⟩]⟩) (le_mk ?_ ?_ ?_) (LE.trans (S' := ⟨0, 45, [(4, .ref 4 0 0), (5, .d (.bool true))], [], [(4, .box 31 [.d (slD TreeBridge.enc (s5.1, s5.1.length).1), .d (slD TreeLink.enc x2), .d (.nil), .d (slD TreeSlot.enc (List.replicate (((a1.length : Nat) : Int) : Int).toNat (default : TreeSlot))), .d (slD TreeSlot.enc (List.replicate (((a1.length : Nat) : Int) : Int).toNat (default : TreeSlot))), .d (.nil)])], [⟨[], []⟩]⟩) (le_frzs [19, 22, 6001, 7001] rfl) (le_mk ?_ ?_ ?_)) <;> (repeat' first | ((conv => whnf); first | exact trivial | refine And.intro ?_ ?_ | exact BLe.refl _ | exact VLe.refl _) | exact trivial | exact rfl | refine And.intro ?_ ?_ | exact BLe.refl _ | exact VLe.refl _ | exact VLe.any _ | exact VLe.nil_osl rfl | exact VLe.nil_sl rfl | exact VLe.built rfl rfl | (refine VLe.osl rfl ?_; (first | rfl | (simp; done) | assumption | (simp [dsub_eq] <;> omega) | omega)) | exact VLe.rows (by first | rfl | (simp; done) | assumption | (simp [dsub_eq] <;> omega) | omega) (fun _ _ => rfl) | exact VLe.rows (by simp [dsub_eq] <;> omega) rows_take | exact VLe.rows (by simp [dsub_eq] <;> omega) rows_dt | exact VLe.rows (by simp [dsub_eq] <;> omega) rows_vt | exact VLe.rows (by simp) (fun i _ => by simp [viewRow_eq, Nat.add_comm]) | refine VLe.aggL ?_ | (refine BLe.rows rfl ?_ fun _ _ => rfl; (first | rfl | (simp; done) | assumption | (simp [dsub_eq] <;> omega) | omega)) | (refine BLe.rows rfl rfl ?_; first | exact rows_take) | refine BLe.box ?_)
          · (repeat' first | ((conv => whnf); first | exact trivial | refine And.intro ?_ ?_ | exact BLe.refl _ | exact VLe.refl _) | exact trivial | exact rfl | refine And.intro ?_ ?_ | exact BLe.refl _ | exact VLe.refl _ | exact VLe.any _ | exact VLe.nil_osl rfl | exact VLe.nil_sl rfl | exact VLe.built rfl rfl | (refine VLe.osl rfl ?_; (first | rfl | (simp; done) | assumption | (simp [dsub_eq] <;> omega) | omega)) | exact VLe.rows (by first | rfl | (simp; done) | assumption | (simp [dsub_eq] <;> omega) | omega) (fun _ _ => rfl) | exact VLe.rows (by simp [dsub_eq] <;> omega) rows_take | exact VLe.rows (by simp [dsub_eq] <;> omega) rows_dt | exact VLe.rows (by simp [dsub_eq] <;> omega) rows_vt | exact VLe.rows (by simp) (fun i _ => by simp [viewRow_eq, Nat.add_comm]) | refine VLe.aggL ?_ | (refine BLe.rows rfl ?_ fun _ _ => rfl; (first | rfl | (simp; done) | assumption | (simp [dsub_eq] <;> omega) | omega)) | refine BLe.box ?_ | (simp; done))
          · (repeat' first | ((conv => whnf); first | exact trivial | refine And.intro ?_ ?_ | exact BLe.refl _ | exact VLe.refl _) | exact trivial | exact rfl | refine And.intro ?_ ?_ | exact BLe.refl _ | exact VLe.refl _ | exact VLe.any _ | exact VLe.nil_osl rfl | exact VLe.nil_sl rfl | exact VLe.built rfl rfl | (refine VLe.osl rfl ?_; (first | rfl | (simp; done) | assumption | (simp [dsub_eq] <;> omega) | omega)) | exact VLe.rows (by first | rfl | (simp; done) | assumption | (simp [dsub_eq] <;> omega) | omega) (fun _ _ => rfl) | exact VLe.rows (by simp [dsub_eq] <;> omega) rows_take | exact VLe.rows (by simp [dsub_eq] <;> omega) rows_dt | exact VLe.rows (by simp [dsub_eq] <;> omega) rows_vt | exact VLe.rows (by simp) (fun i _ => by simp [viewRow_eq, Nat.add_comm]) | refine VLe.aggL ?_ | (refine BLe.rows rfl ?_ fun _ _ => rfl; (first | rfl | (simp; done) | assumption | (simp [dsub_eq] <;> omega) | omega)) | refine BLe.box ?_ | (simp; done))

end Go.Proofs.Ytbolhcpkpncmfaa
