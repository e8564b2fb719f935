/-
  What some of the program's functions compute: their models, and that the functions compute these; no condition.
-/
import Derived.Test.YtgjmgdncckdgoaaTyz
import Derived.Test.YtgjmgdncckdgoaaTbz
import Derived.Test.YtgjmgdncckdgoaaKz1
set_option linter.all false
namespace Go.Proofs.Ytgjmgdncckdgoaa
open Go Go.Ab
set_option maxRecDepth 100000
set_option maxHeartbeats 1000000
noncomputable def spec_NatBookOk_m (a0 : NatBook) : Option (Bool) :=
 bd (spec_l22Frame_m a0) fun x1 =>
 bd (gcall (x1 = true) (spec_l22Doors_m a0)) fun x2 =>
 bd (gcall ((x1 && x2) = true) (spec_l22Entries_m a0)) fun x3 =>
 some ((x1 && x2) && x3)

theorem spec_NatBookOk_c {a0 : NatBook} {r : Bool} (h : spec_NatBookOk_m a0 = some r) : PureC Try.prog 14 [.agg [.d (.int .i64 a0.Addr), .d (.int .i64 a0.Len), .d (.int .i64 a0.Own), .d (.int .i64 a0.Low), .d (.int .i64 a0.High), .d (slD NatDoor.enc a0.Doors), .d (.int .i64 a0.Now), .d (slD NatEntry.enc a0.Entries)]] (.d (.bool r)) [] := by
  refine pureC_m tOk (fn := Try.f14) (c := codeOf Try.f14) rfl rfl (by kernel_rfl) rfl rfl (by simp) (by simp) (ids_of rfl) ?_
  unfold spec_NatBookOk_m at h
  conv => whnf
  obtain ⟨x1, hx1, h⟩ := bd_some h
  refine callC 0 (spec_l22Frame_c hx1) rfl rfl ?_
  clear hx1
  conv => whnf
  obtain ⟨x2, hx2, h⟩ := bd_some h
  refine callG_m rfl rfl rfl rfl rfl rfl (by intro c0; exact spec_l22Doors_c (gcall_some hx2 c0)) ?_
  conv => whnf
  obtain ⟨x3, hx3, h⟩ := bd_some h
  refine callG_m rfl rfl rfl rfl rfl rfl (by intro c0; exact spec_l22Entries_c (gcall_some hx3 c0)) ?_
  conv => whnf
  obtain rfl := Option.some.inj h
  exact ⟨_, LE.refl _, And.intro rfl trivial⟩

noncomputable def spec_NatInside_m (a0 : NatBook) (a1 : Int) : Option (Bool) :=
 bd (spec_NatBookOk_m a0) fun x1 =>
 bd (gcall (x1 = true) (spec_l22Inside_m a0 a1)) fun x2 =>
 some (x1 && x2)

theorem spec_NatInside_c {a0 : NatBook} {a1 : Int} {r : Bool} (h : spec_NatInside_m a0 a1 = some r) : PureC Try.prog 18 [.agg [.d (.int .i64 a0.Addr), .d (.int .i64 a0.Len), .d (.int .i64 a0.Own), .d (.int .i64 a0.Low), .d (.int .i64 a0.High), .d (slD NatDoor.enc a0.Doors), .d (.int .i64 a0.Now), .d (slD NatEntry.enc a0.Entries)], .d (.int .i64 a1)] (.d (.bool r)) [] := by
  refine pureC_m tOk (fn := Try.f18) (c := codeOf Try.f18) rfl rfl (by kernel_rfl) rfl rfl (by simp) (by simp) (ids_of rfl) ?_
  unfold spec_NatInside_m at h
  conv => whnf
  obtain ⟨x1, hx1, h⟩ := bd_some h
  refine callC 0 (spec_NatBookOk_c hx1) rfl rfl ?_
  clear hx1
  conv => whnf
  obtain ⟨x2, hx2, h⟩ := bd_some h
  refine callG_m rfl rfl rfl rfl rfl rfl (by intro c0; exact spec_l22Inside_c (gcall_some hx2 c0)) ?_
  conv => whnf
  obtain rfl := Option.some.inj h
  exact ⟨_, LE.refl _, And.intro rfl trivial⟩

noncomputable def laws_eqNatDoor_m (a0 : NatDoor) (a1 : NatDoor) : Option (Bool) :=
(if (a0.Kind != a1.Kind) = true then
 some false
else
(if (a0.Outer != a1.Outer) = true then
 some false
else
(if (a0.Inner != a1.Inner) = true then
 some false
else
(if (a0.InnerPort != a1.InnerPort) = true then
 some false
else
 some true))))

theorem laws_eqNatDoor_c {a0 : NatDoor} {a1 : NatDoor} {r : Bool} (h : laws_eqNatDoor_m a0 a1 = some r) : PureC Try.prog 98 [.agg [.d (.int .i64 a0.Kind), .d (.int .i64 a0.Outer), .d (.int .i64 a0.Inner), .d (.int .i64 a0.InnerPort)], .agg [.d (.int .i64 a1.Kind), .d (.int .i64 a1.Outer), .d (.int .i64 a1.Inner), .d (.int .i64 a1.InnerPort)]] (.d (.bool r)) [] := by
  refine pureC_m tOk (fn := Try.f98) (c := codeOf Try.f98) rfl rfl (by kernel_rfl) rfl rfl (by simp) (by simp) (ids_of rfl) ?_
  unfold laws_eqNatDoor_m at h
  conv => whnf
  refine And.intro (fun e => ?_) (fun e => ?_)
  · replace h := ite_t h e; clear e
    conv => whnf
    obtain rfl := Option.some.inj h
    exact ⟨_, LE.refl _, And.intro rfl trivial⟩
  · replace h := ite_f h e; clear e
    conv => whnf
    refine And.intro (fun e => ?_) (fun e => ?_)
    · replace h := ite_t h e; clear e
      conv => whnf
      obtain rfl := Option.some.inj h
      exact ⟨_, LE.refl _, And.intro rfl trivial⟩
    · replace h := ite_f h e; clear e
      conv => whnf
      refine And.intro (fun e => ?_) (fun e => ?_)
      · replace h := ite_t h e; clear e
        conv => whnf
        obtain rfl := Option.some.inj h
        exact ⟨_, LE.refl _, And.intro rfl trivial⟩
      · replace h := ite_f h e; clear e
        conv => whnf
        refine And.intro (fun e => ?_) (fun e => ?_)
        · replace h := ite_t h e; clear e
          conv => whnf
          obtain rfl := Option.some.inj h
          exact ⟨_, LE.refl _, And.intro rfl trivial⟩
        · replace h := ite_f h e; clear e
          conv => whnf
          obtain rfl := Option.some.inj h
          exact ⟨_, LE.refl _, And.intro rfl trivial⟩

noncomputable def laws_eqNatDoorS_m (a0 : (List NatDoor)) (a1 : (List NatDoor)) : Option (Bool) :=
(if (((a0.length : Nat) : Int) != ((a1.length : Nat) : Int)) = true then
 some false
else
 bd (lp (σ := Int) (β := (Unit ⊕ Unit)) (fun s1 =>
(if (decide (s1 < ((a0.length : Nat) : Int))) = true then
 gd ((0 : Int) ≤ s1 ∧ s1 < ((a0.length : Nat) : Int)) <|
 gd ((0 : Int) ≤ s1 ∧ s1 < ((a1.length : Nat) : Int)) <|
 bd (laws_eqNatDoor_m (a0.getD s1.toNat default) (a1.getD s1.toNat default)) fun x7 =>
(if (!x7) = true then
 some (.inr (.inl ()))
else
 some (.inl (IntKind.i64.wrap (s1 + 1))))
else
 some (.inr (.inr ())))) 0) fun x4 =>
(match x4 with
| .inl d8 =>
 some false
| .inr d9 =>
 some true))

theorem laws_eqNatDoorS_c {a0 : (List NatDoor)} {a1 : (List NatDoor)} {r : Bool} (h : laws_eqNatDoorS_m a0 a1 = some r) : PureC Try.prog 52 [.d (slD NatDoor.enc a0), .d (slD NatDoor.enc a1)] (.d (.bool r)) [] := by
  refine pureC_m tOk (fn := Try.f52) (c := codeOf Try.f52) rfl rfl (by kernel_rfl) rfl rfl (by simp) (by simp) (ids_of rfl) ?_
  unfold laws_eqNatDoorS_m at h
  conv => whnf
  refine And.intro (fun e => ?_) (fun e => ?_)
  · replace h := ite_t h e; clear e
    conv => whnf
    obtain rfl := Option.some.inj h
    exact ⟨_, LE.refl _, And.intro rfl trivial⟩
  · replace h := ite_f h e; clear e
    conv => whnf
    obtain ⟨x4, hx4, h⟩ := bd_some h
    refine loop_m tOk hx4 (fun s1 => ⟨0, 27, [(0, .d (slD NatDoor.enc a0)), (1, .d (slD NatDoor.enc a1)), (5, .d (.int .i64 s1))], [], [], []⟩) ?_ ?_
    · refine le_mk ?_ ?_ ?_ <;> (repeat' first | exact trivial | refine And.intro ?_ ?_ | exact VLe.refl _ | exact BLe.refl _ | (refine VLe.osl rfl ?_; simp) | (refine BLe.rows rfl ?_ fun _ _ => rfl; simp) | exact VLe.nil_osl rfl | (refine VLe.rows ?_ ?_ <;> simp) | exact VLe.any _)
    · clear hx4
      intro s1 y2 g3 hy2
      conv => whnf
      refine And.intro (fun e => ?_) (fun e => ?_)
      · replace g3 := ite_t g3 e; clear e
        conv => whnf
        obtain ⟨g5, g3⟩ := gd_some g3
        obtain ⟨g6, g3⟩ := gd_some g3
        obtain ⟨x7, hx7, g3⟩ := bd_some g3
        refine draw_l tOk (by kernel_rfl) (fun j => match j with | 8 => some (0, .d (.bool x7), []) | _ => none) 10 [] [[], [], [true, true], [true, true, true], [], [], [false, false, false, false, true, true], [false, false, false, false, true, true, true], [true, true, true, true, true, true, true, true], [true, true, true, true, true, true, true, true, true]] (by decide) (by kernel_rfl) ?_
        conv => whnf
        refine And.intro g5 ?_
        clear g5
        conv => whnf
        refine And.intro g6 ?_
        clear g6
        conv => whnf
        refine And.intro (callD_any (laws_eqNatDoor_c hx7) rfl) ?_
        conv => whnf
        refine And.intro (fun e => ?_) (fun e => ?_)
        · replace g3 := ite_t g3 e; clear e
          conv => whnf
          obtain rfl := Option.some.inj g3
          obtain rfl := hy2 _ rfl
          obtain rfl := Option.some.inj h
          exact ⟨_, LE.refl _, And.intro rfl trivial⟩
        · replace g3 := ite_f g3 e; clear e
          conv => whnf
          obtain rfl := Option.some.inj g3
          refine ⟨_, rfl, le_mk ?_ ?_ ?_⟩ <;> (repeat' first | exact trivial | refine And.intro ?_ ?_ | exact VLe.refl _ | exact BLe.refl _ | (refine VLe.osl rfl ?_; simp) | (refine BLe.rows rfl ?_ fun _ _ => rfl; simp) | exact VLe.nil_osl rfl | (refine VLe.rows ?_ ?_ <;> simp) | exact VLe.any _)
      · replace g3 := ite_f g3 e; clear e
        conv => whnf
        obtain rfl := Option.some.inj g3
        obtain rfl := hy2 _ rfl
        obtain rfl := Option.some.inj h
        exact ⟨_, LE.refl _, And.intro rfl trivial⟩

noncomputable def laws_eqNatBook_m (a0 : NatBook) (a1 : NatBook) : Option (Bool) :=
(if (a0.Addr != a1.Addr) = true then
 some false
else
(if (a0.Len != a1.Len) = true then
 some false
else
(if (a0.Own != a1.Own) = true then
 some false
else
(if (a0.Low != a1.Low) = true then
 some false
else
(if (a0.High != a1.High) = true then
 some false
else
 bd (laws_eqNatDoorS_m a0.Doors a1.Doors) fun x1 =>
(if (!x1) = true then
 some false
else
(if (a0.Now != a1.Now) = true then
 some false
else
 bd (laws_eqNatEntryS_m a0.Entries a1.Entries) fun x2 =>
(if (!x2) = true then
 some false
else
 some true))))))))

theorem laws_eqNatBook_c {a0 : NatBook} {a1 : NatBook} {r : Bool} (h : laws_eqNatBook_m a0 a1 = some r) : PureC Try.prog 17 [.agg [.d (.int .i64 a0.Addr), .d (.int .i64 a0.Len), .d (.int .i64 a0.Own), .d (.int .i64 a0.Low), .d (.int .i64 a0.High), .d (slD NatDoor.enc a0.Doors), .d (.int .i64 a0.Now), .d (slD NatEntry.enc a0.Entries)], .agg [.d (.int .i64 a1.Addr), .d (.int .i64 a1.Len), .d (.int .i64 a1.Own), .d (.int .i64 a1.Low), .d (.int .i64 a1.High), .d (slD NatDoor.enc a1.Doors), .d (.int .i64 a1.Now), .d (slD NatEntry.enc a1.Entries)]] (.d (.bool r)) [] := by
  refine pureC_m tOk (fn := Try.f17) (c := codeOf Try.f17) rfl rfl (by kernel_rfl) rfl rfl (by simp) (by simp) (ids_of rfl) ?_
  unfold laws_eqNatBook_m at h
  conv => whnf
  refine And.intro (fun e => ?_) (fun e => ?_)
  · replace h := ite_t h e; clear e
    conv => whnf
    obtain rfl := Option.some.inj h
    exact ⟨_, LE.refl _, And.intro rfl trivial⟩
  · replace h := ite_f h e; clear e
    conv => whnf
    refine And.intro (fun e => ?_) (fun e => ?_)
    · replace h := ite_t h e; clear e
      conv => whnf
      obtain rfl := Option.some.inj h
      exact ⟨_, LE.refl _, And.intro rfl trivial⟩
    · replace h := ite_f h e; clear e
      conv => whnf
      refine And.intro (fun e => ?_) (fun e => ?_)
      · replace h := ite_t h e; clear e
        conv => whnf
        obtain rfl := Option.some.inj h
        exact ⟨_, LE.refl _, And.intro rfl trivial⟩
      · replace h := ite_f h e; clear e
        conv => whnf
        refine And.intro (fun e => ?_) (fun e => ?_)
        · replace h := ite_t h e; clear e
          conv => whnf
          obtain rfl := Option.some.inj h
          exact ⟨_, LE.refl _, And.intro rfl trivial⟩
        · replace h := ite_f h e; clear e
          conv => whnf
          refine And.intro (fun e => ?_) (fun e => ?_)
          · replace h := ite_t h e; clear e
            conv => whnf
            obtain rfl := Option.some.inj h
            exact ⟨_, LE.refl _, And.intro rfl trivial⟩
          · replace h := ite_f h e; clear e
            conv => whnf
            obtain ⟨x1, hx1, h⟩ := bd_some h
            refine callC 0 (laws_eqNatDoorS_c hx1) rfl rfl ?_
            clear hx1
            conv => whnf
            refine And.intro (fun e => ?_) (fun e => ?_)
            · replace h := ite_t h e; clear e
              conv => whnf
              obtain rfl := Option.some.inj h
              exact ⟨_, LE.refl _, And.intro rfl trivial⟩
            · replace h := ite_f h e; clear e
              conv => whnf
              refine And.intro (fun e => ?_) (fun e => ?_)
              · replace h := ite_t h e; clear e
                conv => whnf
                obtain rfl := Option.some.inj h
                exact ⟨_, LE.refl _, And.intro rfl trivial⟩
              · replace h := ite_f h e; clear e
                conv => whnf
                obtain ⟨x2, hx2, h⟩ := bd_some h
                refine callC 0 (laws_eqNatEntryS_c hx2) rfl rfl ?_
                clear hx2
                conv => whnf
                refine And.intro (fun e => ?_) (fun e => ?_)
                · replace h := ite_t h e; clear e
                  conv => whnf
                  obtain rfl := Option.some.inj h
                  exact ⟨_, LE.refl _, And.intro rfl trivial⟩
                · replace h := ite_f h e; clear e
                  conv => whnf
                  obtain rfl := Option.some.inj h
                  exact ⟨_, LE.refl _, And.intro rfl trivial⟩

noncomputable def laws_FnExactNatInside_m (a0 : NatBook) (a1 : Int) : Option (Bool) :=
 bd (laws_szNatBook_m a0 1048576) fun x1 =>
(if (decide (x1 < 0)) = true then
 some true
else
 bd (laws_toNatBook_m a0) fun x2 =>
 bd (spec_NatInside_m x2 a1) fun x3 =>
 bd (laws_toNatBook_m a0) fun x4 =>
 bd (impl_NatInside_m x4 a1) fun x5 =>
(if (!(x5 == x3)) = true then
 some false
else
 bd (laws_toNatBook_m a0) fun x6 =>
 bd (laws_eqNatBook_m x4 x6) fun x7 =>
(if (!x7) = true then
 some false
else
 some true)))

theorem laws_FnExactNatInside_c {a0 : NatBook} {a1 : Int} {r : Bool} (h : laws_FnExactNatInside_m a0 a1 = some r) : PureC Try.prog 4 [.agg [.d (.int .i64 a0.Addr), .d (.int .i64 a0.Len), .d (.int .i64 a0.Own), .d (.int .i64 a0.Low), .d (.int .i64 a0.High), .d (slD NatDoor.enc a0.Doors), .d (.int .i64 a0.Now), .d (slD NatEntry.enc a0.Entries)], .d (.int .i64 a1)] (.d (.bool r)) [] := by
  refine pureC_m tOk (fn := Try.f4) (c := codeOf Try.f4) rfl rfl (by kernel_rfl) rfl rfl (by simp) (by simp) (ids_of rfl) ?_
  unfold laws_FnExactNatInside_m at h
  conv => whnf
  obtain ⟨x1, hx1, h⟩ := bd_some h
  refine callC 0 (laws_szNatBook_c hx1) rfl rfl ?_
  clear hx1
  conv => whnf
  refine And.intro (fun e => ?_) (fun e => ?_)
  · replace h := ite_t h e; clear e
    conv => whnf
    obtain rfl := Option.some.inj h
    exact ⟨_, LE.refl _, And.intro rfl trivial⟩
  · replace h := ite_f h e; clear e
    conv => whnf
    obtain ⟨x2, hx2, h⟩ := bd_some h
    refine callC 1000 (laws_toNatBook_c hx2) rfl rfl ?_
    clear hx2
    conv => whnf
    obtain ⟨x3, hx3, h⟩ := bd_some h
    refine callC 0 (spec_NatInside_c hx3) rfl rfl ?_
    clear hx3
    conv => whnf
    obtain ⟨x4, hx4, h⟩ := bd_some h
    refine callC 2000 (laws_toNatBook_c hx4) rfl rfl ?_
    clear hx4
    conv => whnf
    obtain ⟨x5, hx5, h⟩ := bd_some h
    refine callC 0 (impl_NatInside_c hx5) rfl rfl ?_
    clear hx5
    conv => whnf
    refine And.intro (fun e => ?_) (fun e => ?_)
    · replace h := ite_t h e; clear e
      conv => whnf
      obtain rfl := Option.some.inj h
      exact ⟨_, LE.refl _, And.intro rfl trivial⟩
    · replace h := ite_f h e; clear e
      conv => whnf
      obtain ⟨x6, hx6, h⟩ := bd_some h
      obtain ⟨x7, hx7, h⟩ := bd_some h
      refine draw_l tOk (by kernel_rfl) (fun j => match j with | 2 => some (3000, .agg [.d (.int .i64 x6.Addr), .d (.int .i64 x6.Len), .d (.int .i64 x6.Own), .d (.int .i64 x6.Low), .d (.int .i64 x6.High), .osl 5001 0 x6.Doors.length, .d (.int .i64 x6.Now), .osl 5002 0 x6.Entries.length], [⟨5001, 83, 4, x6.Doors.length, rows NatDoor.enc x6.Doors⟩, ⟨5002, 52, 7, x6.Entries.length, rows NatEntry.enc x6.Entries⟩]) | 3 => some (0, .d (.bool x7), []) | _ => none) 5 [] [[], [], [false, true], [true, true, true], [true, true, true, true]] (by decide) (by kernel_rfl) ?_
      conv => whnf
      refine And.intro (callD_any (laws_toNatBook_c hx6) rfl) ?_
      conv => whnf
      refine And.intro (callD_any (laws_eqNatBook_c hx7) rfl) ?_
      conv => whnf
      refine And.intro (fun e => ?_) (fun e => ?_)
      · replace h := ite_t h e; clear e
        conv => whnf
        obtain rfl := Option.some.inj h
        exact ⟨_, LE.refl _, And.intro rfl trivial⟩
      · replace h := ite_f h e; clear e
        conv => whnf
        obtain rfl := Option.some.inj h
        exact ⟨_, LE.refl _, And.intro rfl trivial⟩

noncomputable def laws_eqNatFlow_m (a0 : NatFlow) (a1 : NatFlow) : Option (Bool) :=
(if (a0.Kind != a1.Kind) = true then
 some false
else
(if (a0.From != a1.From) = true then
 some false
else
(if (a0.FromPort != a1.FromPort) = true then
 some false
else
(if (a0.To != a1.To) = true then
 some false
else
(if (a0.ToPort != a1.ToPort) = true then
 some false
else
 some true)))))

theorem laws_eqNatFlow_c {a0 : NatFlow} {a1 : NatFlow} {r : Bool} (h : laws_eqNatFlow_m a0 a1 = some r) : PureC Try.prog 23 [.agg [.d (.int .i64 a0.Kind), .d (.int .i64 a0.From), .d (.int .i64 a0.FromPort), .d (.int .i64 a0.To), .d (.int .i64 a0.ToPort)], .agg [.d (.int .i64 a1.Kind), .d (.int .i64 a1.From), .d (.int .i64 a1.FromPort), .d (.int .i64 a1.To), .d (.int .i64 a1.ToPort)]] (.d (.bool r)) [] := by
  refine pureC_m tOk (fn := Try.f23) (c := codeOf Try.f23) rfl rfl (by kernel_rfl) rfl rfl (by simp) (by simp) (ids_of rfl) ?_
  unfold laws_eqNatFlow_m at h
  conv => whnf
  refine And.intro (fun e => ?_) (fun e => ?_)
  · replace h := ite_t h e; clear e
    conv => whnf
    obtain rfl := Option.some.inj h
    exact ⟨_, LE.refl _, And.intro rfl trivial⟩
  · replace h := ite_f h e; clear e
    conv => whnf
    refine And.intro (fun e => ?_) (fun e => ?_)
    · replace h := ite_t h e; clear e
      conv => whnf
      obtain rfl := Option.some.inj h
      exact ⟨_, LE.refl _, And.intro rfl trivial⟩
    · replace h := ite_f h e; clear e
      conv => whnf
      refine And.intro (fun e => ?_) (fun e => ?_)
      · replace h := ite_t h e; clear e
        conv => whnf
        obtain rfl := Option.some.inj h
        exact ⟨_, LE.refl _, And.intro rfl trivial⟩
      · replace h := ite_f h e; clear e
        conv => whnf
        refine And.intro (fun e => ?_) (fun e => ?_)
        · replace h := ite_t h e; clear e
          conv => whnf
          obtain rfl := Option.some.inj h
          exact ⟨_, LE.refl _, And.intro rfl trivial⟩
        · replace h := ite_f h e; clear e
          conv => whnf
          refine And.intro (fun e => ?_) (fun e => ?_)
          · replace h := ite_t h e; clear e
            conv => whnf
            obtain rfl := Option.some.inj h
            exact ⟨_, LE.refl _, And.intro rfl trivial⟩
          · replace h := ite_f h e; clear e
            conv => whnf
            obtain rfl := Option.some.inj h
            exact ⟨_, LE.refl _, And.intro rfl trivial⟩

noncomputable def laws_toNatFlow_m (a0 : NatFlow) : Option (NatFlow) :=
 some a0

theorem laws_toNatFlow_c {a0 : NatFlow} {r : NatFlow} (h : laws_toNatFlow_m a0 = some r) : PureC Try.prog 21 [.agg [.d (.int .i64 a0.Kind), .d (.int .i64 a0.From), .d (.int .i64 a0.FromPort), .d (.int .i64 a0.To), .d (.int .i64 a0.ToPort)]] (.agg [.d (.int .i64 r.Kind), .d (.int .i64 r.From), .d (.int .i64 r.FromPort), .d (.int .i64 r.To), .d (.int .i64 r.ToPort)]) [] := by
  refine pureC_m tOk (fn := Try.f21) (c := codeOf Try.f21) rfl rfl (by kernel_rfl) rfl rfl (by simp) (by simp) (ids_of rfl) ?_
  unfold laws_toNatFlow_m at h
  conv => whnf
  obtain rfl := Option.some.inj h
  exact ⟨_, LE.refl _, And.intro rfl trivial⟩

noncomputable def spec_NatFlowOk_m (a0 : NatFlow) : Option (Bool) :=
 bd (spec_l21In_m a0.Kind 1 7) fun x1 =>
 bd (gcall (x1 = true) (spec_l21In_m a0.From 0 65535)) fun x2 =>
 bd (gcall ((x1 && x2) = true) (spec_l21In_m a0.To 0 65535)) fun x3 =>
 bd (gcall (((x1 && x2) && x3) = true) (spec_l21In_m a0.FromPort 1 65535)) fun x4 =>
 bd (gcall ((((x1 && x2) && x3) && x4) = true) (spec_l21In_m a0.ToPort 1 65535)) fun x5 =>
 some ((((x1 && x2) && x3) && x4) && x5)

theorem spec_NatFlowOk_c {a0 : NatFlow} {r : Bool} (h : spec_NatFlowOk_m a0 = some r) : PureC Try.prog 55 [.agg [.d (.int .i64 a0.Kind), .d (.int .i64 a0.From), .d (.int .i64 a0.FromPort), .d (.int .i64 a0.To), .d (.int .i64 a0.ToPort)]] (.d (.bool r)) [] := by
  refine pureC_m tOk (fn := Try.f55) (c := codeOf Try.f55) rfl rfl (by kernel_rfl) rfl rfl (by simp) (by simp) (ids_of rfl) ?_
  unfold spec_NatFlowOk_m at h
  conv => whnf
  obtain ⟨x1, hx1, h⟩ := bd_some h
  refine callC 0 (spec_l21In_c hx1) rfl rfl ?_
  clear hx1
  conv => whnf
  obtain ⟨x2, hx2, h⟩ := bd_some h
  refine callG_m rfl rfl rfl rfl rfl rfl (by intro c0; exact spec_l21In_c (gcall_some hx2 c0)) ?_
  conv => whnf
  obtain ⟨x3, hx3, h⟩ := bd_some h
  refine callG_m rfl rfl rfl rfl rfl rfl (by intro c0; exact spec_l21In_c (gcall_some hx3 c0)) ?_
  conv => whnf
  obtain ⟨x4, hx4, h⟩ := bd_some h
  refine callG_m rfl rfl rfl rfl rfl rfl (by intro c0; exact spec_l21In_c (gcall_some hx4 c0)) ?_
  conv => whnf
  obtain ⟨x5, hx5, h⟩ := bd_some h
  refine callG_m rfl rfl rfl rfl rfl rfl (by intro c0; exact spec_l21In_c (gcall_some hx5 c0)) ?_
  conv => whnf
  obtain rfl := Option.some.inj h
  exact ⟨_, LE.refl _, And.intro rfl trivial⟩

noncomputable def spec_l23To_m (a0 : NatFlow) (a1 : Int) (a2 : Int) : Option (NatFlow) :=
 some ({ a0 with To := a1, ToPort := a2 })

theorem spec_l23To_c {a0 : NatFlow} {a1 : Int} {a2 : Int} {r : NatFlow} (h : spec_l23To_m a0 a1 a2 = some r) : PureC Try.prog 56 [.agg [.d (.int .i64 a0.Kind), .d (.int .i64 a0.From), .d (.int .i64 a0.FromPort), .d (.int .i64 a0.To), .d (.int .i64 a0.ToPort)], .d (.int .i64 a1), .d (.int .i64 a2)] (.agg [.d (.int .i64 r.Kind), .d (.int .i64 r.From), .d (.int .i64 r.FromPort), .d (.int .i64 r.To), .d (.int .i64 r.ToPort)]) [] := by
  refine pureC_m tOk (fn := Try.f56) (c := codeOf Try.f56) rfl rfl (by kernel_rfl) rfl rfl (by simp) (by simp) (ids_of rfl) ?_
  unfold spec_l23To_m at h
  conv => whnf
  obtain rfl := Option.some.inj h
  exact ⟨_, LE.refl _, And.intro rfl trivial⟩

noncomputable def spec_NatIn_m (a0 : NatBook) (a1 : NatFlow) : Option (NatFlow × Int) :=
 bd (spec_NatBookOk_m a0) fun x1 =>
(if (!x1) = true then
 some ((⟨0, 0, 0, 0, 0⟩ : NatFlow), 1)
else
 bd (spec_NatFlowOk_m a1) fun x2 =>
(if (!x2) = true then
 some ((⟨0, 0, 0, 0, 0⟩ : NatFlow), 2)
else
 bd (gcall ((a1.To != a0.Own) = false) (spec_l22Inside_m a0 a1.From)) fun x3 =>
(if (((a1.To != a0.Own) || x3) || (a1.From == a0.Own)) = true then
 some ((⟨0, 0, 0, 0, 0⟩ : NatFlow), 3)
else
 bd (lp (σ := Int) (β := ((Int × Int × Int × Int × Int) ⊕ Unit)) (fun s4 =>
(if (decide (s4 < ((a0.Doors.length : Nat) : Int))) = true then
 gd ((0 : Int) ≤ s4 ∧ s4 < ((a0.Doors.length : Nat) : Int)) <|
 gd ((((a0.Doors.getD s4.toNat default).Kind) == a1.Kind) = true → ((0 : Int) ≤ s4 ∧ s4 < ((a0.Doors.length : Nat) : Int))) <|
(if ((((a0.Doors.getD s4.toNat default).Kind) == a1.Kind) && (((a0.Doors.getD s4.toNat default).Outer) == a1.ToPort)) = true then
 gd ((0 : Int) ≤ s4 ∧ s4 < ((a0.Doors.length : Nat) : Int)) <|
 gd ((0 : Int) ≤ s4 ∧ s4 < ((a0.Doors.length : Nat) : Int)) <|
 bd (spec_l23To_m a1 ((a0.Doors.getD s4.toNat default).Inner) ((a0.Doors.getD s4.toNat default).InnerPort)) fun x12 =>
 some (.inr (.inl (x12.Kind, x12.From, x12.FromPort, x12.To, x12.ToPort)))
else
 some (.inl (IntKind.i64.wrap (s4 + 1))))
else
 some (.inr (.inr ())))) 0) fun x7 =>
(match x7 with
| .inl d13 =>
 some ((⟨d13.1, d13.2.1, d13.2.2.1, d13.2.2.2.1, d13.2.2.2.2⟩ : NatFlow), 0)
| .inr d14 =>
 bd (lp (σ := Int) (β := ((Int × Int × Int × Int × Int) ⊕ Unit)) (fun s15 =>
(if (decide (s15 < ((a0.Entries.length : Nat) : Int))) = true then
 gd ((0 : Int) ≤ s15 ∧ s15 < ((a0.Entries.length : Nat) : Int)) <|
 bd (spec_l22Live_m a0 (a0.Entries.getD s15.toNat default)) fun x20 =>
(if ((((x20 && (((a0.Entries.getD s15.toNat default).Kind) == a1.Kind)) && (((a0.Entries.getD s15.toNat default).Peer) == a1.From)) && (((a0.Entries.getD s15.toNat default).PeerPort) == a1.FromPort)) && (((a0.Entries.getD s15.toNat default).Outer) == a1.ToPort)) = true then
 bd (spec_l23To_m a1 ((a0.Entries.getD s15.toNat default).Inner) ((a0.Entries.getD s15.toNat default).InnerPort)) fun x21 =>
 some (.inr (.inl (x21.Kind, x21.From, x21.FromPort, x21.To, x21.ToPort)))
else
 some (.inl (IntKind.i64.wrap (s15 + 1))))
else
 some (.inr (.inr ())))) 0) fun x18 =>
(match x18 with
| .inl d22 =>
 some ((⟨d22.1, d22.2.1, d22.2.2.1, d22.2.2.2.1, d22.2.2.2.2⟩ : NatFlow), 0)
| .inr d23 =>
 some ((⟨0, 0, 0, 0, 0⟩ : NatFlow), 6))))))

theorem spec_NatIn_c {a0 : NatBook} {a1 : NatFlow} {r : NatFlow × Int} (h : spec_NatIn_m a0 a1 = some r) : PureC Try.prog 20 [.agg [.d (.int .i64 a0.Addr), .d (.int .i64 a0.Len), .d (.int .i64 a0.Own), .d (.int .i64 a0.Low), .d (.int .i64 a0.High), .d (slD NatDoor.enc a0.Doors), .d (.int .i64 a0.Now), .d (slD NatEntry.enc a0.Entries)], .agg [.d (.int .i64 a1.Kind), .d (.int .i64 a1.From), .d (.int .i64 a1.FromPort), .d (.int .i64 a1.To), .d (.int .i64 a1.ToPort)]] (.tup [.agg [.d (.int .i64 r.1.Kind), .d (.int .i64 r.1.From), .d (.int .i64 r.1.FromPort), .d (.int .i64 r.1.To), .d (.int .i64 r.1.ToPort)], .d (.int .i64 r.2)]) [] := by
  refine pureC_m tOk (fn := Try.f20) (c := codeOf Try.f20) rfl rfl (by kernel_rfl) rfl rfl (by simp) (by simp) (ids_of rfl) ?_
  unfold spec_NatIn_m at h
  conv => whnf
  obtain ⟨x1, hx1, h⟩ := bd_some h
  refine callC 0 (spec_NatBookOk_c hx1) rfl rfl ?_
  clear hx1
  conv => whnf
  refine And.intro (fun e => ?_) (fun e => ?_)
  · replace h := ite_t h e; clear e
    conv => whnf
    obtain rfl := Option.some.inj h
    exact ⟨_, LE.refl _, And.intro rfl trivial⟩
  · replace h := ite_f h e; clear e
    conv => whnf
    obtain ⟨x2, hx2, h⟩ := bd_some h
    refine callC 0 (spec_NatFlowOk_c hx2) rfl rfl ?_
    clear hx2
    conv => whnf
    refine And.intro (fun e => ?_) (fun e => ?_)
    · replace h := ite_t h e; clear e
      conv => whnf
      obtain rfl := Option.some.inj h
      exact ⟨_, LE.refl _, And.intro rfl trivial⟩
    · replace h := ite_f h e; clear e
      conv => whnf
      obtain ⟨x3, hx3, h⟩ := bd_some h
      refine callG_m rfl rfl rfl rfl rfl rfl (by intro c0; exact spec_l22Inside_c (gcall_some hx3 c0)) ?_
      conv => whnf
      refine And.intro (fun e => ?_) (fun e => ?_)
      · replace h := ite_t h e; clear e
        conv => whnf
        obtain rfl := Option.some.inj h
        exact ⟨_, LE.refl _, And.intro rfl trivial⟩
      · replace h := ite_f h e; clear e
        conv => whnf
        obtain ⟨x7, hx7, h⟩ := bd_some h
        refine loop_m tOk hx7 (fun s4 => ⟨0, 127, [(2, .ref 2 0 0), (3, .ref 3 0 0), (4, .ref 4 0 0), (6, .d (.int .i64 s4))], [], [(4, .box 39 [.d (.int .i64 0), .d (.int .i64 0), .d (.int .i64 0), .d (.int .i64 0), .d (.int .i64 0)]), (3, .box 39 [.d (.int .i64 a1.Kind), .d (.int .i64 a1.From), .d (.int .i64 a1.FromPort), .d (.int .i64 a1.To), .d (.int .i64 a1.ToPort)]), (2, .box 31 [.d (.int .i64 a0.Addr), .d (.int .i64 a0.Len), .d (.int .i64 a0.Own), .d (.int .i64 a0.Low), .d (.int .i64 a0.High), .d (slD NatDoor.enc a0.Doors), .d (.int .i64 a0.Now), .d (slD NatEntry.enc a0.Entries)])], []⟩) ?_ ?_
        · refine le_mk ?_ ?_ ?_ <;> (repeat' first | exact trivial | refine And.intro ?_ ?_ | exact VLe.refl _ | exact BLe.refl _ | (refine VLe.osl rfl ?_; simp) | (refine BLe.rows rfl ?_ fun _ _ => rfl; simp) | exact VLe.nil_osl rfl | (refine VLe.rows ?_ ?_ <;> simp) | exact VLe.any _)
        · clear hx7
          intro s4 y5 g6 hy5
          conv => whnf
          refine And.intro (fun e => ?_) (fun e => ?_)
          · replace g6 := ite_t g6 e; clear e
            conv => whnf
            obtain ⟨g8, g6⟩ := gd_some g6
            obtain ⟨g9, g6⟩ := gd_some g6
            refine draw_l tOk (by kernel_rfl) (fun _ => none) 20 [] [[], [true], [], [true, true, true], [true, true, true, true], [true, true, true, true, true], [], [false, false, false, false, false, false, true], [true, true, true, true, true, true, true, true], [true, true, true, true, true, true, true, true, true], [true, true, true, true, true, true, true, true, true, true], [true, true, true, true, true, true, true, true, true, true, true], [true, true, true, true, true, true, true, true, true, true], [true, true, true, true, true, true, true, true, true, true, true, true, true], [true, true, true, true, true, true, true, true, true, true, true, true, true, true], [true, true, true, true, true, true, true, true, true, true, true, true, true, true, true], [true, true, true, true, true, true, true, true, true, true], [true, true, true, true, true, true, true, true, true, true, false, false, false, false, false, false, true], [true, true, true, true, true, true, true, true, true, true, true, true, true, true, true, true, true, true], [true, true, true, true, true, true, true, true, true, true, true, true, true, true, true, true, true, true, true]] (by decide) (by kernel_rfl) ?_
            conv => whnf
            refine And.intro g8 ?_
            clear g8
            conv => whnf
            refine And.intro g9 ?_
            clear g9
            conv => whnf
            refine And.intro (fun e => ?_) (fun e => ?_)
            · replace g6 := ite_t g6 e; clear e
              conv => whnf
              obtain ⟨g10, g6⟩ := gd_some g6
              obtain ⟨g11, g6⟩ := gd_some g6
              obtain ⟨x12, hx12, g6⟩ := bd_some g6
              refine draw_l tOk (by kernel_rfl) (fun j => match j with | 13 => some (0, .agg [.d (.int .i64 x12.Kind), .d (.int .i64 x12.From), .d (.int .i64 x12.FromPort), .d (.int .i64 x12.To), .d (.int .i64 x12.ToPort)], []) | _ => none) 14 [] [[], [], [false, true], [], [false, true, true, true], [false, true, true, true, true], [false, true, true, true, true, true], [], [false, false, false, false, false, false, false, true], [], [false, false, false, false, false, false, false, true, true, true], [false, false, false, false, false, false, false, true, true, true, true], [false, false, false, false, false, false, false, true, true, true, true, true], [true, true, true, true, true, true, true, true, true, true, true, true, true]] (by decide) (by kernel_rfl) ?_
              conv => whnf
              refine And.intro g10 ?_
              clear g10
              conv => whnf
              refine And.intro g11 ?_
              clear g11
              conv => whnf
              refine And.intro (callD_any (spec_l23To_c hx12) rfl) ?_
              conv => whnf
              obtain rfl := Option.some.inj g6
              obtain rfl := hy5 _ rfl
              obtain rfl := Option.some.inj h
              exact ⟨_, LE.refl _, And.intro rfl trivial⟩
            · replace g6 := ite_f g6 e; clear e
              conv => whnf
              obtain rfl := Option.some.inj g6
              refine ⟨_, rfl, le_mk ?_ ?_ ?_⟩ <;> (repeat' first | exact trivial | refine And.intro ?_ ?_ | exact VLe.refl _ | exact BLe.refl _ | (refine VLe.osl rfl ?_; simp) | (refine BLe.rows rfl ?_ fun _ _ => rfl; simp) | exact VLe.nil_osl rfl | (refine VLe.rows ?_ ?_ <;> simp) | exact VLe.any _)
          · replace g6 := ite_f g6 e; clear e
            conv => whnf
            obtain rfl := Option.some.inj g6
            obtain rfl := hy5 _ rfl
            obtain ⟨x18, hx18, h⟩ := bd_some h
            refine loop_m tOk hx18 (fun s15 => ⟨0, 127, [(2, .ref 2 0 0), (3, .ref 3 0 0), (4, .ref 4 0 0), (7, .d (.int .i64 s15))], [], [(4, .box 39 [.d (.int .i64 0), .d (.int .i64 0), .d (.int .i64 0), .d (.int .i64 0), .d (.int .i64 0)]), (3, .box 39 [.d (.int .i64 a1.Kind), .d (.int .i64 a1.From), .d (.int .i64 a1.FromPort), .d (.int .i64 a1.To), .d (.int .i64 a1.ToPort)]), (2, .box 31 [.d (.int .i64 a0.Addr), .d (.int .i64 a0.Len), .d (.int .i64 a0.Own), .d (.int .i64 a0.Low), .d (.int .i64 a0.High), .d (slD NatDoor.enc a0.Doors), .d (.int .i64 a0.Now), .d (slD NatEntry.enc a0.Entries)])], []⟩) ?_ ?_
            · refine le_mk ?_ ?_ ?_ <;> (repeat' first | exact trivial | refine And.intro ?_ ?_ | exact VLe.refl _ | exact BLe.refl _ | (refine VLe.osl rfl ?_; simp) | (refine BLe.rows rfl ?_ fun _ _ => rfl; simp) | exact VLe.nil_osl rfl | (refine VLe.rows ?_ ?_ <;> simp) | exact VLe.any _)
            · clear hx18
              intro s15 y16 g17 hy16
              conv => whnf
              refine And.intro (fun e => ?_) (fun e => ?_)
              · replace g17 := ite_t g17 e; clear e
                conv => whnf
                obtain ⟨g19, g17⟩ := gd_some g17
                refine And.intro g19 ?_
                clear g19
                conv => whnf
                obtain ⟨x20, hx20, g17⟩ := bd_some g17
                refine callC 0 (spec_l22Live_c hx20) rfl rfl ?_
                clear hx20
                conv => whnf
                refine And.intro (fun e => ?_) (fun e => ?_)
                · replace g17 := ite_t g17 e; clear e
                  conv => whnf
                  obtain ⟨x21, hx21, g17⟩ := bd_some g17
                  refine callC 0 (spec_l23To_c hx21) rfl rfl ?_
                  clear hx21
                  conv => whnf
                  obtain rfl := Option.some.inj g17
                  obtain rfl := hy16 _ rfl
                  obtain rfl := Option.some.inj h
                  exact ⟨_, LE.refl _, And.intro rfl trivial⟩
                · replace g17 := ite_f g17 e; clear e
                  conv => whnf
                  obtain rfl := Option.some.inj g17
                  refine ⟨_, rfl, le_mk ?_ ?_ ?_⟩ <;> (repeat' first | exact trivial | refine And.intro ?_ ?_ | exact VLe.refl _ | exact BLe.refl _ | (refine VLe.osl rfl ?_; simp) | (refine BLe.rows rfl ?_ fun _ _ => rfl; simp) | exact VLe.nil_osl rfl | (refine VLe.rows ?_ ?_ <;> simp) | exact VLe.any _)
              · replace g17 := ite_f g17 e; clear e
                conv => whnf
                obtain rfl := Option.some.inj g17
                obtain rfl := hy16 _ rfl
                obtain rfl := Option.some.inj h
                exact ⟨_, LE.refl _, And.intro rfl trivial⟩

end Go.Proofs.Ytgjmgdncckdgoaa
