/-
  What some of the program's functions compute: their models, and that the functions compute these; no condition.
-/
import Derived.Test.YtgjmgdncckdgoaaTyz
import Derived.Test.YtgjmgdncckdgoaaTbz
set_option linter.all false
namespace Go.Proofs.Ytgjmgdncckdgoaa
open Go Go.Ab
set_option maxRecDepth 100000
set_option maxHeartbeats 1000000
noncomputable def impl_within_m (a0 : Int) (a1 : Int) (a2 : Int) : Option (Bool) :=
 some ((decide (a1 ≤ a0)) && (decide (a0 ≤ a2)))

theorem impl_within_c {a0 : Int} {a1 : Int} {a2 : Int} {r : Bool} (h : impl_within_m a0 a1 a2 = some r) : PureC Try.prog 48 [.d (.int .i64 a0), .d (.int .i64 a1), .d (.int .i64 a2)] (.d (.bool r)) [] := by
  refine pureC_m tOk (fn := Try.f48) (c := codeOf Try.f48) rfl rfl (by kernel_rfl) rfl rfl (by simp) (by simp) (ids_of rfl) ?_
  unfold impl_within_m at h
  conv => whnf
  obtain rfl := Option.some.inj h
  exact ⟨_, LE.refl _, And.intro rfl trivial⟩

noncomputable def impl_NetPrefix_size_m (a0 : NetPrefix) : Option (Int) :=
 gd ((0 : Int) ≤ (IntKind.i64.wrap (16 - a0.Len))) <|
 some (IntKind.i64.wrap (1 * 2 ^ min (IntKind.i64.wrap (16 - a0.Len) : Int).toNat IntKind.i64.bits))

theorem impl_NetPrefix_size_c {a0 : NetPrefix} {r : Int} (h : impl_NetPrefix_size_m a0 = some r) : PureC Try.prog 92 [.agg [.d (.int .i64 a0.Addr), .d (.int .i64 a0.Len)]] (.d (.int .i64 r)) [] := by
  refine pureC_m tOk (fn := Try.f92) (c := codeOf Try.f92) rfl rfl (by kernel_rfl) rfl rfl (by simp) (by simp) (ids_of rfl) ?_
  unfold impl_NetPrefix_size_m at h
  conv => whnf
  obtain ⟨g1, h⟩ := gd_some h
  refine And.intro g1 ?_
  clear g1
  conv => whnf
  obtain rfl := Option.some.inj h
  exact ⟨_, LE.refl _, And.intro rfl trivial⟩

noncomputable def impl_NetOk_m (a0 : NetPrefix) : Option (Bool) :=
 bd (impl_within_m a0.Len 0 16) fun x1 =>
 bd (gcall (x1 = true) (impl_within_m a0.Addr 0 65535)) fun x2 =>
 bd (gcall ((x1 && x2) = true) (impl_NetPrefix_size_m a0)) fun x3 =>
 gd ((x1 && x2) = true → ((x3 : Int) ≠ 0)) <|
 some ((x1 && x2) && (((a0.Addr : Int).tmod x3) == 0))

theorem impl_NetOk_c {a0 : NetPrefix} {r : Bool} (h : impl_NetOk_m a0 = some r) : PureC Try.prog 47 [.agg [.d (.int .i64 a0.Addr), .d (.int .i64 a0.Len)]] (.d (.bool r)) [] := by
  refine pureC_m tOk (fn := Try.f47) (c := codeOf Try.f47) rfl rfl (by kernel_rfl) rfl rfl (by simp) (by simp) (ids_of rfl) ?_
  unfold impl_NetOk_m at h
  conv => whnf
  obtain ⟨x1, hx1, h⟩ := bd_some h
  obtain ⟨x2, hx2, h⟩ := bd_some h
  obtain ⟨x3, hx3, h⟩ := bd_some h
  obtain ⟨g4, h⟩ := gd_some h
  refine draw_l tOk (by kernel_rfl) (fun j => match j with | 2 => some (0, .d (.bool x1), []) | 6 => some (0, .d (.bool x2), []) | 12 => some (0, .d (.int .i64 x3), []) | _ => none) 17 [] [[], [true], [true, true], [true, true, true], [true, true, true, true], [true, true, true, true, true], [true, true, true, true, true, true], [true, true, true, true, true, true, true], [true, true, true, true, true, true, true, true], [true, true, true, true, true, true, true, true, true], [true, true, true, true, true, true, true, true, true, true], [true, true, true, true, true, true, true, true, true], [true, true, true, true, true, true, true, true, true, false, false, true], [true, true, true, true, true, true, true, true, true, true, true, true, true], [true, true, true, true, true, true, true, true, true, true, true, true, true, true], [true, true, true, true, true, true, true, true, true, true, true, true, true, true, true], [true, true, true, true, true, true, true, true, true, true, true, true, true, true, true, true]] (by decide) (by kernel_rfl) ?_
  conv => whnf
  refine And.intro (callD_any (impl_within_c hx1) rfl) ?_
  conv => whnf
  refine And.intro (callDG_if rfl rfl rfl rfl (by intro c0; exact impl_within_c (gcall_some hx2 c0))) ?_
  conv => whnf
  refine And.intro (callDG_if rfl rfl rfl rfl (by intro c0; exact impl_NetPrefix_size_c (gcall_some hx3 c0))) ?_
  conv => whnf
  refine And.intro g4 ?_
  clear g4
  conv => whnf
  obtain rfl := Option.some.inj h
  exact ⟨_, LE.refl _, And.intro rfl trivial⟩

noncomputable def impl_NetPrefix_last_m (a0 : NetPrefix) : Option (Int) :=
 bd (impl_NetPrefix_size_m a0) fun x1 =>
 some (IntKind.i64.wrap ((IntKind.i64.wrap (a0.Addr + x1)) - 1))

theorem impl_NetPrefix_last_c {a0 : NetPrefix} {r : Int} (h : impl_NetPrefix_last_m a0 = some r) : PureC Try.prog 113 [.agg [.d (.int .i64 a0.Addr), .d (.int .i64 a0.Len)]] (.d (.int .i64 r)) [] := by
  refine pureC_m tOk (fn := Try.f113) (c := codeOf Try.f113) rfl rfl (by kernel_rfl) rfl rfl (by simp) (by simp) (ids_of rfl) ?_
  unfold impl_NetPrefix_last_m at h
  conv => whnf
  obtain ⟨x1, hx1, h⟩ := bd_some h
  refine draw_l tOk (by kernel_rfl) (fun j => match j with | 3 => some (0, .d (.int .i64 x1), []) | _ => none) 7 [] [[], [true], [], [false, false, true], [true, true, true, true], [true, true, true, true, true], [true, true, true, true, true, true]] (by decide) (by kernel_rfl) ?_
  conv => whnf
  refine And.intro (callD_any (impl_NetPrefix_size_c hx1) rfl) ?_
  conv => whnf
  obtain rfl := Option.some.inj h
  exact ⟨_, LE.refl _, And.intro rfl trivial⟩

noncomputable def impl_NetPrefix_has_m (a0 : NetPrefix) (a1 : Int) : Option (Bool) :=
 bd (impl_NetPrefix_last_m a0) fun x1 =>
 bd (impl_within_m a1 a0.Addr x1) fun x2 =>
 some x2

theorem impl_NetPrefix_has_c {a0 : NetPrefix} {a1 : Int} {r : Bool} (h : impl_NetPrefix_has_m a0 a1 = some r) : PureC Try.prog 93 [.agg [.d (.int .i64 a0.Addr), .d (.int .i64 a0.Len)], .d (.int .i64 a1)] (.d (.bool r)) [] := by
  refine pureC_m tOk (fn := Try.f93) (c := codeOf Try.f93) rfl rfl (by kernel_rfl) rfl rfl (by simp) (by simp) (ids_of rfl) ?_
  unfold impl_NetPrefix_has_m at h
  conv => whnf
  obtain ⟨x1, hx1, h⟩ := bd_some h
  obtain ⟨x2, hx2, h⟩ := bd_some h
  refine draw_l tOk (by kernel_rfl) (fun j => match j with | 4 => some (0, .d (.int .i64 x1), []) | 5 => some (0, .d (.bool x2), []) | _ => none) 7 [] [[], [], [false, true], [], [false, false, false, true], [true, true, true, true, true], [true, true, true, true, true, true]] (by decide) (by kernel_rfl) ?_
  conv => whnf
  refine And.intro (callD_any (impl_NetPrefix_last_c hx1) rfl) ?_
  conv => whnf
  refine And.intro (callD_any (impl_within_c hx2) rfl) ?_
  conv => whnf
  obtain rfl := Option.some.inj h
  exact ⟨_, LE.refl _, And.intro rfl trivial⟩

noncomputable def impl_NatBook_inside_m (a0 : NatBook) (a1 : Int) : Option (Bool) :=
 bd (impl_NetPrefix_has_m (⟨a0.Addr, a0.Len⟩ : NetPrefix) a1) fun x1 =>
 some x1

theorem impl_NatBook_inside_c {a0 : NatBook} {a1 : Int} {r : Bool} (h : impl_NatBook_inside_m a0 a1 = some r) : PureC Try.prog 49 [.agg [.d (.int .i64 a0.Addr), .d (.int .i64 a0.Len), .d (.int .i64 a0.Own), .d (.int .i64 a0.Low), .d (.int .i64 a0.High), .d (slD NatDoor.enc a0.Doors), .d (.int .i64 a0.Now), .d (slD NatEntry.enc a0.Entries)], .d (.int .i64 a1)] (.d (.bool r)) [] := by
  refine pureC_m tOk (fn := Try.f49) (c := codeOf Try.f49) rfl rfl (by kernel_rfl) rfl rfl (by simp) (by simp) (ids_of rfl) ?_
  unfold impl_NatBook_inside_m at h
  conv => whnf
  obtain ⟨x1, hx1, h⟩ := bd_some h
  refine callC 0 (impl_NetPrefix_has_c hx1) rfl rfl ?_
  clear hx1
  conv => whnf
  obtain rfl := Option.some.inj h
  exact ⟨_, LE.refl _, And.intro rfl trivial⟩

noncomputable def cmp_isNaN_int_m (a0 : Int) : Option (Bool) :=
 some (a0 != a0)

theorem cmp_isNaN_int_c {a0 : Int} {r : Bool} (h : cmp_isNaN_int_m a0 = some r) : PureC Try.prog 114 [.d (.int .i64 a0)] (.d (.bool r)) [] := by
  refine pureC_m tOk (fn := Try.f114) (c := codeOf Try.f114) rfl rfl (by kernel_rfl) rfl rfl (by simp) (by simp) (ids_of rfl) ?_
  unfold cmp_isNaN_int_m at h
  conv => whnf
  obtain rfl := Option.some.inj h
  exact ⟨_, LE.refl _, And.intro rfl trivial⟩

noncomputable def cmp_Compare_int_m (a0 : Int) (a1 : Int) : Option (Int) :=
 bd (cmp_isNaN_int_m a0) fun x1 =>
 bd (cmp_isNaN_int_m a1) fun x2 =>
(if x1 = true then
(if x2 = true then
 some 0
else
 some (-1))
else
(if x2 = true then
 some 1
else
(if (decide (a0 < a1)) = true then
 some (-1)
else
(if (decide (a0 > a1)) = true then
 some 1
else
 some 0))))

theorem cmp_Compare_int_c {a0 : Int} {a1 : Int} {r : Int} (h : cmp_Compare_int_m a0 a1 = some r) : PureC Try.prog 95 [.d (.int .i64 a0), .d (.int .i64 a1)] (.d (.int .i64 r)) [] := by
  refine pureC_m tOk (fn := Try.f95) (c := codeOf Try.f95) rfl rfl (by kernel_rfl) rfl rfl (by simp) (by simp) (ids_of rfl) ?_
  unfold cmp_Compare_int_m at h
  conv => whnf
  obtain ⟨x1, hx1, h⟩ := bd_some h
  refine callC 0 (cmp_isNaN_int_c hx1) rfl rfl ?_
  clear hx1
  conv => whnf
  obtain ⟨x2, hx2, h⟩ := bd_some h
  refine callC 0 (cmp_isNaN_int_c hx2) rfl rfl ?_
  clear hx2
  conv => whnf
  refine And.intro (fun e => ?_) (fun e => ?_)
  · replace h := ite_t h e; clear e
    conv => whnf
    refine And.intro (fun e => ?_) (fun e => ?_)
    · replace h := ite_t h e; clear e
      conv => whnf
      obtain rfl := Option.some.inj h
      exact ⟨_, LE.refl _, And.intro rfl trivial⟩
    · replace h := ite_f h e; clear e
      conv => whnf
      obtain rfl := Option.some.inj h
      exact ⟨_, LE.refl _, And.intro rfl trivial⟩
  · replace h := ite_f h e; clear e
    conv => whnf
    refine And.intro (fun e => ?_) (fun e => ?_)
    · replace h := ite_t h e; clear e
      conv => whnf
      obtain rfl := Option.some.inj h
      exact ⟨_, LE.refl _, And.intro rfl trivial⟩
    · replace h := ite_f h e; clear e
      conv => whnf
      refine And.intro (fun e => ?_) (fun e => ?_)
      · replace h := ite_t h e; clear e
        conv => whnf
        obtain rfl := Option.some.inj h
        exact ⟨_, LE.refl _, And.intro rfl trivial⟩
      · replace h := ite_f h e; clear e
        conv => whnf
        refine And.intro (fun e => ?_) (fun e => ?_)
        · replace h := ite_t h e; clear e
          conv => whnf
          obtain rfl := Option.some.inj h
          exact ⟨_, LE.refl _, And.intro rfl trivial⟩
        · replace h := ite_f h e; clear e
          conv => whnf
          obtain rfl := Option.some.inj h
          exact ⟨_, LE.refl _, And.intro rfl trivial⟩

noncomputable def cmp_Or_int_m (a0 : (List Int)) : Option (Int) :=
 bd (lp (σ := Int) (β := (Int ⊕ Unit)) (fun s1 =>
(if (decide (s1 < ((a0.length : Nat) : Int))) = true then
 gd ((0 : Int) ≤ s1 ∧ s1 < ((a0.length : Nat) : Int)) <|
(if ((a0.getD s1.toNat default) != 0) = true then
 some (.inr (.inl (a0.getD s1.toNat default)))
else
 some (.inl (IntKind.i64.wrap (s1 + 1))))
else
 some (.inr (.inr ())))) 0) fun x4 =>
(match x4 with
| .inl d6 =>
 some d6
| .inr d7 =>
 some 0)

theorem cmp_Or_int_c {a0 : (List Int)} {r : Int} (h : cmp_Or_int_m a0 = some r) : PureC Try.prog 94 [.d (slD encInt a0)] (.d (.int .i64 r)) [] := by
  refine pureC_m tOk (fn := Try.f94) (c := codeOf Try.f94) rfl rfl (by kernel_rfl) rfl rfl (by simp) (by simp) (ids_of rfl) ?_
  unfold cmp_Or_int_m at h
  conv => whnf
  obtain ⟨x4, hx4, h⟩ := bd_some h
  refine loop_m tOk hx4 (fun s1 => ⟨0, 18, [(3, .d (.int .i64 0)), (6, .d (slD encInt a0)), (7, .d (.int .i64 ((a0.length : Nat) : Int))), (8, .d (.int .i64 s1))], [], [], []⟩) ?_ ?_
  · refine le_mk ?_ ?_ ?_ <;> (repeat' first | exact trivial | refine And.intro ?_ ?_ | exact VLe.refl _ | exact BLe.refl _ | (refine VLe.osl rfl ?_; simp) | (refine BLe.rows rfl ?_ fun _ _ => rfl; simp) | exact VLe.nil_osl rfl | (refine VLe.rows ?_ ?_ <;> simp) | exact VLe.any _)
  · clear hx4
    intro s1 y2 g3 hy2
    conv => whnf
    refine And.intro (fun e => ?_) (fun e => ?_)
    · replace g3 := ite_t g3 e; clear e
      conv => whnf
      obtain ⟨g5, g3⟩ := gd_some g3
      refine And.intro g5 ?_
      clear g5
      conv => whnf
      refine And.intro (fun e => ?_) (fun e => ?_)
      · replace g3 := ite_t g3 e; clear e
        conv => whnf
        obtain rfl := Option.some.inj g3
        obtain rfl := hy2 _ rfl
        obtain rfl := Option.some.inj h
        exact ⟨_, LE.refl _, And.intro rfl trivial⟩
      · replace g3 := ite_f g3 e; clear e
        conv => whnf
        obtain rfl := Option.some.inj g3
        refine ⟨_, rfl, le_mk ?_ ?_ ?_⟩ <;> (repeat' first | exact trivial | refine And.intro ?_ ?_ | exact VLe.refl _ | exact BLe.refl _ | (refine VLe.osl rfl ?_; simp) | (refine BLe.rows rfl ?_ fun _ _ => rfl; simp) | exact VLe.nil_osl rfl | (refine VLe.rows ?_ ?_ <;> simp) | exact VLe.any _)
    · replace g3 := ite_f g3 e; clear e
      conv => whnf
      obtain rfl := Option.some.inj g3
      obtain rfl := hy2 _ rfl
      obtain rfl := Option.some.inj h
      exact ⟨_, LE.refl _, And.intro rfl trivial⟩

noncomputable def impl_NatBook_doorsOk_m (a0 : NatBook) : Option (Bool) :=
 bd (lp (σ := Int) (β := (Unit ⊕ Unit)) (fun s1 =>
(if (decide (s1 < ((a0.Doors.length : Nat) : Int))) = true then
 gd ((0 : Int) ≤ s1 ∧ s1 < ((a0.Doors.length : Nat) : Int)) <|
 bd (impl_within_m ((a0.Doors.getD s1.toNat default).Kind) 1 7) fun x6 =>
 bd (gcall ((!x6) = false) (impl_within_m ((a0.Doors.getD s1.toNat default).Outer) 1 65535)) fun x7 =>
 bd (gcall (((!x6) || (!x7)) = false) (impl_within_m ((a0.Doors.getD s1.toNat default).Outer) a0.Low a0.High)) fun x8 =>
 bd (gcall ((((!x6) || (!x7)) || x8) = false) (impl_NatBook_inside_m a0 ((a0.Doors.getD s1.toNat default).Inner))) fun x9 =>
 bd (gcall (((((!x6) || (!x7)) || x8) || (!x9)) = false) (impl_within_m ((a0.Doors.getD s1.toNat default).InnerPort) 1 65535)) fun x10 =>
(if (((((!x6) || (!x7)) || x8) || (!x9)) || (!x10)) = true then
 some (.inr (.inl ()))
else
 gd ((decide (s1 > 0)) = true → ((0 : Int) ≤ IntKind.i64.wrap (s1 - 1) ∧ IntKind.i64.wrap (s1 - 1) < ((a0.Doors.length : Nat) : Int))) <|
 bd (gcall ((decide (s1 > 0)) = true) (cmp_Compare_int_m ((a0.Doors.getD ((IntKind.i64.wrap (s1 - 1)).toNat) default).Kind) ((a0.Doors.getD s1.toNat default).Kind))) fun x12 =>
 gd ((decide (s1 > 0)) = true → ((0 : Int) ≤ IntKind.i64.wrap (s1 - 1) ∧ IntKind.i64.wrap (s1 - 1) < ((a0.Doors.length : Nat) : Int))) <|
 bd (gcall ((decide (s1 > 0)) = true) (cmp_Compare_int_m ((a0.Doors.getD ((IntKind.i64.wrap (s1 - 1)).toNat) default).Outer) ((a0.Doors.getD s1.toNat default).Outer))) fun x14 =>
 bd (gcall ((decide (s1 > 0)) = true) (cmp_Or_int_m ([x12, x14] : List Int))) fun x15 =>
(if ((decide (s1 > 0)) && (decide (x15 ≥ 0))) = true then
 some (.inr (.inl ()))
else
 gd ((0 : Int) ≤ (0 : Int) ∧ (0 : Int) ≤ s1 ∧ s1 ≤ ((a0.Doors.length : Nat) : Int)) <|
 bd (lp (σ := Int) (β := (Unit ⊕ Unit)) (fun s17 =>
(if (decide (s17 < ((s1.toNat : Nat) : Int))) = true then
 gd ((0 : Int) ≤ s17 ∧ s17 < ((s1.toNat : Nat) : Int)) <|
(if (((((a0.Doors.getD s17.toNat default).Kind) == ((a0.Doors.getD s1.toNat default).Kind)) && (((a0.Doors.getD s17.toNat default).Inner) == ((a0.Doors.getD s1.toNat default).Inner))) && (((a0.Doors.getD s17.toNat default).InnerPort) == ((a0.Doors.getD s1.toNat default).InnerPort))) = true then
 some (.inr (.inl ()))
else
 some (.inl (IntKind.i64.wrap (s17 + 1))))
else
 some (.inr (.inr ())))) 0) fun x20 =>
(match x20 with
| .inl d22 =>
 some (.inr (.inl ()))
| .inr d23 =>
 some (.inl (IntKind.i64.wrap (s1 + 1))))))
else
 some (.inr (.inr ())))) 0) fun x4 =>
(match x4 with
| .inl d24 =>
 some false
| .inr d25 =>
 some (decide (((a0.Doors.length : Nat) : Int) ≤ 6)))

theorem impl_NatBook_doorsOk_c {a0 : NatBook} {r : Bool} (h : impl_NatBook_doorsOk_m a0 = some r) : PureC Try.prog 50 [.agg [.d (.int .i64 a0.Addr), .d (.int .i64 a0.Len), .d (.int .i64 a0.Own), .d (.int .i64 a0.Low), .d (.int .i64 a0.High), .d (slD NatDoor.enc a0.Doors), .d (.int .i64 a0.Now), .d (slD NatEntry.enc a0.Entries)]] (.d (.bool r)) [] := by
  refine pureC_m tOk (fn := Try.f50) (c := codeOf Try.f50) rfl rfl (by kernel_rfl) rfl rfl (by simp) (by simp) (ids_of rfl) ?_
  unfold impl_NatBook_doorsOk_m at h
  conv => whnf
  obtain ⟨x4, hx4, h⟩ := bd_some h
  refine loop_m tOk hx4 (fun s1 => ⟨0, 108, [(1, .ref 1 0 0), (8, .d (slD NatDoor.enc a0.Doors)), (9, .d (.int .i64 ((a0.Doors.length : Nat) : Int))), (10, .d (.int .i64 s1))], [], [(1, .box 31 [.d (.int .i64 a0.Addr), .d (.int .i64 a0.Len), .d (.int .i64 a0.Own), .d (.int .i64 a0.Low), .d (.int .i64 a0.High), .d (slD NatDoor.enc a0.Doors), .d (.int .i64 a0.Now), .d (slD NatEntry.enc a0.Entries)])], []⟩) ?_ ?_
  · refine le_mk ?_ ?_ ?_ <;> (repeat' first | exact trivial | refine And.intro ?_ ?_ | exact VLe.refl _ | exact BLe.refl _ | (refine VLe.osl rfl ?_; simp) | (refine BLe.rows rfl ?_ fun _ _ => rfl; simp) | exact VLe.nil_osl rfl | (refine VLe.rows ?_ ?_ <;> simp) | exact VLe.any _)
  · clear hx4
    intro s1 y2 g3 hy2
    conv => whnf
    refine And.intro (fun e => ?_) (fun e => ?_)
    · replace g3 := ite_t g3 e; clear e
      conv => whnf
      obtain ⟨g5, g3⟩ := gd_some g3
      refine And.intro g5 ?_
      clear g5
      conv => whnf
      obtain ⟨x6, hx6, g3⟩ := bd_some g3
      refine callC 0 (impl_within_c hx6) rfl rfl ?_
      clear hx6
      conv => whnf
      obtain ⟨x7, hx7, g3⟩ := bd_some g3
      refine callG_m rfl rfl rfl rfl rfl rfl (by intro c0; exact impl_within_c (gcall_some hx7 c0)) ?_
      conv => whnf
      obtain ⟨x8, hx8, g3⟩ := bd_some g3
      refine callG_m rfl rfl rfl rfl rfl rfl (by intro c0; exact impl_within_c (gcall_some hx8 c0)) ?_
      conv => whnf
      obtain ⟨x9, hx9, g3⟩ := bd_some g3
      refine callG_m rfl rfl rfl rfl rfl rfl (by intro c0; exact impl_NatBook_inside_c (gcall_some hx9 c0)) ?_
      conv => whnf
      obtain ⟨x10, hx10, g3⟩ := bd_some g3
      refine callG_m rfl rfl rfl rfl rfl rfl (by intro c0; exact impl_within_c (gcall_some hx10 c0)) ?_
      conv => whnf
      refine And.intro (fun e => ?_) (fun e => ?_)
      · replace g3 := ite_t g3 e; clear e
        conv => whnf
        obtain rfl := Option.some.inj g3
        obtain rfl := hy2 _ rfl
        obtain rfl := Option.some.inj h
        exact ⟨_, LE.refl _, And.intro rfl trivial⟩
      · replace g3 := ite_f g3 e; clear e
        conv => whnf
        obtain ⟨g11, g3⟩ := gd_some g3
        obtain ⟨x12, hx12, g3⟩ := bd_some g3
        obtain ⟨g13, g3⟩ := gd_some g3
        obtain ⟨x14, hx14, g3⟩ := bd_some g3
        obtain ⟨x15, hx15, g3⟩ := bd_some g3
        refine draw_l tOk (by kernel_rfl) (fun j => match j with | 12 => some (0, .d (.int .i64 x12), []) | 22 => some (0, .d (.int .i64 x14), []) | 24 => some (0, .d (.int .i64 x15), []) | _ => none) 27 [] [[], [true], [true, true], [true, true, true], [true, true, true, true], [true, true, true], [true, true, true, false, false, true], [true, true, true, true, true, true, true], [true, true, true, true, true, true, true, true], [true, true, true, true, true, true, true, true, true], [true, true, true], [true, true, true, false, false, false, false, false, false, false, true], [true, true, true, true, true, true, true, true, true, true, true, true], [true, true, true], [true, true, true, false, false, false, false, false, false, false, false, false, false, true], [true, true, true], [true, true, true, false, false, false, false, false, false, false, false, false, false, false, false, true], [true, true, true, false, false, false, false, false, false, false, false, false, false, true, true, true, true], [true, true, true, false, false, false, false, false, false, false, false, false, false, true, true, true, true, true], [true, true, true, false, false, false, false, false, false, false, false, false, false, true, true, true, true, true, true], [true, true, true], [true, true, true, false, false, false, false, false, false, false, false, false, false, false, false, false, false, false, false, false, true], [true, true, true, true, true, true, true, true, true, true, true, true, true, true, true, true, true, true, true, true, true, true], [true, true, true, true, true, true, true, true, true, true, true, true, true, true, true, true, true, true, true, true, true, true, true], [true, true, true, true, true, true, true, true, true, true, true, true, true, true, true, true, true, true, true, true, true, true, true, true], [true, true, true, true, true, true, true, true, true, true, true, true, true, true, true, true, true, true, true, true, true, true, true, true, true], [true, true, true, true, true, true, true, true, true, true, true, true, true, true, true, true, true, true, true, true, true, true, true, true, true, true]] (by decide) (by kernel_rfl) ?_
        conv => whnf
        refine And.intro g11 ?_
        clear g11
        conv => whnf
        refine And.intro (callDG_if rfl rfl rfl rfl (by intro c0; exact cmp_Compare_int_c (gcall_some hx12 c0))) ?_
        conv => whnf
        refine And.intro g13 ?_
        clear g13
        conv => whnf
        refine And.intro (callDG_if rfl rfl rfl rfl (by intro c0; exact cmp_Compare_int_c (gcall_some hx14 c0))) ?_
        conv => whnf
        refine And.intro (callDG_w rfl rfl rfl rfl (by intro c0; exact cmp_Or_int_c (gcall_some hx15 c0)) (by (repeat' first | exact trivial | refine And.intro ?_ ?_ | exact VLe.refl _ | exact VLe.nil_sl rfl | exact VLe.rows (by simp) (fun _ _ => rfl) | exact VLe.built rfl rfl | exact VLe.rows (by simp [dsub_eq] <;> omega) rows_take | exact VLe.rows (by simp [dsub_eq] <;> omega) rows_dt | exact VLe.rows (by simp [dsub_eq] <;> omega) rows_vt))) ?_
        conv => whnf
        refine And.intro (fun e => ?_) (fun e => ?_)
        · replace g3 := ite_t g3 e; clear e
          conv => whnf
          obtain rfl := Option.some.inj g3
          obtain rfl := hy2 _ rfl
          obtain rfl := Option.some.inj h
          exact ⟨_, LE.refl _, And.intro rfl trivial⟩
        · replace g3 := ite_f g3 e; clear e
          conv => whnf
          obtain ⟨g16, g3⟩ := gd_some g3
          refine And.intro ⟨g16, .inr rfl⟩ ?_
          clear g16
          conv => whnf
          obtain ⟨x20, hx20, g3⟩ := bd_some g3
          refine loop_m tOk hx20 (fun s17 => ⟨0, 108, [(1, .ref 1 0 0), (4, .ref 4 0 0), (8, .d (slD NatDoor.enc a0.Doors)), (9, .d (.int .i64 ((a0.Doors.length : Nat) : Int))), (10, .d (.int .i64 s1)), (77, .d (.sl s1.toNat (rows NatDoor.enc a0.Doors))), (78, .d (.int .i64 ((s1.toNat : Nat) : Int))), (79, .d (.int .i64 s17))], [], [(4, .box 83 [.d (.int .i64 ((a0.Doors.getD s1.toNat default).Kind)), .d (.int .i64 ((a0.Doors.getD s1.toNat default).Outer)), .d (.int .i64 ((a0.Doors.getD s1.toNat default).Inner)), .d (.int .i64 ((a0.Doors.getD s1.toNat default).InnerPort))]), (1, .box 31 [.d (.int .i64 a0.Addr), .d (.int .i64 a0.Len), .d (.int .i64 a0.Own), .d (.int .i64 a0.Low), .d (.int .i64 a0.High), .d (slD NatDoor.enc a0.Doors), .d (.int .i64 a0.Now), .d (slD NatEntry.enc a0.Entries)])], []⟩) ?_ ?_
          · refine le_mk ?_ ?_ ?_ <;> (repeat' first | exact trivial | refine And.intro ?_ ?_ | exact VLe.refl _ | exact BLe.refl _ | (refine VLe.osl rfl ?_; simp) | (refine BLe.rows rfl ?_ fun _ _ => rfl; simp) | exact VLe.nil_osl rfl | (refine VLe.rows ?_ ?_ <;> simp) | exact VLe.any _)
          · clear hx20
            intro s17 y18 g19 hy18
            conv => whnf
            refine And.intro (fun e => ?_) (fun e => ?_)
            · replace g19 := ite_t g19 e; clear e
              conv => whnf
              obtain ⟨g21, g19⟩ := gd_some g19
              refine And.intro g21 ?_
              clear g21
              conv => whnf
              refine And.intro (fun e => ?_) (fun e => ?_)
              · replace g19 := ite_t g19 e; clear e
                conv => whnf
                obtain rfl := Option.some.inj g19
                obtain rfl := hy18 _ rfl
                obtain rfl := Option.some.inj g3
                obtain rfl := hy2 _ rfl
                obtain rfl := Option.some.inj h
                exact ⟨_, LE.refl _, And.intro rfl trivial⟩
              · replace g19 := ite_f g19 e; clear e
                conv => whnf
                obtain rfl := Option.some.inj g19
                refine ⟨_, rfl, le_mk ?_ ?_ ?_⟩ <;> (repeat' first | exact trivial | refine And.intro ?_ ?_ | exact VLe.refl _ | exact BLe.refl _ | (refine VLe.osl rfl ?_; simp) | (refine BLe.rows rfl ?_ fun _ _ => rfl; simp) | exact VLe.nil_osl rfl | (refine VLe.rows ?_ ?_ <;> simp) | exact VLe.any _)
            · replace g19 := ite_f g19 e; clear e
              conv => whnf
              obtain rfl := Option.some.inj g19
              obtain rfl := hy18 _ rfl
              obtain rfl := Option.some.inj g3
              refine ⟨_, rfl, le_mk ?_ ?_ ?_⟩ <;> (repeat' first | exact trivial | refine And.intro ?_ ?_ | exact VLe.refl _ | exact BLe.refl _ | (refine VLe.osl rfl ?_; simp) | (refine BLe.rows rfl ?_ fun _ _ => rfl; simp) | exact VLe.nil_osl rfl | (refine VLe.rows ?_ ?_ <;> simp) | exact VLe.any _)
    · replace g3 := ite_f g3 e; clear e
      conv => whnf
      obtain rfl := Option.some.inj g3
      obtain rfl := hy2 _ rfl
      obtain rfl := Option.some.inj h
      exact ⟨_, LE.refl _, And.intro rfl trivial⟩

noncomputable def impl_NatEntry_flow_m (a0 : NatEntry) : Option (NatFlow) :=
 some (⟨a0.Kind, a0.Inner, a0.InnerPort, a0.Peer, a0.PeerPort⟩ : NatFlow)

theorem impl_NatEntry_flow_c {a0 : NatEntry} {r : NatFlow} (h : impl_NatEntry_flow_m a0 = some r) : PureC Try.prog 60 [.agg [.d (.int .i64 a0.Kind), .d (.int .i64 a0.Peer), .d (.int .i64 a0.PeerPort), .d (.int .i64 a0.Outer), .d (.int .i64 a0.Inner), .d (.int .i64 a0.InnerPort), .d (.int .i64 a0.Last)]] (.agg [.d (.int .i64 r.Kind), .d (.int .i64 r.From), .d (.int .i64 r.FromPort), .d (.int .i64 r.To), .d (.int .i64 r.ToPort)]) [] := by
  refine pureC_m tOk (fn := Try.f60) (c := codeOf Try.f60) rfl rfl (by kernel_rfl) rfl rfl (by simp) (by simp) (ids_of rfl) ?_
  unfold impl_NatEntry_flow_m at h
  conv => whnf
  obtain rfl := Option.some.inj h
  exact ⟨_, LE.refl _, And.intro rfl trivial⟩

noncomputable def impl_NatFlowOk_m (a0 : NatFlow) : Option (Bool) :=
 bd (impl_within_m a0.Kind 1 7) fun x1 =>
 bd (gcall (x1 = true) (impl_within_m a0.From 0 65535)) fun x2 =>
 bd (gcall ((x1 && x2) = true) (impl_within_m a0.To 0 65535)) fun x3 =>
 bd (gcall (((x1 && x2) && x3) = true) (impl_within_m a0.FromPort 1 65535)) fun x4 =>
 bd (gcall ((((x1 && x2) && x3) && x4) = true) (impl_within_m a0.ToPort 1 65535)) fun x5 =>
 some ((((x1 && x2) && x3) && x4) && x5)

theorem impl_NatFlowOk_c {a0 : NatFlow} {r : Bool} (h : impl_NatFlowOk_m a0 = some r) : PureC Try.prog 58 [.agg [.d (.int .i64 a0.Kind), .d (.int .i64 a0.From), .d (.int .i64 a0.FromPort), .d (.int .i64 a0.To), .d (.int .i64 a0.ToPort)]] (.d (.bool r)) [] := by
  refine pureC_m tOk (fn := Try.f58) (c := codeOf Try.f58) rfl rfl (by kernel_rfl) rfl rfl (by simp) (by simp) (ids_of rfl) ?_
  unfold impl_NatFlowOk_m at h
  conv => whnf
  obtain ⟨x1, hx1, h⟩ := bd_some h
  refine callC 0 (impl_within_c hx1) rfl rfl ?_
  clear hx1
  conv => whnf
  obtain ⟨x2, hx2, h⟩ := bd_some h
  refine callG_m rfl rfl rfl rfl rfl rfl (by intro c0; exact impl_within_c (gcall_some hx2 c0)) ?_
  conv => whnf
  obtain ⟨x3, hx3, h⟩ := bd_some h
  refine callG_m rfl rfl rfl rfl rfl rfl (by intro c0; exact impl_within_c (gcall_some hx3 c0)) ?_
  conv => whnf
  obtain ⟨x4, hx4, h⟩ := bd_some h
  refine callG_m rfl rfl rfl rfl rfl rfl (by intro c0; exact impl_within_c (gcall_some hx4 c0)) ?_
  conv => whnf
  obtain ⟨x5, hx5, h⟩ := bd_some h
  refine callG_m rfl rfl rfl rfl rfl rfl (by intro c0; exact impl_within_c (gcall_some hx5 c0)) ?_
  conv => whnf
  obtain rfl := Option.some.inj h
  exact ⟨_, LE.refl _, And.intro rfl trivial⟩

noncomputable def impl_NatBook_age_m (a0 : NatBook) (a1 : NatEntry) : Option (Int) :=
 some (IntKind.i64.wrap (a0.Now - a1.Last))

theorem impl_NatBook_age_c {a0 : NatBook} {a1 : NatEntry} {r : Int} (h : impl_NatBook_age_m a0 a1 = some r) : PureC Try.prog 65 [.agg [.d (.int .i64 a0.Addr), .d (.int .i64 a0.Len), .d (.int .i64 a0.Own), .d (.int .i64 a0.Low), .d (.int .i64 a0.High), .d (slD NatDoor.enc a0.Doors), .d (.int .i64 a0.Now), .d (slD NatEntry.enc a0.Entries)], .agg [.d (.int .i64 a1.Kind), .d (.int .i64 a1.Peer), .d (.int .i64 a1.PeerPort), .d (.int .i64 a1.Outer), .d (.int .i64 a1.Inner), .d (.int .i64 a1.InnerPort), .d (.int .i64 a1.Last)]] (.d (.int .i64 r)) [] := by
  refine pureC_m tOk (fn := Try.f65) (c := codeOf Try.f65) rfl rfl (by kernel_rfl) rfl rfl (by simp) (by simp) (ids_of rfl) ?_
  unfold impl_NatBook_age_m at h
  conv => whnf
  obtain rfl := Option.some.inj h
  exact ⟨_, LE.refl _, And.intro rfl trivial⟩

noncomputable def impl_NatBook_entryOk_m (a0 : NatBook) (a1 : NatEntry) : Option (Bool) :=
 bd (impl_NatEntry_flow_m a1) fun x1 =>
 bd (impl_NatFlowOk_m x1) fun x2 =>
 bd (gcall (x2 = true) (impl_within_m a1.Outer a0.Low a0.High)) fun x3 =>
 bd (gcall ((x2 && x3) = true) (impl_NatBook_inside_m a0 a1.Inner)) fun x4 =>
 bd (gcall (((x2 && x3) && x4) = true) (impl_NatBook_inside_m a0 a1.Peer)) fun x5 =>
 bd (gcall (((((x2 && x3) && x4) && (!x5)) && (a1.Peer != a0.Own)) = true) (impl_within_m a1.Last 0 a0.Now)) fun x6 =>
 bd (gcall ((((((x2 && x3) && x4) && (!x5)) && (a1.Peer != a0.Own)) && x6) = true) (impl_NatBook_age_m a0 a1)) fun x7 =>
 some ((((((x2 && x3) && x4) && (!x5)) && (a1.Peer != a0.Own)) && x6) && (decide (x7 < 12)))

theorem impl_NatBook_entryOk_c {a0 : NatBook} {a1 : NatEntry} {r : Bool} (h : impl_NatBook_entryOk_m a0 a1 = some r) : PureC Try.prog 96 [.agg [.d (.int .i64 a0.Addr), .d (.int .i64 a0.Len), .d (.int .i64 a0.Own), .d (.int .i64 a0.Low), .d (.int .i64 a0.High), .d (slD NatDoor.enc a0.Doors), .d (.int .i64 a0.Now), .d (slD NatEntry.enc a0.Entries)], .agg [.d (.int .i64 a1.Kind), .d (.int .i64 a1.Peer), .d (.int .i64 a1.PeerPort), .d (.int .i64 a1.Outer), .d (.int .i64 a1.Inner), .d (.int .i64 a1.InnerPort), .d (.int .i64 a1.Last)]] (.d (.bool r)) [] := by
  refine pureC_m tOk (fn := Try.f96) (c := codeOf Try.f96) rfl rfl (by kernel_rfl) rfl rfl (by simp) (by simp) (ids_of rfl) ?_
  unfold impl_NatBook_entryOk_m at h
  conv => whnf
  obtain ⟨x1, hx1, h⟩ := bd_some h
  refine callC 0 (impl_NatEntry_flow_c hx1) rfl rfl ?_
  clear hx1
  conv => whnf
  obtain ⟨x2, hx2, h⟩ := bd_some h
  refine callC 0 (impl_NatFlowOk_c hx2) rfl rfl ?_
  clear hx2
  conv => whnf
  obtain ⟨x3, hx3, h⟩ := bd_some h
  refine callG_m rfl rfl rfl rfl rfl rfl (by intro c0; exact impl_within_c (gcall_some hx3 c0)) ?_
  conv => whnf
  obtain ⟨x4, hx4, h⟩ := bd_some h
  refine callG_m rfl rfl rfl rfl rfl rfl (by intro c0; exact impl_NatBook_inside_c (gcall_some hx4 c0)) ?_
  conv => whnf
  obtain ⟨x5, hx5, h⟩ := bd_some h
  refine callG_m rfl rfl rfl rfl rfl rfl (by intro c0; exact impl_NatBook_inside_c (gcall_some hx5 c0)) ?_
  conv => whnf
  obtain ⟨x6, hx6, h⟩ := bd_some h
  refine callG_m rfl rfl rfl rfl rfl rfl (by intro c0; exact impl_within_c (gcall_some hx6 c0)) ?_
  conv => whnf
  obtain ⟨x7, hx7, h⟩ := bd_some h
  refine callG_m rfl rfl rfl rfl rfl rfl (by intro c0; exact impl_NatBook_age_c (gcall_some hx7 c0)) ?_
  conv => whnf
  obtain rfl := Option.some.inj h
  exact ⟨_, LE.refl _, And.intro rfl trivial⟩

noncomputable def impl_NatEntry_compare_m (a0 : NatEntry) (a1 : NatEntry) : Option (Int) :=
 bd (cmp_Compare_int_m a0.Kind a1.Kind) fun x1 =>
 bd (cmp_Compare_int_m a0.Peer a1.Peer) fun x2 =>
 bd (cmp_Compare_int_m a0.PeerPort a1.PeerPort) fun x3 =>
 bd (cmp_Compare_int_m a0.Outer a1.Outer) fun x4 =>
 bd (cmp_Or_int_m ([x1, x2, x3, x4] : List Int)) fun x5 =>
 some x5

theorem impl_NatEntry_compare_c {a0 : NatEntry} {a1 : NatEntry} {r : Int} (h : impl_NatEntry_compare_m a0 a1 = some r) : PureC Try.prog 97 [.agg [.d (.int .i64 a0.Kind), .d (.int .i64 a0.Peer), .d (.int .i64 a0.PeerPort), .d (.int .i64 a0.Outer), .d (.int .i64 a0.Inner), .d (.int .i64 a0.InnerPort), .d (.int .i64 a0.Last)], .agg [.d (.int .i64 a1.Kind), .d (.int .i64 a1.Peer), .d (.int .i64 a1.PeerPort), .d (.int .i64 a1.Outer), .d (.int .i64 a1.Inner), .d (.int .i64 a1.InnerPort), .d (.int .i64 a1.Last)]] (.d (.int .i64 r)) [] := by
  refine pureC_m tOk (fn := Try.f97) (c := codeOf Try.f97) rfl rfl (by kernel_rfl) rfl rfl (by simp) (by simp) (ids_of rfl) ?_
  unfold impl_NatEntry_compare_m at h
  conv => whnf
  obtain ⟨x1, hx1, h⟩ := bd_some h
  obtain ⟨x2, hx2, h⟩ := bd_some h
  obtain ⟨x3, hx3, h⟩ := bd_some h
  obtain ⟨x4, hx4, h⟩ := bd_some h
  obtain ⟨x5, hx5, h⟩ := bd_some h
  refine draw_l tOk (by kernel_rfl) (fun j => match j with | 4 => some (0, .d (.int .i64 x1), []) | 9 => some (0, .d (.int .i64 x2), []) | 14 => some (0, .d (.int .i64 x3), []) | 19 => some (0, .d (.int .i64 x4), []) | 21 => some (0, .d (.int .i64 x5), []) | _ => none) 23 [] [[], [true], [], [false, false, true], [true, true, true, true], [], [false, false, false, false, false, true], [], [false, false, false, false, false, false, false, true], [true, true, true, true, true, true, true, true, true], [], [false, false, false, false, false, false, false, false, false, false, true], [], [false, false, false, false, false, false, false, false, false, false, false, false, true], [true, true, true, true, true, true, true, true, true, true, true, true, true, true], [], [false, false, false, false, false, false, false, false, false, false, false, false, false, false, false, true], [], [false, false, false, false, false, false, false, false, false, false, false, false, false, false, false, false, false, true], [true, true, true, true, true, true, true, true, true, true, true, true, true, true, true, true, true, true, true], [true, true, true, true, true, true, true, true, true, true, true, true, true, true, true, true, true, true, true, true], [true, true, true, true, true, true, true, true, true, true, true, true, true, true, true, true, true, true, true, true, true], [true, true, true, true, true, true, true, true, true, true, true, true, true, true, true, true, true, true, true, true, true, true]] (by decide) (by kernel_rfl) ?_
  conv => whnf
  refine And.intro (callD_any (cmp_Compare_int_c hx1) rfl) ?_
  conv => whnf
  refine And.intro (callD_any (cmp_Compare_int_c hx2) rfl) ?_
  conv => whnf
  refine And.intro (callD_any (cmp_Compare_int_c hx3) rfl) ?_
  conv => whnf
  refine And.intro (callD_any (cmp_Compare_int_c hx4) rfl) ?_
  conv => whnf
  refine ⟨([x1, x2, x3, x4] : List Int).length, rows encInt ([x1, x2, x3, x4] : List Int), rfl, build_rows, ?_⟩
  conv => whnf
  refine And.intro (callD_any (cmp_Or_int_c hx5) rfl) ?_
  conv => whnf
  obtain rfl := Option.some.inj h
  exact ⟨_, LE.refl _, And.intro rfl trivial⟩

noncomputable def impl_NatBook_lives_m (a0 : NatBook) (a1 : NatEntry) : Option (Bool) :=
 bd (impl_NatBook_age_m a0 a1) fun x1 =>
 some (decide (x1 < 8))

theorem impl_NatBook_lives_c {a0 : NatBook} {a1 : NatEntry} {r : Bool} (h : impl_NatBook_lives_m a0 a1 = some r) : PureC Try.prog 59 [.agg [.d (.int .i64 a0.Addr), .d (.int .i64 a0.Len), .d (.int .i64 a0.Own), .d (.int .i64 a0.Low), .d (.int .i64 a0.High), .d (slD NatDoor.enc a0.Doors), .d (.int .i64 a0.Now), .d (slD NatEntry.enc a0.Entries)], .agg [.d (.int .i64 a1.Kind), .d (.int .i64 a1.Peer), .d (.int .i64 a1.PeerPort), .d (.int .i64 a1.Outer), .d (.int .i64 a1.Inner), .d (.int .i64 a1.InnerPort), .d (.int .i64 a1.Last)]] (.d (.bool r)) [] := by
  refine pureC_m tOk (fn := Try.f59) (c := codeOf Try.f59) rfl rfl (by kernel_rfl) rfl rfl (by simp) (by simp) (ids_of rfl) ?_
  unfold impl_NatBook_lives_m at h
  conv => whnf
  obtain ⟨x1, hx1, h⟩ := bd_some h
  refine callC 0 (impl_NatBook_age_c hx1) rfl rfl ?_
  clear hx1
  conv => whnf
  obtain rfl := Option.some.inj h
  exact ⟨_, LE.refl _, And.intro rfl trivial⟩

noncomputable def impl_NatBook_entriesOk_m (a0 : NatBook) : Option (Bool) :=
 bd (lp (σ := Int) (β := (Unit ⊕ Unit)) (fun s1 =>
(if (decide (s1 < ((a0.Entries.length : Nat) : Int))) = true then
 gd ((0 : Int) ≤ s1 ∧ s1 < ((a0.Entries.length : Nat) : Int)) <|
 bd (impl_NatBook_entryOk_m a0 (a0.Entries.getD s1.toNat default)) fun x6 =>
 gd ((decide (s1 > 0)) = true → ((!x6) = false → ((0 : Int) ≤ IntKind.i64.wrap (s1 - 1) ∧ IntKind.i64.wrap (s1 - 1) < ((a0.Entries.length : Nat) : Int)))) <|
 bd (gcall ((decide (s1 > 0)) = true ∧ (!x6) = false) (impl_NatEntry_compare_m (a0.Entries.getD ((IntKind.i64.wrap (s1 - 1)).toNat) default) (a0.Entries.getD s1.toNat default))) fun x8 =>
(if ((!x6) || ((decide (s1 > 0)) && (decide (x8 ≥ 0)))) = true then
 some (.inr (.inl ()))
else
 gd ((0 : Int) ≤ (0 : Int) ∧ (0 : Int) ≤ s1 ∧ s1 ≤ ((a0.Entries.length : Nat) : Int)) <|
 bd (lp (σ := Int) (β := (Unit ⊕ Unit)) (fun s10 =>
(if (decide (s10 < ((s1.toNat : Nat) : Int))) = true then
 gd ((0 : Int) ≤ s10 ∧ s10 < ((s1.toNat : Nat) : Int)) <|
 bd (impl_NatBook_lives_m a0 (a0.Entries.getD s1.toNat default)) fun x15 =>
 bd (gcall (x15 = true) (impl_NatBook_lives_m a0 (a0.Entries.getD s10.toNat default))) fun x16 =>
 bd (gcall ((x15 && x16) = true) (impl_NatEntry_flow_m (a0.Entries.getD s1.toNat default))) fun x17 =>
 bd (gcall ((x15 && x16) = true) (impl_NatEntry_flow_m (a0.Entries.getD s10.toNat default))) fun x18 =>
(if ((x15 && x16) && ((x17.Kind == x18.Kind) && ((x17.From == x18.From) && ((x17.FromPort == x18.FromPort) && ((x17.To == x18.To) && ((x17.ToPort == x18.ToPort) && true)))))) = true then
 some (.inr (.inl ()))
else
 some (.inl (IntKind.i64.wrap (s10 + 1))))
else
 some (.inr (.inr ())))) 0) fun x13 =>
(match x13 with
| .inl d19 =>
 some (.inr (.inl ()))
| .inr d20 =>
 some (.inl (IntKind.i64.wrap (s1 + 1)))))
else
 some (.inr (.inr ())))) 0) fun x4 =>
(match x4 with
| .inl d21 =>
 some false
| .inr d22 =>
 some (decide (((a0.Entries.length : Nat) : Int) ≤ 16)))

theorem impl_NatBook_entriesOk_c {a0 : NatBook} {r : Bool} (h : impl_NatBook_entriesOk_m a0 = some r) : PureC Try.prog 51 [.agg [.d (.int .i64 a0.Addr), .d (.int .i64 a0.Len), .d (.int .i64 a0.Own), .d (.int .i64 a0.Low), .d (.int .i64 a0.High), .d (slD NatDoor.enc a0.Doors), .d (.int .i64 a0.Now), .d (slD NatEntry.enc a0.Entries)]] (.d (.bool r)) [] := by
  refine pureC_m tOk (fn := Try.f51) (c := codeOf Try.f51) rfl rfl (by kernel_rfl) rfl rfl (by simp) (by simp) (ids_of rfl) ?_
  unfold impl_NatBook_entriesOk_m at h
  conv => whnf
  obtain ⟨x4, hx4, h⟩ := bd_some h
  refine loop_m tOk hx4 (fun s1 => ⟨0, 64, [(1, .ref 1 0 0), (8, .d (slD NatEntry.enc a0.Entries)), (9, .d (.int .i64 ((a0.Entries.length : Nat) : Int))), (10, .d (.int .i64 s1))], [], [(1, .box 31 [.d (.int .i64 a0.Addr), .d (.int .i64 a0.Len), .d (.int .i64 a0.Own), .d (.int .i64 a0.Low), .d (.int .i64 a0.High), .d (slD NatDoor.enc a0.Doors), .d (.int .i64 a0.Now), .d (slD NatEntry.enc a0.Entries)])], []⟩) ?_ ?_
  · refine le_mk ?_ ?_ ?_ <;> (repeat' first | exact trivial | refine And.intro ?_ ?_ | exact VLe.refl _ | exact BLe.refl _ | (refine VLe.osl rfl ?_; simp) | (refine BLe.rows rfl ?_ fun _ _ => rfl; simp) | exact VLe.nil_osl rfl | (refine VLe.rows ?_ ?_ <;> simp) | exact VLe.any _)
  · clear hx4
    intro s1 y2 g3 hy2
    conv => whnf
    refine And.intro (fun e => ?_) (fun e => ?_)
    · replace g3 := ite_t g3 e; clear e
      conv => whnf
      obtain ⟨g5, g3⟩ := gd_some g3
      refine And.intro g5 ?_
      clear g5
      conv => whnf
      obtain ⟨x6, hx6, g3⟩ := bd_some g3
      obtain ⟨g7, g3⟩ := gd_some g3
      obtain ⟨x8, hx8, g3⟩ := bd_some g3
      refine draw_l tOk (by kernel_rfl) (fun j => match j with | 2 => some (0, .d (.bool x6), []) | 15 => some (0, .d (.int .i64 x8), []) | _ => none) 19 [] [[], [], [true, true], [true, true, true], [true, true, true, true], [true, true, true, true, true], [true, true, true, true, true, true], [true, true, true, true, true, true, true], [true, true, true, true, true, true, true, true], [true, true, true, true, true, true, true, true, true], [true, true, true, true, true, true, true, true], [true, true, true, true, true, true, true, true, false, false, true], [true, true, true, true, true, true, true, true, true, true, true, true], [true, true, true, true, true, true, true, true, true, true, true, true, true], [true, true, true, true, true, true, true, true], [true, true, true, true, true, true, true, true, true, true, true, true, true, true, true], [true, true, true, true, true, true, true, true, true, true, true, true, true, true, true, true], [true, true, true, true, true, true, true, true, true, true, true, true, true, true, true, true, true], [true, true, true, true, true, true, true, true, true, true, true, true, true, true, true, true, true, true]] (by decide) (by kernel_rfl) ?_
      conv => whnf
      refine And.intro (callD_any (impl_NatBook_entryOk_c hx6) rfl) ?_
      conv => whnf
      refine And.intro g7 ?_
      clear g7
      conv => whnf
      refine And.intro (callDG_if rfl rfl rfl rfl (by intro c0 c1; exact impl_NatEntry_compare_c (gcall_some hx8 ⟨c0, c1⟩))) ?_
      conv => whnf
      refine And.intro (fun e => ?_) (fun e => ?_)
      · replace g3 := ite_t g3 e; clear e
        conv => whnf
        obtain rfl := Option.some.inj g3
        obtain rfl := hy2 _ rfl
        obtain rfl := Option.some.inj h
        exact ⟨_, LE.refl _, And.intro rfl trivial⟩
      · replace g3 := ite_f g3 e; clear e
        conv => whnf
        obtain ⟨g9, g3⟩ := gd_some g3
        refine And.intro ⟨g9, .inr rfl⟩ ?_
        clear g9
        conv => whnf
        obtain ⟨x13, hx13, g3⟩ := bd_some g3
        refine loop_m tOk hx13 (fun s10 => ⟨0, 64, [(1, .ref 1 0 0), (4, .ref 4 0 0), (8, .d (slD NatEntry.enc a0.Entries)), (9, .d (.int .i64 ((a0.Entries.length : Nat) : Int))), (10, .d (.int .i64 s1)), (37, .d (.sl s1.toNat (rows NatEntry.enc a0.Entries))), (38, .d (.int .i64 ((s1.toNat : Nat) : Int))), (39, .d (.int .i64 s10))], [], [(4, .box 52 [.d (.int .i64 ((a0.Entries.getD s1.toNat default).Kind)), .d (.int .i64 ((a0.Entries.getD s1.toNat default).Peer)), .d (.int .i64 ((a0.Entries.getD s1.toNat default).PeerPort)), .d (.int .i64 ((a0.Entries.getD s1.toNat default).Outer)), .d (.int .i64 ((a0.Entries.getD s1.toNat default).Inner)), .d (.int .i64 ((a0.Entries.getD s1.toNat default).InnerPort)), .d (.int .i64 ((a0.Entries.getD s1.toNat default).Last))]), (1, .box 31 [.d (.int .i64 a0.Addr), .d (.int .i64 a0.Len), .d (.int .i64 a0.Own), .d (.int .i64 a0.Low), .d (.int .i64 a0.High), .d (slD NatDoor.enc a0.Doors), .d (.int .i64 a0.Now), .d (slD NatEntry.enc a0.Entries)])], []⟩) ?_ ?_
        · refine le_mk ?_ ?_ ?_ <;> (repeat' first | exact trivial | refine And.intro ?_ ?_ | exact VLe.refl _ | exact BLe.refl _ | (refine VLe.osl rfl ?_; simp) | (refine BLe.rows rfl ?_ fun _ _ => rfl; simp) | exact VLe.nil_osl rfl | (refine VLe.rows ?_ ?_ <;> simp) | exact VLe.any _)
        · clear hx13
          intro s10 y11 g12 hy11
          conv => whnf
          refine And.intro (fun e => ?_) (fun e => ?_)
          · replace g12 := ite_t g12 e; clear e
            conv => whnf
            obtain ⟨g14, g12⟩ := gd_some g12
            refine And.intro g14 ?_
            clear g14
            conv => whnf
            obtain ⟨x15, hx15, g12⟩ := bd_some g12
            obtain ⟨x16, hx16, g12⟩ := bd_some g12
            obtain ⟨x17, hx17, g12⟩ := bd_some g12
            obtain ⟨x18, hx18, g12⟩ := bd_some g12
            refine draw_l tOk (by kernel_rfl) (fun j => match j with | 2 => some (0, .d (.bool x15), []) | 6 => some (0, .d (.bool x16), []) | 10 => some (0, .agg [.d (.int .i64 x17.Kind), .d (.int .i64 x17.From), .d (.int .i64 x17.FromPort), .d (.int .i64 x17.To), .d (.int .i64 x17.ToPort)], []) | 12 => some (0, .agg [.d (.int .i64 x18.Kind), .d (.int .i64 x18.From), .d (.int .i64 x18.FromPort), .d (.int .i64 x18.To), .d (.int .i64 x18.ToPort)], []) | _ => none) 15 [] [[], [], [true, true], [true, true, true], [true, true, true, true], [true, true, true, true], [true, true, true, true, true, true], [true, true, true, true, true, true, true], [true, true, true, true, true, true, true, true], [true, true, true, true, true, true, true, true, true], [true, true, true, true, true, true, true, true, true, true], [true, true, true, true, true, true, true, true, true], [true, true, true, true, true, true, true, true, true, true, true, true], [true, true, true, true, true, true, true, true, true, true, true, true, true], [true, true, true, true, true, true, true, true, true, true, true, true, true, true]] (by decide) (by kernel_rfl) ?_
            conv => whnf
            refine And.intro (callD_any (impl_NatBook_lives_c hx15) rfl) ?_
            conv => whnf
            refine And.intro (callDG_if rfl rfl rfl rfl (by intro c0; exact impl_NatBook_lives_c (gcall_some hx16 c0))) ?_
            conv => whnf
            refine And.intro (callDG_if rfl rfl rfl rfl (by intro c0; exact impl_NatEntry_flow_c (gcall_some hx17 c0))) ?_
            conv => whnf
            refine And.intro (callDG_if rfl rfl rfl rfl (by intro c0; exact impl_NatEntry_flow_c (gcall_some hx18 c0))) ?_
            conv => whnf
            refine And.intro (fun e => ?_) (fun e => ?_)
            · replace g12 := ite_t g12 e; clear e
              conv => whnf
              obtain rfl := Option.some.inj g12
              obtain rfl := hy11 _ rfl
              obtain rfl := Option.some.inj g3
              obtain rfl := hy2 _ rfl
              obtain rfl := Option.some.inj h
              exact ⟨_, LE.refl _, And.intro rfl trivial⟩
            · replace g12 := ite_f g12 e; clear e
              conv => whnf
              obtain rfl := Option.some.inj g12
              refine ⟨_, rfl, le_mk ?_ ?_ ?_⟩ <;> (repeat' first | exact trivial | refine And.intro ?_ ?_ | exact VLe.refl _ | exact BLe.refl _ | (refine VLe.osl rfl ?_; simp) | (refine BLe.rows rfl ?_ fun _ _ => rfl; simp) | exact VLe.nil_osl rfl | (refine VLe.rows ?_ ?_ <;> simp) | exact VLe.any _)
          · replace g12 := ite_f g12 e; clear e
            conv => whnf
            obtain rfl := Option.some.inj g12
            obtain rfl := hy11 _ rfl
            obtain rfl := Option.some.inj g3
            refine ⟨_, rfl, le_mk ?_ ?_ ?_⟩ <;> (repeat' first | exact trivial | refine And.intro ?_ ?_ | exact VLe.refl _ | exact BLe.refl _ | (refine VLe.osl rfl ?_; simp) | (refine BLe.rows rfl ?_ fun _ _ => rfl; simp) | exact VLe.nil_osl rfl | (refine VLe.rows ?_ ?_ <;> simp) | exact VLe.any _)
    · replace g3 := ite_f g3 e; clear e
      conv => whnf
      obtain rfl := Option.some.inj g3
      obtain rfl := hy2 _ rfl
      obtain rfl := Option.some.inj h
      exact ⟨_, LE.refl _, And.intro rfl trivial⟩

noncomputable def impl_NatBookOk_m (a0 : NatBook) : Option (Bool) :=
 bd (impl_NetOk_m (⟨a0.Addr, a0.Len⟩ : NetPrefix)) fun x1 =>
 bd (gcall ((!x1) = false) (impl_within_m a0.Own 0 65535)) fun x2 =>
 bd (gcall (((!x1) || (!x2)) = false) (impl_NatBook_inside_m a0 a0.Own)) fun x3 =>
 bd (gcall (((((((!x1) || (!x2)) || x3) || (decide (a0.Low < 1))) || (decide (a0.Low > a0.High))) || (decide (a0.High > 65535))) = false) (impl_within_m a0.Now 0 1000000)) fun x4 =>
(if (((((((!x1) || (!x2)) || x3) || (decide (a0.Low < 1))) || (decide (a0.Low > a0.High))) || (decide (a0.High > 65535))) || (!x4)) = true then
 some false
else
 bd (impl_NatBook_doorsOk_m a0) fun x5 =>
 bd (gcall (x5 = true) (impl_NatBook_entriesOk_m a0)) fun x6 =>
 some (x5 && x6))

theorem impl_NatBookOk_c {a0 : NatBook} {r : Bool} (h : impl_NatBookOk_m a0 = some r) : PureC Try.prog 16 [.agg [.d (.int .i64 a0.Addr), .d (.int .i64 a0.Len), .d (.int .i64 a0.Own), .d (.int .i64 a0.Low), .d (.int .i64 a0.High), .d (slD NatDoor.enc a0.Doors), .d (.int .i64 a0.Now), .d (slD NatEntry.enc a0.Entries)]] (.d (.bool r)) [] := by
  refine pureC_m tOk (fn := Try.f16) (c := codeOf Try.f16) rfl rfl (by kernel_rfl) rfl rfl (by simp) (by simp) (ids_of rfl) ?_
  unfold impl_NatBookOk_m at h
  conv => whnf
  obtain ⟨x1, hx1, h⟩ := bd_some h
  refine callC 0 (impl_NetOk_c hx1) rfl rfl ?_
  clear hx1
  conv => whnf
  obtain ⟨x2, hx2, h⟩ := bd_some h
  refine callG_m rfl rfl rfl rfl rfl rfl (by intro c0; exact impl_within_c (gcall_some hx2 c0)) ?_
  conv => whnf
  obtain ⟨x3, hx3, h⟩ := bd_some h
  refine callG_m rfl rfl rfl rfl rfl rfl (by intro c0; exact impl_NatBook_inside_c (gcall_some hx3 c0)) ?_
  conv => whnf
  obtain ⟨x4, hx4, h⟩ := bd_some h
  refine callG_m rfl rfl rfl rfl rfl rfl (by intro c0; exact impl_within_c (gcall_some hx4 c0)) ?_
  conv => whnf
  refine And.intro (fun e => ?_) (fun e => ?_)
  · replace h := ite_t h e; clear e
    conv => whnf
    obtain rfl := Option.some.inj h
    exact ⟨_, LE.refl _, And.intro rfl trivial⟩
  · replace h := ite_f h e; clear e
    conv => whnf
    obtain ⟨x5, hx5, h⟩ := bd_some h
    refine callC 0 (impl_NatBook_doorsOk_c hx5) rfl rfl ?_
    clear hx5
    conv => whnf
    obtain ⟨x6, hx6, h⟩ := bd_some h
    refine callG_m rfl rfl rfl rfl rfl rfl (by intro c0; exact impl_NatBook_entriesOk_c (gcall_some hx6 c0)) ?_
    conv => whnf
    obtain rfl := Option.some.inj h
    exact ⟨_, LE.refl _, And.intro rfl trivial⟩

noncomputable def impl_NatInside_m (a0 : NatBook) (a1 : Int) : Option (Bool) :=
 bd (impl_NatBookOk_m a0) fun x1 =>
 bd (gcall (x1 = true) (impl_NatBook_inside_m a0 a1)) fun x2 =>
 some (x1 && x2)

theorem impl_NatInside_c {a0 : NatBook} {a1 : Int} {r : Bool} (h : impl_NatInside_m a0 a1 = some r) : PureC Try.prog 19 [.agg [.d (.int .i64 a0.Addr), .d (.int .i64 a0.Len), .d (.int .i64 a0.Own), .d (.int .i64 a0.Low), .d (.int .i64 a0.High), .d (slD NatDoor.enc a0.Doors), .d (.int .i64 a0.Now), .d (slD NatEntry.enc a0.Entries)], .d (.int .i64 a1)] (.d (.bool r)) [] := by
  refine pureC_m tOk (fn := Try.f19) (c := codeOf Try.f19) rfl rfl (by kernel_rfl) rfl rfl (by simp) (by simp) (ids_of rfl) ?_
  unfold impl_NatInside_m at h
  conv => whnf
  obtain ⟨x1, hx1, h⟩ := bd_some h
  refine callC 0 (impl_NatBookOk_c hx1) rfl rfl ?_
  clear hx1
  conv => whnf
  obtain ⟨x2, hx2, h⟩ := bd_some h
  refine callG_m rfl rfl rfl rfl rfl rfl (by intro c0; exact impl_NatBook_inside_c (gcall_some hx2 c0)) ?_
  conv => whnf
  obtain rfl := Option.some.inj h
  exact ⟨_, LE.refl _, And.intro rfl trivial⟩

noncomputable def spec_l21In_m (a0 : Int) (a1 : Int) (a2 : Int) : Option (Bool) :=
 some ((decide (a0 ≥ a1)) && (decide (a0 ≤ a2)))

theorem spec_l21In_c {a0 : Int} {a1 : Int} {a2 : Int} {r : Bool} (h : spec_l21In_m a0 a1 a2 = some r) : PureC Try.prog 83 [.d (.int .i64 a0), .d (.int .i64 a1), .d (.int .i64 a2)] (.d (.bool r)) [] := by
  refine pureC_m tOk (fn := Try.f83) (c := codeOf Try.f83) rfl rfl (by kernel_rfl) rfl rfl (by simp) (by simp) (ids_of rfl) ?_
  unfold spec_l21In_m at h
  conv => whnf
  obtain rfl := Option.some.inj h
  exact ⟨_, LE.refl _, And.intro rfl trivial⟩

noncomputable def spec_l22Size_m (a0 : Int) : Option (Int) :=
 bd (lp (σ := Int × Int) (β := (Int)) (fun s1 =>
(if (decide (s1.2 < 16)) = true then
 some (.inl (IntKind.i64.wrap (s1.1 * 2), IntKind.i64.wrap (s1.2 + 1)))
else
 some (.inr s1.1))) (1, a0)) fun x4 =>
 some x4

theorem spec_l22Size_c {a0 : Int} {r : Int} (h : spec_l22Size_m a0 = some r) : PureC Try.prog 84 [.d (.int .i64 a0)] (.d (.int .i64 r)) [] := by
  refine pureC_m tOk (fn := Try.f84) (c := codeOf Try.f84) rfl rfl (by kernel_rfl) rfl rfl (by simp) (by simp) (ids_of rfl) ?_
  unfold spec_l22Size_m at h
  conv => whnf
  obtain ⟨x4, hx4, h⟩ := bd_some h
  refine loop_m tOk hx4 (fun s1 => ⟨0, 13, [(3, .d (.int .i64 s1.1)), (4, .d (.int .i64 s1.2))], [], [], []⟩) ?_ ?_
  · refine le_mk ?_ ?_ ?_ <;> (repeat' first | exact trivial | refine And.intro ?_ ?_ | exact VLe.refl _ | exact BLe.refl _ | (refine VLe.osl rfl ?_; simp) | (refine BLe.rows rfl ?_ fun _ _ => rfl; simp) | exact VLe.nil_osl rfl | (refine VLe.rows ?_ ?_ <;> simp) | exact VLe.any _)
  · clear hx4
    intro s1 y2 g3 hy2
    conv => whnf
    refine And.intro (fun e => ?_) (fun e => ?_)
    · replace g3 := ite_t g3 e; clear e
      conv => whnf
      obtain rfl := Option.some.inj g3
      refine ⟨_, rfl, le_mk ?_ ?_ ?_⟩ <;> (repeat' first | exact trivial | refine And.intro ?_ ?_ | exact VLe.refl _ | exact BLe.refl _ | (refine VLe.osl rfl ?_; simp) | (refine BLe.rows rfl ?_ fun _ _ => rfl; simp) | exact VLe.nil_osl rfl | (refine VLe.rows ?_ ?_ <;> simp) | exact VLe.any _)
    · replace g3 := ite_f g3 e; clear e
      conv => whnf
      obtain rfl := Option.some.inj g3
      obtain rfl := hy2 _ rfl
      obtain rfl := Option.some.inj h
      exact ⟨_, LE.refl _, And.intro rfl trivial⟩

noncomputable def spec_l22Inside_m (a0 : NatBook) (a1 : Int) : Option (Bool) :=
 bd (gcall ((decide (a1 ≥ a0.Addr)) = true) (spec_l22Size_m a0.Len)) fun x1 =>
 some ((decide (a1 ≥ a0.Addr)) && (decide (a1 < (IntKind.i64.wrap (a0.Addr + x1)))))

theorem spec_l22Inside_c {a0 : NatBook} {a1 : Int} {r : Bool} (h : spec_l22Inside_m a0 a1 = some r) : PureC Try.prog 54 [.agg [.d (.int .i64 a0.Addr), .d (.int .i64 a0.Len), .d (.int .i64 a0.Own), .d (.int .i64 a0.Low), .d (.int .i64 a0.High), .d (slD NatDoor.enc a0.Doors), .d (.int .i64 a0.Now), .d (slD NatEntry.enc a0.Entries)], .d (.int .i64 a1)] (.d (.bool r)) [] := by
  refine pureC_m tOk (fn := Try.f54) (c := codeOf Try.f54) rfl rfl (by kernel_rfl) rfl rfl (by simp) (by simp) (ids_of rfl) ?_
  unfold spec_l22Inside_m at h
  conv => whnf
  obtain ⟨x1, hx1, h⟩ := bd_some h
  refine draw_l tOk (by kernel_rfl) (fun j => match j with | 10 => some (0, .d (.int .i64 x1), []) | _ => none) 15 [] [[], [], [false, true], [true, true, true], [true, true, true, true], [true, true, true, true, true], [true, true, true, true, true], [true, true, true, true, true, false, true], [true, true, true, true, true], [true, true, true, true, true, false, false, false, true], [true, true, true, true, true, false, false, false, true, true], [true, true, true, true, true, false, true, true, true, true, true], [true, true, true, true, true, true, true, true, true, true, true, true], [true, true, true, true, true, true, true, true, true, true, true, true, true], [true, true, true, true, true, true, true, true, true, true, true, true, true, true]] (by decide) (by kernel_rfl) ?_
  conv => whnf
  refine And.intro (callDG_if rfl rfl rfl rfl (by intro c0; exact spec_l22Size_c (gcall_some hx1 c0))) ?_
  conv => whnf
  obtain rfl := Option.some.inj h
  exact ⟨_, LE.refl _, And.intro rfl trivial⟩

noncomputable def spec_l22DoorOk_m (a0 : NatBook) (a1 : NatDoor) : Option (Bool) :=
 bd (spec_l21In_m a1.Kind 1 7) fun x1 =>
 bd (gcall (x1 = true) (spec_l21In_m a1.Outer 1 65535)) fun x2 =>
 bd (gcall ((x1 && x2) = true) (spec_l21In_m a1.Outer a0.Low a0.High)) fun x3 =>
 bd (gcall (((x1 && x2) && (!x3)) = true) (spec_l22Inside_m a0 a1.Inner)) fun x4 =>
 bd (gcall ((((x1 && x2) && (!x3)) && x4) = true) (spec_l21In_m a1.InnerPort 1 65535)) fun x5 =>
 some ((((x1 && x2) && (!x3)) && x4) && x5)

theorem spec_l22DoorOk_c {a0 : NatBook} {a1 : NatDoor} {r : Bool} (h : spec_l22DoorOk_m a0 a1 = some r) : PureC Try.prog 85 [.agg [.d (.int .i64 a0.Addr), .d (.int .i64 a0.Len), .d (.int .i64 a0.Own), .d (.int .i64 a0.Low), .d (.int .i64 a0.High), .d (slD NatDoor.enc a0.Doors), .d (.int .i64 a0.Now), .d (slD NatEntry.enc a0.Entries)], .agg [.d (.int .i64 a1.Kind), .d (.int .i64 a1.Outer), .d (.int .i64 a1.Inner), .d (.int .i64 a1.InnerPort)]] (.d (.bool r)) [] := by
  refine pureC_m tOk (fn := Try.f85) (c := codeOf Try.f85) rfl rfl (by kernel_rfl) rfl rfl (by simp) (by simp) (ids_of rfl) ?_
  unfold spec_l22DoorOk_m at h
  conv => whnf
  obtain ⟨x1, hx1, h⟩ := bd_some h
  refine callC 0 (spec_l21In_c hx1) rfl rfl ?_
  clear hx1
  conv => whnf
  obtain ⟨x2, hx2, h⟩ := bd_some h
  refine callG_m rfl rfl rfl rfl rfl rfl (by intro c0; exact spec_l21In_c (gcall_some hx2 c0)) ?_
  conv => whnf
  obtain ⟨x3, hx3, h⟩ := bd_some h
  refine callG_m rfl rfl rfl rfl rfl rfl (by intro c0; exact spec_l21In_c (gcall_some hx3 c0)) ?_
  conv => whnf
  obtain ⟨x4, hx4, h⟩ := bd_some h
  refine callG_m rfl rfl rfl rfl rfl rfl (by intro c0; exact spec_l22Inside_c (gcall_some hx4 c0)) ?_
  conv => whnf
  obtain ⟨x5, hx5, h⟩ := bd_some h
  refine callG_m rfl rfl rfl rfl rfl rfl (by intro c0; exact spec_l21In_c (gcall_some hx5 c0)) ?_
  conv => whnf
  obtain rfl := Option.some.inj h
  exact ⟨_, LE.refl _, And.intro rfl trivial⟩

noncomputable def spec_l22EntryOk_m (a0 : NatBook) (a1 : NatEntry) : Option (Bool) :=
 bd (spec_l21In_m a1.Kind 1 7) fun x1 =>
 bd (gcall ((!x1) = false) (spec_l21In_m a1.Peer 0 65535)) fun x2 =>
 bd (gcall (((!x1) || (!x2)) = false) (spec_l22Inside_m a0 a1.Peer)) fun x3 =>
 bd (gcall (((((!x1) || (!x2)) || x3) || (a1.Peer == a0.Own)) = false) (spec_l21In_m a1.PeerPort 1 65535)) fun x4 =>
(if (((((!x1) || (!x2)) || x3) || (a1.Peer == a0.Own)) || (!x4)) = true then
 some false
else
 bd (spec_l21In_m a1.Outer a0.Low a0.High) fun x5 =>
 bd (gcall ((!x5) = false) (spec_l22Inside_m a0 a1.Inner)) fun x6 =>
 bd (gcall (((!x5) || (!x6)) = false) (spec_l21In_m a1.InnerPort 1 65535)) fun x7 =>
(if (((!x5) || (!x6)) || (!x7)) = true then
 some false
else
 bd (spec_l21In_m a1.Last 0 a0.Now) fun x8 =>
 some (x8 && (decide ((IntKind.i64.wrap (a0.Now - a1.Last)) < 12)))))

theorem spec_l22EntryOk_c {a0 : NatBook} {a1 : NatEntry} {r : Bool} (h : spec_l22EntryOk_m a0 a1 = some r) : PureC Try.prog 86 [.agg [.d (.int .i64 a0.Addr), .d (.int .i64 a0.Len), .d (.int .i64 a0.Own), .d (.int .i64 a0.Low), .d (.int .i64 a0.High), .d (slD NatDoor.enc a0.Doors), .d (.int .i64 a0.Now), .d (slD NatEntry.enc a0.Entries)], .agg [.d (.int .i64 a1.Kind), .d (.int .i64 a1.Peer), .d (.int .i64 a1.PeerPort), .d (.int .i64 a1.Outer), .d (.int .i64 a1.Inner), .d (.int .i64 a1.InnerPort), .d (.int .i64 a1.Last)]] (.d (.bool r)) [] := by
  refine pureC_m tOk (fn := Try.f86) (c := codeOf Try.f86) rfl rfl (by kernel_rfl) rfl rfl (by simp) (by simp) (ids_of rfl) ?_
  unfold spec_l22EntryOk_m at h
  conv => whnf
  obtain ⟨x1, hx1, h⟩ := bd_some h
  refine callC 0 (spec_l21In_c hx1) rfl rfl ?_
  clear hx1
  conv => whnf
  obtain ⟨x2, hx2, h⟩ := bd_some h
  refine callG_m rfl rfl rfl rfl rfl rfl (by intro c0; exact spec_l21In_c (gcall_some hx2 c0)) ?_
  conv => whnf
  obtain ⟨x3, hx3, h⟩ := bd_some h
  refine callG_m rfl rfl rfl rfl rfl rfl (by intro c0; exact spec_l22Inside_c (gcall_some hx3 c0)) ?_
  conv => whnf
  obtain ⟨x4, hx4, h⟩ := bd_some h
  refine callG_m rfl rfl rfl rfl rfl rfl (by intro c0; exact spec_l21In_c (gcall_some hx4 c0)) ?_
  conv => whnf
  refine And.intro (fun e => ?_) (fun e => ?_)
  · replace h := ite_t h e; clear e
    conv => whnf
    obtain rfl := Option.some.inj h
    exact ⟨_, LE.refl _, And.intro rfl trivial⟩
  · replace h := ite_f h e; clear e
    conv => whnf
    obtain ⟨x5, hx5, h⟩ := bd_some h
    refine callC 0 (spec_l21In_c hx5) rfl rfl ?_
    clear hx5
    conv => whnf
    obtain ⟨x6, hx6, h⟩ := bd_some h
    refine callG_m rfl rfl rfl rfl rfl rfl (by intro c0; exact spec_l22Inside_c (gcall_some hx6 c0)) ?_
    conv => whnf
    obtain ⟨x7, hx7, h⟩ := bd_some h
    refine callG_m rfl rfl rfl rfl rfl rfl (by intro c0; exact spec_l21In_c (gcall_some hx7 c0)) ?_
    conv => whnf
    refine And.intro (fun e => ?_) (fun e => ?_)
    · replace h := ite_t h e; clear e
      conv => whnf
      obtain rfl := Option.some.inj h
      exact ⟨_, LE.refl _, And.intro rfl trivial⟩
    · replace h := ite_f h e; clear e
      conv => whnf
      obtain ⟨x8, hx8, h⟩ := bd_some h
      refine callC 0 (spec_l21In_c hx8) rfl rfl ?_
      clear hx8
      conv => whnf
      obtain rfl := Option.some.inj h
      exact ⟨_, LE.refl _, And.intro rfl trivial⟩

noncomputable def spec_l22Less_m (a0 : NatEntry) (a1 : NatEntry) : Option (Bool) :=
(if (a0.Kind != a1.Kind) = true then
 some (decide (a0.Kind < a1.Kind))
else
(if (a0.Peer != a1.Peer) = true then
 some (decide (a0.Peer < a1.Peer))
else
(if (a0.PeerPort != a1.PeerPort) = true then
 some (decide (a0.PeerPort < a1.PeerPort))
else
 some (decide (a0.Outer < a1.Outer)))))

theorem spec_l22Less_c {a0 : NatEntry} {a1 : NatEntry} {r : Bool} (h : spec_l22Less_m a0 a1 = some r) : PureC Try.prog 87 [.agg [.d (.int .i64 a0.Kind), .d (.int .i64 a0.Peer), .d (.int .i64 a0.PeerPort), .d (.int .i64 a0.Outer), .d (.int .i64 a0.Inner), .d (.int .i64 a0.InnerPort), .d (.int .i64 a0.Last)], .agg [.d (.int .i64 a1.Kind), .d (.int .i64 a1.Peer), .d (.int .i64 a1.PeerPort), .d (.int .i64 a1.Outer), .d (.int .i64 a1.Inner), .d (.int .i64 a1.InnerPort), .d (.int .i64 a1.Last)]] (.d (.bool r)) [] := by
  refine pureC_m tOk (fn := Try.f87) (c := codeOf Try.f87) rfl rfl (by kernel_rfl) rfl rfl (by simp) (by simp) (ids_of rfl) ?_
  unfold spec_l22Less_m at h
  conv => whnf
  refine And.intro (fun e => ?_) (fun e => ?_)
  · replace h := ite_t h e; clear e
    conv => whnf
    obtain rfl := Option.some.inj h
    exact ⟨_, LE.refl _, And.intro rfl trivial⟩
  · replace h := ite_f h e; clear e
    conv => whnf
    refine And.intro (fun e => ?_) (fun e => ?_)
    · replace h := ite_t h e; clear e
      conv => whnf
      obtain rfl := Option.some.inj h
      exact ⟨_, LE.refl _, And.intro rfl trivial⟩
    · replace h := ite_f h e; clear e
      conv => whnf
      refine And.intro (fun e => ?_) (fun e => ?_)
      · replace h := ite_t h e; clear e
        conv => whnf
        obtain rfl := Option.some.inj h
        exact ⟨_, LE.refl _, And.intro rfl trivial⟩
      · replace h := ite_f h e; clear e
        conv => whnf
        obtain rfl := Option.some.inj h
        exact ⟨_, LE.refl _, And.intro rfl trivial⟩

noncomputable def spec_l22Flow_m (a0 : NatEntry) : Option (NatFlow) :=
 some (⟨a0.Kind, a0.Inner, a0.InnerPort, a0.Peer, a0.PeerPort⟩ : NatFlow)

theorem spec_l22Flow_c {a0 : NatEntry} {r : NatFlow} (h : spec_l22Flow_m a0 = some r) : PureC Try.prog 89 [.agg [.d (.int .i64 a0.Kind), .d (.int .i64 a0.Peer), .d (.int .i64 a0.PeerPort), .d (.int .i64 a0.Outer), .d (.int .i64 a0.Inner), .d (.int .i64 a0.InnerPort), .d (.int .i64 a0.Last)]] (.agg [.d (.int .i64 r.Kind), .d (.int .i64 r.From), .d (.int .i64 r.FromPort), .d (.int .i64 r.To), .d (.int .i64 r.ToPort)]) [] := by
  refine pureC_m tOk (fn := Try.f89) (c := codeOf Try.f89) rfl rfl (by kernel_rfl) rfl rfl (by simp) (by simp) (ids_of rfl) ?_
  unfold spec_l22Flow_m at h
  conv => whnf
  obtain rfl := Option.some.inj h
  exact ⟨_, LE.refl _, And.intro rfl trivial⟩

noncomputable def spec_l22Is_m (a0 : NatEntry) (a1 : NatFlow) : Option (Bool) :=
 some (((((a0.Kind == a1.Kind) && (a0.Inner == a1.From)) && (a0.InnerPort == a1.FromPort)) && (a0.Peer == a1.To)) && (a0.PeerPort == a1.ToPort))

theorem spec_l22Is_c {a0 : NatEntry} {a1 : NatFlow} {r : Bool} (h : spec_l22Is_m a0 a1 = some r) : PureC Try.prog 88 [.agg [.d (.int .i64 a0.Kind), .d (.int .i64 a0.Peer), .d (.int .i64 a0.PeerPort), .d (.int .i64 a0.Outer), .d (.int .i64 a0.Inner), .d (.int .i64 a0.InnerPort), .d (.int .i64 a0.Last)], .agg [.d (.int .i64 a1.Kind), .d (.int .i64 a1.From), .d (.int .i64 a1.FromPort), .d (.int .i64 a1.To), .d (.int .i64 a1.ToPort)]] (.d (.bool r)) [] := by
  refine pureC_m tOk (fn := Try.f88) (c := codeOf Try.f88) rfl rfl (by kernel_rfl) rfl rfl (by simp) (by simp) (ids_of rfl) ?_
  unfold spec_l22Is_m at h
  conv => whnf
  obtain rfl := Option.some.inj h
  exact ⟨_, LE.refl _, And.intro rfl trivial⟩

noncomputable def spec_l22Live_m (a0 : NatBook) (a1 : NatEntry) : Option (Bool) :=
 some (decide ((IntKind.i64.wrap (a0.Now - a1.Last)) < 8))

theorem spec_l22Live_c {a0 : NatBook} {a1 : NatEntry} {r : Bool} (h : spec_l22Live_m a0 a1 = some r) : PureC Try.prog 57 [.agg [.d (.int .i64 a0.Addr), .d (.int .i64 a0.Len), .d (.int .i64 a0.Own), .d (.int .i64 a0.Low), .d (.int .i64 a0.High), .d (slD NatDoor.enc a0.Doors), .d (.int .i64 a0.Now), .d (slD NatEntry.enc a0.Entries)], .agg [.d (.int .i64 a1.Kind), .d (.int .i64 a1.Peer), .d (.int .i64 a1.PeerPort), .d (.int .i64 a1.Outer), .d (.int .i64 a1.Inner), .d (.int .i64 a1.InnerPort), .d (.int .i64 a1.Last)]] (.d (.bool r)) [] := by
  refine pureC_m tOk (fn := Try.f57) (c := codeOf Try.f57) rfl rfl (by kernel_rfl) rfl rfl (by simp) (by simp) (ids_of rfl) ?_
  unfold spec_l22Live_m at h
  conv => whnf
  obtain rfl := Option.some.inj h
  exact ⟨_, LE.refl _, And.intro rfl trivial⟩

noncomputable def spec_l22Entries_m (a0 : NatBook) : Option (Bool) :=
(if (decide (((a0.Entries.length : Nat) : Int) > 16)) = true then
 some false
else
 bd (lp (σ := Int) (β := (Unit ⊕ Unit)) (fun s1 =>
(if (decide (s1 < ((a0.Entries.length : Nat) : Int))) = true then
 gd ((0 : Int) ≤ s1 ∧ s1 < ((a0.Entries.length : Nat) : Int)) <|
 bd (spec_l22EntryOk_m a0 (a0.Entries.getD s1.toNat default)) fun x6 =>
 gd ((decide (s1 > 0)) = true → ((!x6) = false → ((0 : Int) ≤ IntKind.i64.wrap (s1 - 1) ∧ IntKind.i64.wrap (s1 - 1) < ((a0.Entries.length : Nat) : Int)))) <|
 bd (gcall ((decide (s1 > 0)) = true ∧ (!x6) = false) (spec_l22Less_m (a0.Entries.getD ((IntKind.i64.wrap (s1 - 1)).toNat) default) (a0.Entries.getD s1.toNat default))) fun x8 =>
(if ((!x6) || ((decide (s1 > 0)) && (!x8))) = true then
 some (.inr (.inl ()))
else
 bd (lp (σ := Int) (β := (Unit ⊕ Unit)) (fun s9 =>
(if (decide (s9 < s1)) = true then
 gd ((0 : Int) ≤ s9 ∧ s9 < ((a0.Entries.length : Nat) : Int)) <|
 bd (spec_l22Flow_m (a0.Entries.getD s1.toNat default)) fun x14 =>
 bd (spec_l22Is_m (a0.Entries.getD s9.toNat default) x14) fun x15 =>
 bd (gcall (x15 = true) (spec_l22Live_m a0 (a0.Entries.getD s1.toNat default))) fun x16 =>
 gd ((x15 && x16) = true → ((0 : Int) ≤ s9 ∧ s9 < ((a0.Entries.length : Nat) : Int))) <|
 bd (gcall ((x15 && x16) = true) (spec_l22Live_m a0 (a0.Entries.getD s9.toNat default))) fun x18 =>
(if ((x15 && x16) && x18) = true then
 some (.inr (.inl ()))
else
 some (.inl (IntKind.i64.wrap (s9 + 1))))
else
 some (.inr (.inr ())))) 0) fun x12 =>
(match x12 with
| .inl d19 =>
 some (.inr (.inl ()))
| .inr d20 =>
 some (.inl (IntKind.i64.wrap (s1 + 1)))))
else
 some (.inr (.inr ())))) 0) fun x4 =>
(match x4 with
| .inl d21 =>
 some false
| .inr d22 =>
 some true))

theorem spec_l22Entries_c {a0 : NatBook} {r : Bool} (h : spec_l22Entries_m a0 = some r) : PureC Try.prog 44 [.agg [.d (.int .i64 a0.Addr), .d (.int .i64 a0.Len), .d (.int .i64 a0.Own), .d (.int .i64 a0.Low), .d (.int .i64 a0.High), .d (slD NatDoor.enc a0.Doors), .d (.int .i64 a0.Now), .d (slD NatEntry.enc a0.Entries)]] (.d (.bool r)) [] := by
  refine pureC_m tOk (fn := Try.f44) (c := codeOf Try.f44) rfl rfl (by kernel_rfl) rfl rfl (by simp) (by simp) (ids_of rfl) ?_
  unfold spec_l22Entries_m at h
  conv => whnf
  refine And.intro (fun e => ?_) (fun e => ?_)
  · replace h := ite_t h e; clear e
    conv => whnf
    obtain rfl := Option.some.inj h
    exact ⟨_, LE.refl _, And.intro rfl trivial⟩
  · replace h := ite_f h e; clear e
    conv => whnf
    obtain ⟨x4, hx4, h⟩ := bd_some h
    refine loop_m tOk hx4 (fun s1 => ⟨0, 68, [(1, .ref 1 0 0), (3, .d (.int .i64 s1))], [], [(1, .box 31 [.d (.int .i64 a0.Addr), .d (.int .i64 a0.Len), .d (.int .i64 a0.Own), .d (.int .i64 a0.Low), .d (.int .i64 a0.High), .d (slD NatDoor.enc a0.Doors), .d (.int .i64 a0.Now), .d (slD NatEntry.enc a0.Entries)])], []⟩) ?_ ?_
    · refine le_mk ?_ ?_ ?_ <;> (repeat' first | exact trivial | refine And.intro ?_ ?_ | exact VLe.refl _ | exact BLe.refl _ | (refine VLe.osl rfl ?_; simp) | (refine BLe.rows rfl ?_ fun _ _ => rfl; simp) | exact VLe.nil_osl rfl | (refine VLe.rows ?_ ?_ <;> simp) | exact VLe.any _)
    · clear hx4
      intro s1 y2 g3 hy2
      conv => whnf
      refine And.intro (fun e => ?_) (fun e => ?_)
      · replace g3 := ite_t g3 e; clear e
        conv => whnf
        obtain ⟨g5, g3⟩ := gd_some g3
        refine And.intro g5 ?_
        clear g5
        conv => whnf
        obtain ⟨x6, hx6, g3⟩ := bd_some g3
        obtain ⟨g7, g3⟩ := gd_some g3
        obtain ⟨x8, hx8, g3⟩ := bd_some g3
        refine draw_l tOk (by kernel_rfl) (fun j => match j with | 2 => some (0, .d (.bool x6), []) | 15 => some (0, .d (.bool x8), []) | _ => none) 19 [] [[], [], [true, true], [true, true, true], [true, true, true, true], [true, true, true, true, true], [true, true, true, true, true, true], [true, true, true, true, true, true, true], [true, true, true, true, true, true, true, true], [true, true, true, true, true, true, true, true, true], [true, true, true, true, true, true, true, true], [true, true, true, true, true, true, true, true, false, false, true], [true, true, true, true, true, true, true, true, true, true, true, true], [true, true, true, true, true, true, true, true, true, true, true, true, true], [true, true, true, true, true, true, true, true], [true, true, true, true, true, true, true, true, true, true, true, true, true, true, true], [true, true, true, true, true, true, true, true, true, true, true, true, true, true, true, true], [true, true, true, true, true, true, true, true, true, true, true, true, true, true, true, true, true], [true, true, true, true, true, true, true, true, true, true, true, true, true, true, true, true, true, true]] (by decide) (by kernel_rfl) ?_
        conv => whnf
        refine And.intro (callD_any (spec_l22EntryOk_c hx6) rfl) ?_
        conv => whnf
        refine And.intro g7 ?_
        clear g7
        conv => whnf
        refine And.intro (callDG_if rfl rfl rfl rfl (by intro c0 c1; exact spec_l22Less_c (gcall_some hx8 ⟨c0, c1⟩))) ?_
        conv => whnf
        refine And.intro (fun e => ?_) (fun e => ?_)
        · replace g3 := ite_t g3 e; clear e
          conv => whnf
          obtain rfl := Option.some.inj g3
          obtain rfl := hy2 _ rfl
          obtain rfl := Option.some.inj h
          exact ⟨_, LE.refl _, And.intro rfl trivial⟩
        · replace g3 := ite_f g3 e; clear e
          conv => whnf
          obtain ⟨x12, hx12, g3⟩ := bd_some g3
          refine loop_m tOk hx12 (fun s9 => ⟨0, 68, [(1, .ref 1 0 0), (3, .d (.int .i64 s1)), (4, .ref 4 0 0), (5, .d (.int .i64 s9))], [], [(4, .box 52 [.d (.int .i64 ((a0.Entries.getD s1.toNat default).Kind)), .d (.int .i64 ((a0.Entries.getD s1.toNat default).Peer)), .d (.int .i64 ((a0.Entries.getD s1.toNat default).PeerPort)), .d (.int .i64 ((a0.Entries.getD s1.toNat default).Outer)), .d (.int .i64 ((a0.Entries.getD s1.toNat default).Inner)), .d (.int .i64 ((a0.Entries.getD s1.toNat default).InnerPort)), .d (.int .i64 ((a0.Entries.getD s1.toNat default).Last))]), (1, .box 31 [.d (.int .i64 a0.Addr), .d (.int .i64 a0.Len), .d (.int .i64 a0.Own), .d (.int .i64 a0.Low), .d (.int .i64 a0.High), .d (slD NatDoor.enc a0.Doors), .d (.int .i64 a0.Now), .d (slD NatEntry.enc a0.Entries)])], []⟩) ?_ ?_
          · refine le_mk ?_ ?_ ?_ <;> (repeat' first | exact trivial | refine And.intro ?_ ?_ | exact VLe.refl _ | exact BLe.refl _ | (refine VLe.osl rfl ?_; simp) | (refine BLe.rows rfl ?_ fun _ _ => rfl; simp) | exact VLe.nil_osl rfl | (refine VLe.rows ?_ ?_ <;> simp) | exact VLe.any _)
          · clear hx12
            intro s9 y10 g11 hy10
            conv => whnf
            refine And.intro (fun e => ?_) (fun e => ?_)
            · replace g11 := ite_t g11 e; clear e
              conv => whnf
              obtain ⟨g13, g11⟩ := gd_some g11
              obtain ⟨x14, hx14, g11⟩ := bd_some g11
              obtain ⟨x15, hx15, g11⟩ := bd_some g11
              obtain ⟨x16, hx16, g11⟩ := bd_some g11
              obtain ⟨g17, g11⟩ := gd_some g11
              obtain ⟨x18, hx18, g11⟩ := bd_some g11
              refine draw_l tOk (by kernel_rfl) (fun j => match j with | 6 => some (0, .agg [.d (.int .i64 x14.Kind), .d (.int .i64 x14.From), .d (.int .i64 x14.FromPort), .d (.int .i64 x14.To), .d (.int .i64 x14.ToPort)], []) | 7 => some (0, .d (.bool x15), []) | 11 => some (0, .d (.bool x16), []) | 20 => some (0, .d (.bool x18), []) | _ => none) 22 [] [[], [true], [], [true, true, true], [true, true, true, true], [], [false, false, false, false, false, true], [true, true, true, true, true, true, true], [true, true, true, true, true, true, true, true], [true, true, true, true, true, true, true, true, true], [true, true, true, true, true, true, true, true, true], [true, true, true, true, true, true, true, true, true, true, true], [true, true, true, true, true, true, true, true, true, true, true, true], [true, true, true, true, true, true, true, true, true, true, true, true, true], [true, true, true, true, true, true, true, true, true, true, true, true, true, true], [true, true, true, true, true, true, true, true, true, true, true, true, true, true], [true, true, true, true, true, true, true, true, true, true, true, true, true, true, false, true], [true, true, true, true, true, true, true, true, true, true, true, true, true, true], [true, true, true, true, true, true, true, true, true, true, true, true, true, true, false, true, true, true], [true, true, true, true, true, true, true, true, true, true, true, true, true, true, false, true, true, true, true], [true, true, true, true, true, true, true, true, true, true, true, true, true, true, true, true, true, true, true, true], [true, true, true, true, true, true, true, true, true, true, true, true, true, true, true, true, true, true, true, true, true]] (by decide) (by kernel_rfl) ?_
              conv => whnf
              refine And.intro g13 ?_
              clear g13
              conv => whnf
              refine And.intro (callD_any (spec_l22Flow_c hx14) rfl) ?_
              conv => whnf
              refine And.intro (callD_any (spec_l22Is_c hx15) rfl) ?_
              conv => whnf
              refine And.intro (callDG_if rfl rfl rfl rfl (by intro c0; exact spec_l22Live_c (gcall_some hx16 c0))) ?_
              conv => whnf
              refine And.intro g17 ?_
              clear g17
              conv => whnf
              refine And.intro (callDG_if rfl rfl rfl rfl (by intro c0; exact spec_l22Live_c (gcall_some hx18 c0))) ?_
              conv => whnf
              refine And.intro (fun e => ?_) (fun e => ?_)
              · replace g11 := ite_t g11 e; clear e
                conv => whnf
                obtain rfl := Option.some.inj g11
                obtain rfl := hy10 _ rfl
                obtain rfl := Option.some.inj g3
                obtain rfl := hy2 _ rfl
                obtain rfl := Option.some.inj h
                exact ⟨_, LE.refl _, And.intro rfl trivial⟩
              · replace g11 := ite_f g11 e; clear e
                conv => whnf
                obtain rfl := Option.some.inj g11
                refine ⟨_, rfl, le_mk ?_ ?_ ?_⟩ <;> (repeat' first | exact trivial | refine And.intro ?_ ?_ | exact VLe.refl _ | exact BLe.refl _ | (refine VLe.osl rfl ?_; simp) | (refine BLe.rows rfl ?_ fun _ _ => rfl; simp) | exact VLe.nil_osl rfl | (refine VLe.rows ?_ ?_ <;> simp) | exact VLe.any _)
            · replace g11 := ite_f g11 e; clear e
              conv => whnf
              obtain rfl := Option.some.inj g11
              obtain rfl := hy10 _ rfl
              obtain rfl := Option.some.inj g3
              refine ⟨_, rfl, le_mk ?_ ?_ ?_⟩ <;> (repeat' first | exact trivial | refine And.intro ?_ ?_ | exact VLe.refl _ | exact BLe.refl _ | (refine VLe.osl rfl ?_; simp) | (refine BLe.rows rfl ?_ fun _ _ => rfl; simp) | exact VLe.nil_osl rfl | (refine VLe.rows ?_ ?_ <;> simp) | exact VLe.any _)
      · replace g3 := ite_f g3 e; clear e
        conv => whnf
        obtain rfl := Option.some.inj g3
        obtain rfl := hy2 _ rfl
        obtain rfl := Option.some.inj h
        exact ⟨_, LE.refl _, And.intro rfl trivial⟩

noncomputable def laws_toNatEntry_m (a0 : NatEntry) : Option (NatEntry) :=
 some a0

theorem laws_toNatEntry_c {a0 : NatEntry} {r : NatEntry} (h : laws_toNatEntry_m a0 = some r) : PureC Try.prog 91 [.agg [.d (.int .i64 a0.Kind), .d (.int .i64 a0.Peer), .d (.int .i64 a0.PeerPort), .d (.int .i64 a0.Outer), .d (.int .i64 a0.Inner), .d (.int .i64 a0.InnerPort), .d (.int .i64 a0.Last)]] (.agg [.d (.int .i64 r.Kind), .d (.int .i64 r.Peer), .d (.int .i64 r.PeerPort), .d (.int .i64 r.Outer), .d (.int .i64 r.Inner), .d (.int .i64 r.InnerPort), .d (.int .i64 r.Last)]) [] := by
  refine pureC_m tOk (fn := Try.f91) (c := codeOf Try.f91) rfl rfl (by kernel_rfl) rfl rfl (by simp) (by simp) (ids_of rfl) ?_
  unfold laws_toNatEntry_m at h
  conv => whnf
  obtain rfl := Option.some.inj h
  exact ⟨_, LE.refl _, And.intro rfl trivial⟩

noncomputable def laws_toNatEntryS_m (a0 : (List NatEntry)) : Option ((List NatEntry)) :=
 gd ((0 : Int) ≤ ((a0.length : Nat) : Int) ∧ ((a0.length : Nat) : Int) ≤ ((a0.length : Nat) : Int) ∧ ((a0.length : Nat) : Int) * 56 ≤ 140737488355328 ∧ ((a0.length : Nat) : Int) ≤ 140737488355328) <|
 bd (lp (σ := List NatEntry × Int) (β := (Nat × (List NatEntry))) (fun s1 =>
(if (decide (s1.2 < ((a0.length : Nat) : Int))) = true then
 gd ((0 : Int) ≤ s1.2 ∧ s1.2 < ((a0.length : Nat) : Int)) <|
 bd (laws_toNatEntry_m (a0.getD s1.2.toNat default)) fun x6 =>
 gd ((0 : Int) ≤ s1.2 ∧ s1.2 < ((s1.1.length : Nat) : Int)) <|
 some (.inl (s1.1.set s1.2.toNat x6, IntKind.i64.wrap (s1.2 + 1)))
else
 some (.inr (s1.1.length, s1.1)))) ((List.replicate (((a0.length : Nat) : Int) : Int).toNat (default : NatEntry)), 0)) fun x4 =>
 some x4.2

theorem laws_toNatEntryS_c {a0 : (List NatEntry)} {r : (List NatEntry)} (h : laws_toNatEntryS_m a0 = some r) : PureC Try.prog 46 [.d (slD NatEntry.enc a0)] (.osl 5001 0 r.length) [⟨5001, 52, 7, r.length, rows NatEntry.enc r⟩] := by
  refine pureC_m tOk (fn := Try.f46) (c := codeOf Try.f46) rfl rfl (by kernel_rfl) rfl rfl (by simp [atomD]) (by simp) (ids_of rfl) ?_
  unfold laws_toNatEntryS_m at h
  conv => whnf
  obtain ⟨g9, h⟩ := gd_some h
  refine And.intro g9 ?_
  clear g9
  refine ⟨(List.replicate (((a0.length : Nat) : Int) : Int).toNat (default : NatEntry)).length, rows NatEntry.enc (List.replicate (((a0.length : Nat) : Int) : Int).toNat (default : NatEntry)), by simp, make_rows rfl, ?_⟩
  conv => whnf
  obtain ⟨x4, hx4, h⟩ := bd_some h
  refine loop_m tOk hx4 (fun s1 => ⟨0, 23, [(0, .d (slD NatEntry.enc a0)), (3, .osl 7 0 s1.1.length), (4, .d (.int .i64 s1.2))], [], [(7, .arr 52 7 s1.1.length (rows NatEntry.enc s1.1))], []⟩) ?_ ?_
  · refine le_mk ?_ ?_ ?_ <;> (repeat' first | exact trivial | refine And.intro ?_ ?_ | exact VLe.refl _ | exact BLe.refl _ | (refine VLe.osl rfl ?_; simp) | (refine BLe.rows rfl ?_ fun _ _ => rfl; simp) | exact VLe.nil_osl rfl | (refine VLe.rows ?_ ?_ <;> simp) | exact VLe.any _)
  · clear hx4
    intro s1 y2 g3 hy2
    conv => whnf
    refine And.intro (fun e => ?_) (fun e => ?_)
    · replace g3 := ite_t g3 e; clear e
      conv => whnf
      obtain ⟨g5, g3⟩ := gd_some g3
      refine And.intro g5 ?_
      clear g5
      conv => whnf
      obtain ⟨x6, hx6, g3⟩ := bd_some g3
      refine callC 0 (laws_toNatEntry_c hx6) rfl rfl ?_
      clear hx6
      conv => whnf
      obtain ⟨g7, g3⟩ := gd_some g3
      refine And.intro g7 ?_
      clear g7
      conv => whnf
      refine ⟨rows NatEntry.enc (s1.1.set s1.2.toNat x6), store_rows rfl, ?_⟩
      conv => whnf
      obtain rfl := Option.some.inj g3
      refine ⟨_, rfl, le_mk ?_ ?_ ?_⟩ <;> (repeat' first | exact trivial | refine And.intro ?_ ?_ | exact VLe.refl _ | exact BLe.refl _ | (refine VLe.osl rfl ?_; simp) | (refine BLe.rows rfl ?_ fun _ _ => rfl; simp) | exact VLe.nil_osl rfl | (refine VLe.rows ?_ ?_ <;> simp) | exact VLe.any _)
    · replace g3 := ite_f g3 e; clear e
      conv => whnf
      obtain rfl := Option.some.inj g3
      obtain rfl := hy2 _ rfl
      obtain rfl := Option.some.inj h
      refine ⟨⟨0, 23, [(2, .osl 5001 0 (s1.1.length, s1.1).2.length)], [], [(5001, .arr 52 7 (s1.1.length, s1.1).2.length (rows NatEntry.enc (s1.1.length, s1.1).2))], []⟩, ?_, And.intro rfl ?_⟩
      · refine LE.trans (S' := ⟨0, 23, [(2, .osl 7 0 (s1.1.length, s1.1).1)], [], [(7, .arr 52 7 (s1.1.length, s1.1).1 (rows NatEntry.enc (s1.1.length, s1.1).2))], []⟩) (le_mk ?_ ?_ ?_) (LE.trans (S' := ⟨0, 23, [(2, .osl 5001 0 (s1.1.length, s1.1).1)], [], [(5001, .arr 52 7 (s1.1.length, s1.1).1 (rows NatEntry.enc (s1.1.length, s1.1).2))], []⟩) (le_swaps [(7, 5001)] rfl) (le_mk ?_ ?_ ?_)) <;> (repeat' first | exact trivial | refine And.intro ?_ ?_ | exact VLe.refl _ | exact BLe.refl _ | (refine VLe.osl rfl ?_; simp) | (refine BLe.rows rfl ?_ fun _ _ => rfl; simp) | exact VLe.nil_osl rfl | (refine VLe.rows ?_ ?_ <;> simp) | exact VLe.any _)
      · exact And.intro (And.intro rfl (And.intro rfl (fun _ _ => rfl))) (trivial)

noncomputable def impl_NatBack_m (a0 : NatFlow) : Option (NatFlow) :=
 some (⟨a0.Kind, a0.To, a0.ToPort, a0.From, a0.FromPort⟩ : NatFlow)

theorem impl_NatBack_c {a0 : NatFlow} {r : NatFlow} (h : impl_NatBack_m a0 = some r) : PureC Try.prog 37 [.agg [.d (.int .i64 a0.Kind), .d (.int .i64 a0.From), .d (.int .i64 a0.FromPort), .d (.int .i64 a0.To), .d (.int .i64 a0.ToPort)]] (.agg [.d (.int .i64 r.Kind), .d (.int .i64 r.From), .d (.int .i64 r.FromPort), .d (.int .i64 r.To), .d (.int .i64 r.ToPort)]) [] := by
  refine pureC_m tOk (fn := Try.f37) (c := codeOf Try.f37) rfl rfl (by kernel_rfl) rfl rfl (by simp) (by simp) (ids_of rfl) ?_
  unfold impl_NatBack_m at h
  conv => whnf
  obtain rfl := Option.some.inj h
  exact ⟨_, LE.refl _, And.intro rfl trivial⟩

noncomputable def impl_NatIn_m (a0 : NatBook) (a1 : NatFlow) : Option (NatFlow × Int) :=
 bd (impl_NatBookOk_m a0) fun x1 =>
(if (!x1) = true then
 some ((⟨0, 0, 0, 0, 0⟩ : NatFlow), 1)
else
 bd (impl_NatFlowOk_m a1) fun x2 =>
(if (!x2) = true then
 some ((⟨0, 0, 0, 0, 0⟩ : NatFlow), 2)
else
 bd (gcall ((a1.To != a0.Own) = false) (impl_NatBook_inside_m a0 a1.From)) fun x3 =>
(if (((a1.To != a0.Own) || x3) || (a1.From == a0.Own)) = true then
 some ((⟨0, 0, 0, 0, 0⟩ : NatFlow), 3)
else
 bd (lp (σ := Int) (β := ((Int × Int) ⊕ Unit)) (fun s4 =>
(if (decide (s4 < ((a0.Doors.length : Nat) : Int))) = true then
 gd ((0 : Int) ≤ s4 ∧ s4 < ((a0.Doors.length : Nat) : Int)) <|
(if ((((a0.Doors.getD s4.toNat default).Kind) == a1.Kind) && (((a0.Doors.getD s4.toNat default).Outer) == a1.ToPort)) = true then
 some (.inr (.inl ((a0.Doors.getD s4.toNat default).Inner, (a0.Doors.getD s4.toNat default).InnerPort)))
else
 some (.inl (IntKind.i64.wrap (s4 + 1))))
else
 some (.inr (.inr ())))) 0) fun x7 =>
(match x7 with
| .inl d9 =>
 some ({ a1 with To := d9.1, ToPort := d9.2 }, 0)
| .inr d10 =>
 bd (lp (σ := Int) (β := ((Int × Int × Int × Int × Int) ⊕ Unit)) (fun s11 =>
(if (decide (s11 < ((a0.Entries.length : Nat) : Int))) = true then
 gd ((0 : Int) ≤ s11 ∧ s11 < ((a0.Entries.length : Nat) : Int)) <|
 bd (impl_NatBook_lives_m a0 (a0.Entries.getD s11.toNat default)) fun x16 =>
(if ((((x16 && (((a0.Entries.getD s11.toNat default).Kind) == a1.Kind)) && (((a0.Entries.getD s11.toNat default).Peer) == a1.From)) && (((a0.Entries.getD s11.toNat default).PeerPort) == a1.FromPort)) && (((a0.Entries.getD s11.toNat default).Outer) == a1.ToPort)) = true then
 bd (impl_NatEntry_flow_m (a0.Entries.getD s11.toNat default)) fun x17 =>
 bd (impl_NatBack_m x17) fun x18 =>
 some (.inr (.inl (x18.Kind, x18.From, x18.FromPort, x18.To, x18.ToPort)))
else
 some (.inl (IntKind.i64.wrap (s11 + 1))))
else
 some (.inr (.inr ())))) 0) fun x14 =>
(match x14 with
| .inl d19 =>
 some ((⟨d19.1, d19.2.1, d19.2.2.1, d19.2.2.2.1, d19.2.2.2.2⟩ : NatFlow), 0)
| .inr d20 =>
 some ((⟨0, 0, 0, 0, 0⟩ : NatFlow), 6))))))

theorem impl_NatIn_c {a0 : NatBook} {a1 : NatFlow} {r : NatFlow × Int} (h : impl_NatIn_m a0 a1 = some r) : PureC Try.prog 22 [.agg [.d (.int .i64 a0.Addr), .d (.int .i64 a0.Len), .d (.int .i64 a0.Own), .d (.int .i64 a0.Low), .d (.int .i64 a0.High), .d (slD NatDoor.enc a0.Doors), .d (.int .i64 a0.Now), .d (slD NatEntry.enc a0.Entries)], .agg [.d (.int .i64 a1.Kind), .d (.int .i64 a1.From), .d (.int .i64 a1.FromPort), .d (.int .i64 a1.To), .d (.int .i64 a1.ToPort)]] (.tup [.agg [.d (.int .i64 r.1.Kind), .d (.int .i64 r.1.From), .d (.int .i64 r.1.FromPort), .d (.int .i64 r.1.To), .d (.int .i64 r.1.ToPort)], .d (.int .i64 r.2)]) [] := by
  refine pureC_m tOk (fn := Try.f22) (c := codeOf Try.f22) rfl rfl (by kernel_rfl) rfl rfl (by simp) (by simp) (ids_of rfl) ?_
  unfold impl_NatIn_m at h
  conv => whnf
  obtain ⟨x1, hx1, h⟩ := bd_some h
  refine callC 0 (impl_NatBookOk_c hx1) rfl rfl ?_
  clear hx1
  conv => whnf
  refine And.intro (fun e => ?_) (fun e => ?_)
  · replace h := ite_t h e; clear e
    conv => whnf
    obtain rfl := Option.some.inj h
    exact ⟨_, LE.refl _, And.intro rfl trivial⟩
  · replace h := ite_f h e; clear e
    conv => whnf
    obtain ⟨x2, hx2, h⟩ := bd_some h
    refine callC 0 (impl_NatFlowOk_c hx2) rfl rfl ?_
    clear hx2
    conv => whnf
    refine And.intro (fun e => ?_) (fun e => ?_)
    · replace h := ite_t h e; clear e
      conv => whnf
      obtain rfl := Option.some.inj h
      exact ⟨_, LE.refl _, And.intro rfl trivial⟩
    · replace h := ite_f h e; clear e
      conv => whnf
      obtain ⟨x3, hx3, h⟩ := bd_some h
      refine callG_m rfl rfl rfl rfl rfl rfl (by intro c0; exact impl_NatBook_inside_c (gcall_some hx3 c0)) ?_
      conv => whnf
      refine And.intro (fun e => ?_) (fun e => ?_)
      · replace h := ite_t h e; clear e
        conv => whnf
        obtain rfl := Option.some.inj h
        exact ⟨_, LE.refl _, And.intro rfl trivial⟩
      · replace h := ite_f h e; clear e
        conv => whnf
        obtain ⟨x7, hx7, h⟩ := bd_some h
        refine loop_m tOk hx7 (fun s4 => ⟨0, 114, [(2, .ref 2 0 0), (3, .ref 3 0 0), (4, .ref 4 0 0), (41, .d (slD NatDoor.enc a0.Doors)), (42, .d (.int .i64 ((a0.Doors.length : Nat) : Int))), (43, .d (.int .i64 s4))], [], [(4, .box 39 [.d (.int .i64 0), .d (.int .i64 0), .d (.int .i64 0), .d (.int .i64 0), .d (.int .i64 0)]), (3, .box 39 [.d (.int .i64 a1.Kind), .d (.int .i64 a1.From), .d (.int .i64 a1.FromPort), .d (.int .i64 a1.To), .d (.int .i64 a1.ToPort)]), (2, .box 31 [.d (.int .i64 a0.Addr), .d (.int .i64 a0.Len), .d (.int .i64 a0.Own), .d (.int .i64 a0.Low), .d (.int .i64 a0.High), .d (slD NatDoor.enc a0.Doors), .d (.int .i64 a0.Now), .d (slD NatEntry.enc a0.Entries)])], []⟩) ?_ ?_
        · refine le_mk ?_ ?_ ?_ <;> (repeat' first | exact trivial | refine And.intro ?_ ?_ | exact VLe.refl _ | exact BLe.refl _ | (refine VLe.osl rfl ?_; simp) | (refine BLe.rows rfl ?_ fun _ _ => rfl; simp) | exact VLe.nil_osl rfl | (refine VLe.rows ?_ ?_ <;> simp) | exact VLe.any _)
        · clear hx7
          intro s4 y5 g6 hy5
          conv => whnf
          refine And.intro (fun e => ?_) (fun e => ?_)
          · replace g6 := ite_t g6 e; clear e
            conv => whnf
            obtain ⟨g8, g6⟩ := gd_some g6
            refine And.intro g8 ?_
            clear g8
            conv => whnf
            refine And.intro (fun e => ?_) (fun e => ?_)
            · replace g6 := ite_t g6 e; clear e
              conv => whnf
              obtain rfl := Option.some.inj g6
              obtain rfl := hy5 _ rfl
              obtain rfl := Option.some.inj h
              exact ⟨_, LE.refl _, And.intro rfl trivial⟩
            · replace g6 := ite_f g6 e; clear e
              conv => whnf
              obtain rfl := Option.some.inj g6
              refine ⟨_, rfl, le_mk ?_ ?_ ?_⟩ <;> (repeat' first | exact trivial | refine And.intro ?_ ?_ | exact VLe.refl _ | exact BLe.refl _ | (refine VLe.osl rfl ?_; simp) | (refine BLe.rows rfl ?_ fun _ _ => rfl; simp) | exact VLe.nil_osl rfl | (refine VLe.rows ?_ ?_ <;> simp) | exact VLe.any _)
          · replace g6 := ite_f g6 e; clear e
            conv => whnf
            obtain rfl := Option.some.inj g6
            obtain rfl := hy5 _ rfl
            obtain ⟨x14, hx14, h⟩ := bd_some h
            refine loop_m tOk hx14 (fun s11 => ⟨0, 114, [(2, .ref 2 0 0), (3, .ref 3 0 0), (4, .ref 4 0 0), (72, .d (slD NatEntry.enc a0.Entries)), (73, .d (.int .i64 ((a0.Entries.length : Nat) : Int))), (74, .d (.int .i64 s11))], [], [(4, .box 39 [.d (.int .i64 0), .d (.int .i64 0), .d (.int .i64 0), .d (.int .i64 0), .d (.int .i64 0)]), (3, .box 39 [.d (.int .i64 a1.Kind), .d (.int .i64 a1.From), .d (.int .i64 a1.FromPort), .d (.int .i64 a1.To), .d (.int .i64 a1.ToPort)]), (2, .box 31 [.d (.int .i64 a0.Addr), .d (.int .i64 a0.Len), .d (.int .i64 a0.Own), .d (.int .i64 a0.Low), .d (.int .i64 a0.High), .d (slD NatDoor.enc a0.Doors), .d (.int .i64 a0.Now), .d (slD NatEntry.enc a0.Entries)])], []⟩) ?_ ?_
            · refine le_mk ?_ ?_ ?_ <;> (repeat' first | exact trivial | refine And.intro ?_ ?_ | exact VLe.refl _ | exact BLe.refl _ | (refine VLe.osl rfl ?_; simp) | (refine BLe.rows rfl ?_ fun _ _ => rfl; simp) | exact VLe.nil_osl rfl | (refine VLe.rows ?_ ?_ <;> simp) | exact VLe.any _)
            · clear hx14
              intro s11 y12 g13 hy12
              conv => whnf
              refine And.intro (fun e => ?_) (fun e => ?_)
              · replace g13 := ite_t g13 e; clear e
                conv => whnf
                obtain ⟨g15, g13⟩ := gd_some g13
                refine And.intro g15 ?_
                clear g15
                conv => whnf
                obtain ⟨x16, hx16, g13⟩ := bd_some g13
                refine callC 0 (impl_NatBook_lives_c hx16) rfl rfl ?_
                clear hx16
                conv => whnf
                refine And.intro (fun e => ?_) (fun e => ?_)
                · replace g13 := ite_t g13 e; clear e
                  conv => whnf
                  obtain ⟨x17, hx17, g13⟩ := bd_some g13
                  refine callC 0 (impl_NatEntry_flow_c hx17) rfl rfl ?_
                  clear hx17
                  conv => whnf
                  obtain ⟨x18, hx18, g13⟩ := bd_some g13
                  refine callC 0 (impl_NatBack_c hx18) rfl rfl ?_
                  clear hx18
                  conv => whnf
                  obtain rfl := Option.some.inj g13
                  obtain rfl := hy12 _ rfl
                  obtain rfl := Option.some.inj h
                  exact ⟨_, LE.refl _, And.intro rfl trivial⟩
                · replace g13 := ite_f g13 e; clear e
                  conv => whnf
                  obtain rfl := Option.some.inj g13
                  refine ⟨_, rfl, le_mk ?_ ?_ ?_⟩ <;> (repeat' first | exact trivial | refine And.intro ?_ ?_ | exact VLe.refl _ | exact BLe.refl _ | (refine VLe.osl rfl ?_; simp) | (refine BLe.rows rfl ?_ fun _ _ => rfl; simp) | exact VLe.nil_osl rfl | (refine VLe.rows ?_ ?_ <;> simp) | exact VLe.any _)
              · replace g13 := ite_f g13 e; clear e
                conv => whnf
                obtain rfl := Option.some.inj g13
                obtain rfl := hy12 _ rfl
                obtain rfl := Option.some.inj h
                exact ⟨_, LE.refl _, And.intro rfl trivial⟩

noncomputable def laws_eqNatEntry_m (a0 : NatEntry) (a1 : NatEntry) : Option (Bool) :=
(if (a0.Kind != a1.Kind) = true then
 some false
else
(if (a0.Peer != a1.Peer) = true then
 some false
else
(if (a0.PeerPort != a1.PeerPort) = true then
 some false
else
(if (a0.Outer != a1.Outer) = true then
 some false
else
(if (a0.Inner != a1.Inner) = true then
 some false
else
(if (a0.InnerPort != a1.InnerPort) = true then
 some false
else
(if (a0.Last != a1.Last) = true then
 some false
else
 some true)))))))

theorem laws_eqNatEntry_c {a0 : NatEntry} {a1 : NatEntry} {r : Bool} (h : laws_eqNatEntry_m a0 a1 = some r) : PureC Try.prog 99 [.agg [.d (.int .i64 a0.Kind), .d (.int .i64 a0.Peer), .d (.int .i64 a0.PeerPort), .d (.int .i64 a0.Outer), .d (.int .i64 a0.Inner), .d (.int .i64 a0.InnerPort), .d (.int .i64 a0.Last)], .agg [.d (.int .i64 a1.Kind), .d (.int .i64 a1.Peer), .d (.int .i64 a1.PeerPort), .d (.int .i64 a1.Outer), .d (.int .i64 a1.Inner), .d (.int .i64 a1.InnerPort), .d (.int .i64 a1.Last)]] (.d (.bool r)) [] := by
  refine pureC_m tOk (fn := Try.f99) (c := codeOf Try.f99) rfl rfl (by kernel_rfl) rfl rfl (by simp) (by simp) (ids_of rfl) ?_
  unfold laws_eqNatEntry_m at h
  conv => whnf
  refine And.intro (fun e => ?_) (fun e => ?_)
  · replace h := ite_t h e; clear e
    conv => whnf
    obtain rfl := Option.some.inj h
    exact ⟨_, LE.refl _, And.intro rfl trivial⟩
  · replace h := ite_f h e; clear e
    conv => whnf
    refine And.intro (fun e => ?_) (fun e => ?_)
    · replace h := ite_t h e; clear e
      conv => whnf
      obtain rfl := Option.some.inj h
      exact ⟨_, LE.refl _, And.intro rfl trivial⟩
    · replace h := ite_f h e; clear e
      conv => whnf
      refine And.intro (fun e => ?_) (fun e => ?_)
      · replace h := ite_t h e; clear e
        conv => whnf
        obtain rfl := Option.some.inj h
        exact ⟨_, LE.refl _, And.intro rfl trivial⟩
      · replace h := ite_f h e; clear e
        conv => whnf
        refine And.intro (fun e => ?_) (fun e => ?_)
        · replace h := ite_t h e; clear e
          conv => whnf
          obtain rfl := Option.some.inj h
          exact ⟨_, LE.refl _, And.intro rfl trivial⟩
        · replace h := ite_f h e; clear e
          conv => whnf
          refine And.intro (fun e => ?_) (fun e => ?_)
          · replace h := ite_t h e; clear e
            conv => whnf
            obtain rfl := Option.some.inj h
            exact ⟨_, LE.refl _, And.intro rfl trivial⟩
          · replace h := ite_f h e; clear e
            conv => whnf
            refine And.intro (fun e => ?_) (fun e => ?_)
            · replace h := ite_t h e; clear e
              conv => whnf
              obtain rfl := Option.some.inj h
              exact ⟨_, LE.refl _, And.intro rfl trivial⟩
            · replace h := ite_f h e; clear e
              conv => whnf
              refine And.intro (fun e => ?_) (fun e => ?_)
              · replace h := ite_t h e; clear e
                conv => whnf
                obtain rfl := Option.some.inj h
                exact ⟨_, LE.refl _, And.intro rfl trivial⟩
              · replace h := ite_f h e; clear e
                conv => whnf
                obtain rfl := Option.some.inj h
                exact ⟨_, LE.refl _, And.intro rfl trivial⟩

noncomputable def laws_eqNatEntryS_m (a0 : (List NatEntry)) (a1 : (List NatEntry)) : Option (Bool) :=
(if (((a0.length : Nat) : Int) != ((a1.length : Nat) : Int)) = true then
 some false
else
 bd (lp (σ := Int) (β := (Unit ⊕ Unit)) (fun s1 =>
(if (decide (s1 < ((a0.length : Nat) : Int))) = true then
 gd ((0 : Int) ≤ s1 ∧ s1 < ((a0.length : Nat) : Int)) <|
 gd ((0 : Int) ≤ s1 ∧ s1 < ((a1.length : Nat) : Int)) <|
 bd (laws_eqNatEntry_m (a0.getD s1.toNat default) (a1.getD s1.toNat default)) fun x7 =>
(if (!x7) = true then
 some (.inr (.inl ()))
else
 some (.inl (IntKind.i64.wrap (s1 + 1))))
else
 some (.inr (.inr ())))) 0) fun x4 =>
(match x4 with
| .inl d8 =>
 some false
| .inr d9 =>
 some true))

theorem laws_eqNatEntryS_c {a0 : (List NatEntry)} {a1 : (List NatEntry)} {r : Bool} (h : laws_eqNatEntryS_m a0 a1 = some r) : PureC Try.prog 53 [.d (slD NatEntry.enc a0), .d (slD NatEntry.enc a1)] (.d (.bool r)) [] := by
  refine pureC_m tOk (fn := Try.f53) (c := codeOf Try.f53) rfl rfl (by kernel_rfl) rfl rfl (by simp) (by simp) (ids_of rfl) ?_
  unfold laws_eqNatEntryS_m at h
  conv => whnf
  refine And.intro (fun e => ?_) (fun e => ?_)
  · replace h := ite_t h e; clear e
    conv => whnf
    obtain rfl := Option.some.inj h
    exact ⟨_, LE.refl _, And.intro rfl trivial⟩
  · replace h := ite_f h e; clear e
    conv => whnf
    obtain ⟨x4, hx4, h⟩ := bd_some h
    refine loop_m tOk hx4 (fun s1 => ⟨0, 27, [(0, .d (slD NatEntry.enc a0)), (1, .d (slD NatEntry.enc a1)), (5, .d (.int .i64 s1))], [], [], []⟩) ?_ ?_
    · refine le_mk ?_ ?_ ?_ <;> (repeat' first | exact trivial | refine And.intro ?_ ?_ | exact VLe.refl _ | exact BLe.refl _ | (refine VLe.osl rfl ?_; simp) | (refine BLe.rows rfl ?_ fun _ _ => rfl; simp) | exact VLe.nil_osl rfl | (refine VLe.rows ?_ ?_ <;> simp) | exact VLe.any _)
    · clear hx4
      intro s1 y2 g3 hy2
      conv => whnf
      refine And.intro (fun e => ?_) (fun e => ?_)
      · replace g3 := ite_t g3 e; clear e
        conv => whnf
        obtain ⟨g5, g3⟩ := gd_some g3
        obtain ⟨g6, g3⟩ := gd_some g3
        obtain ⟨x7, hx7, g3⟩ := bd_some g3
        refine draw_l tOk (by kernel_rfl) (fun j => match j with | 8 => some (0, .d (.bool x7), []) | _ => none) 10 [] [[], [], [true, true], [true, true, true], [], [], [false, false, false, false, true, true], [false, false, false, false, true, true, true], [true, true, true, true, true, true, true, true], [true, true, true, true, true, true, true, true, true]] (by decide) (by kernel_rfl) ?_
        conv => whnf
        refine And.intro g5 ?_
        clear g5
        conv => whnf
        refine And.intro g6 ?_
        clear g6
        conv => whnf
        refine And.intro (callD_any (laws_eqNatEntry_c hx7) rfl) ?_
        conv => whnf
        refine And.intro (fun e => ?_) (fun e => ?_)
        · replace g3 := ite_t g3 e; clear e
          conv => whnf
          obtain rfl := Option.some.inj g3
          obtain rfl := hy2 _ rfl
          obtain rfl := Option.some.inj h
          exact ⟨_, LE.refl _, And.intro rfl trivial⟩
        · replace g3 := ite_f g3 e; clear e
          conv => whnf
          obtain rfl := Option.some.inj g3
          refine ⟨_, rfl, le_mk ?_ ?_ ?_⟩ <;> (repeat' first | exact trivial | refine And.intro ?_ ?_ | exact VLe.refl _ | exact BLe.refl _ | (refine VLe.osl rfl ?_; simp) | (refine BLe.rows rfl ?_ fun _ _ => rfl; simp) | exact VLe.nil_osl rfl | (refine VLe.rows ?_ ?_ <;> simp) | exact VLe.any _)
      · replace g3 := ite_f g3 e; clear e
        conv => whnf
        obtain rfl := Option.some.inj g3
        obtain rfl := hy2 _ rfl
        obtain rfl := Option.some.inj h
        exact ⟨_, LE.refl _, And.intro rfl trivial⟩

noncomputable def laws_szNatDoorS_m (a0 : (List NatDoor)) (a1 : Int) : Option (Int) :=
(if (decide ((IntKind.i64.wrap (a1 - ((a0.length : Nat) : Int))) < 0)) = true then
 some (-1)
else
 some (IntKind.i64.wrap (a1 - ((a0.length : Nat) : Int))))

theorem laws_szNatDoorS_c {a0 : (List NatDoor)} {a1 : Int} {r : Int} (h : laws_szNatDoorS_m a0 a1 = some r) : PureC Try.prog 40 [.d (slD NatDoor.enc a0), .d (.int .i64 a1)] (.d (.int .i64 r)) [] := by
  refine pureC_m tOk (fn := Try.f40) (c := codeOf Try.f40) rfl rfl (by kernel_rfl) rfl rfl (by simp) (by simp) (ids_of rfl) ?_
  unfold laws_szNatDoorS_m at h
  conv => whnf
  refine And.intro (fun e => ?_) (fun e => ?_)
  · replace h := ite_t h e; clear e
    conv => whnf
    obtain rfl := Option.some.inj h
    exact ⟨_, LE.refl _, And.intro rfl trivial⟩
  · replace h := ite_f h e; clear e
    conv => whnf
    obtain rfl := Option.some.inj h
    exact ⟨_, LE.refl _, And.intro rfl trivial⟩

noncomputable def laws_szNatEntryS_m (a0 : (List NatEntry)) (a1 : Int) : Option (Int) :=
(if (decide ((IntKind.i64.wrap (a1 - ((a0.length : Nat) : Int))) < 0)) = true then
 some (-1)
else
 some (IntKind.i64.wrap (a1 - ((a0.length : Nat) : Int))))

theorem laws_szNatEntryS_c {a0 : (List NatEntry)} {a1 : Int} {r : Int} (h : laws_szNatEntryS_m a0 a1 = some r) : PureC Try.prog 41 [.d (slD NatEntry.enc a0), .d (.int .i64 a1)] (.d (.int .i64 r)) [] := by
  refine pureC_m tOk (fn := Try.f41) (c := codeOf Try.f41) rfl rfl (by kernel_rfl) rfl rfl (by simp) (by simp) (ids_of rfl) ?_
  unfold laws_szNatEntryS_m at h
  conv => whnf
  refine And.intro (fun e => ?_) (fun e => ?_)
  · replace h := ite_t h e; clear e
    conv => whnf
    obtain rfl := Option.some.inj h
    exact ⟨_, LE.refl _, And.intro rfl trivial⟩
  · replace h := ite_f h e; clear e
    conv => whnf
    obtain rfl := Option.some.inj h
    exact ⟨_, LE.refl _, And.intro rfl trivial⟩

noncomputable def laws_szNatBook_m (a0 : NatBook) (a1 : Int) : Option (Int) :=
 bd (laws_szNatDoorS_m a0.Doors a1) fun x1 =>
(if (decide (x1 < 0)) = true then
 some (-1)
else
 bd (laws_szNatEntryS_m a0.Entries x1) fun x2 =>
(if (decide (x2 < 0)) = true then
 some (-1)
else
 some x2))

theorem laws_szNatBook_c {a0 : NatBook} {a1 : Int} {r : Int} (h : laws_szNatBook_m a0 a1 = some r) : PureC Try.prog 13 [.agg [.d (.int .i64 a0.Addr), .d (.int .i64 a0.Len), .d (.int .i64 a0.Own), .d (.int .i64 a0.Low), .d (.int .i64 a0.High), .d (slD NatDoor.enc a0.Doors), .d (.int .i64 a0.Now), .d (slD NatEntry.enc a0.Entries)], .d (.int .i64 a1)] (.d (.int .i64 r)) [] := by
  refine pureC_m tOk (fn := Try.f13) (c := codeOf Try.f13) rfl rfl (by kernel_rfl) rfl rfl (by simp) (by simp) (ids_of rfl) ?_
  unfold laws_szNatBook_m at h
  conv => whnf
  obtain ⟨x1, hx1, h⟩ := bd_some h
  refine callC 0 (laws_szNatDoorS_c hx1) rfl rfl ?_
  clear hx1
  conv => whnf
  refine And.intro (fun e => ?_) (fun e => ?_)
  · replace h := ite_t h e; clear e
    conv => whnf
    obtain rfl := Option.some.inj h
    exact ⟨_, LE.refl _, And.intro rfl trivial⟩
  · replace h := ite_f h e; clear e
    conv => whnf
    obtain ⟨x2, hx2, h⟩ := bd_some h
    refine callC 0 (laws_szNatEntryS_c hx2) rfl rfl ?_
    clear hx2
    conv => whnf
    refine And.intro (fun e => ?_) (fun e => ?_)
    · replace h := ite_t h e; clear e
      conv => whnf
      obtain rfl := Option.some.inj h
      exact ⟨_, LE.refl _, And.intro rfl trivial⟩
    · replace h := ite_f h e; clear e
      conv => whnf
      obtain rfl := Option.some.inj h
      exact ⟨_, LE.refl _, And.intro rfl trivial⟩

noncomputable def laws_toNatDoor_m (a0 : NatDoor) : Option (NatDoor) :=
 some a0

theorem laws_toNatDoor_c {a0 : NatDoor} {r : NatDoor} (h : laws_toNatDoor_m a0 = some r) : PureC Try.prog 90 [.agg [.d (.int .i64 a0.Kind), .d (.int .i64 a0.Outer), .d (.int .i64 a0.Inner), .d (.int .i64 a0.InnerPort)]] (.agg [.d (.int .i64 r.Kind), .d (.int .i64 r.Outer), .d (.int .i64 r.Inner), .d (.int .i64 r.InnerPort)]) [] := by
  refine pureC_m tOk (fn := Try.f90) (c := codeOf Try.f90) rfl rfl (by kernel_rfl) rfl rfl (by simp) (by simp) (ids_of rfl) ?_
  unfold laws_toNatDoor_m at h
  conv => whnf
  obtain rfl := Option.some.inj h
  exact ⟨_, LE.refl _, And.intro rfl trivial⟩

noncomputable def laws_toNatDoorS_m (a0 : (List NatDoor)) : Option ((List NatDoor)) :=
 gd ((0 : Int) ≤ ((a0.length : Nat) : Int) ∧ ((a0.length : Nat) : Int) ≤ ((a0.length : Nat) : Int) ∧ ((a0.length : Nat) : Int) * 32 ≤ 140737488355328 ∧ ((a0.length : Nat) : Int) ≤ 140737488355328) <|
 bd (lp (σ := List NatDoor × Int) (β := (Nat × (List NatDoor))) (fun s1 =>
(if (decide (s1.2 < ((a0.length : Nat) : Int))) = true then
 gd ((0 : Int) ≤ s1.2 ∧ s1.2 < ((a0.length : Nat) : Int)) <|
 bd (laws_toNatDoor_m (a0.getD s1.2.toNat default)) fun x6 =>
 gd ((0 : Int) ≤ s1.2 ∧ s1.2 < ((s1.1.length : Nat) : Int)) <|
 some (.inl (s1.1.set s1.2.toNat x6, IntKind.i64.wrap (s1.2 + 1)))
else
 some (.inr (s1.1.length, s1.1)))) ((List.replicate (((a0.length : Nat) : Int) : Int).toNat (default : NatDoor)), 0)) fun x4 =>
 some x4.2

theorem laws_toNatDoorS_c {a0 : (List NatDoor)} {r : (List NatDoor)} (h : laws_toNatDoorS_m a0 = some r) : PureC Try.prog 45 [.d (slD NatDoor.enc a0)] (.osl 5001 0 r.length) [⟨5001, 83, 4, r.length, rows NatDoor.enc r⟩] := by
  refine pureC_m tOk (fn := Try.f45) (c := codeOf Try.f45) rfl rfl (by kernel_rfl) rfl rfl (by simp [atomD]) (by simp) (ids_of rfl) ?_
  unfold laws_toNatDoorS_m at h
  conv => whnf
  obtain ⟨g9, h⟩ := gd_some h
  refine And.intro g9 ?_
  clear g9
  refine ⟨(List.replicate (((a0.length : Nat) : Int) : Int).toNat (default : NatDoor)).length, rows NatDoor.enc (List.replicate (((a0.length : Nat) : Int) : Int).toNat (default : NatDoor)), by simp, make_rows rfl, ?_⟩
  conv => whnf
  obtain ⟨x4, hx4, h⟩ := bd_some h
  refine loop_m tOk hx4 (fun s1 => ⟨0, 23, [(0, .d (slD NatDoor.enc a0)), (3, .osl 7 0 s1.1.length), (4, .d (.int .i64 s1.2))], [], [(7, .arr 83 4 s1.1.length (rows NatDoor.enc s1.1))], []⟩) ?_ ?_
  · refine le_mk ?_ ?_ ?_ <;> (repeat' first | exact trivial | refine And.intro ?_ ?_ | exact VLe.refl _ | exact BLe.refl _ | (refine VLe.osl rfl ?_; simp) | (refine BLe.rows rfl ?_ fun _ _ => rfl; simp) | exact VLe.nil_osl rfl | (refine VLe.rows ?_ ?_ <;> simp) | exact VLe.any _)
  · clear hx4
    intro s1 y2 g3 hy2
    conv => whnf
    refine And.intro (fun e => ?_) (fun e => ?_)
    · replace g3 := ite_t g3 e; clear e
      conv => whnf
      obtain ⟨g5, g3⟩ := gd_some g3
      refine And.intro g5 ?_
      clear g5
      conv => whnf
      obtain ⟨x6, hx6, g3⟩ := bd_some g3
      refine callC 0 (laws_toNatDoor_c hx6) rfl rfl ?_
      clear hx6
      conv => whnf
      obtain ⟨g7, g3⟩ := gd_some g3
      refine And.intro g7 ?_
      clear g7
      conv => whnf
      refine ⟨rows NatDoor.enc (s1.1.set s1.2.toNat x6), store_rows rfl, ?_⟩
      conv => whnf
      obtain rfl := Option.some.inj g3
      refine ⟨_, rfl, le_mk ?_ ?_ ?_⟩ <;> (repeat' first | exact trivial | refine And.intro ?_ ?_ | exact VLe.refl _ | exact BLe.refl _ | (refine VLe.osl rfl ?_; simp) | (refine BLe.rows rfl ?_ fun _ _ => rfl; simp) | exact VLe.nil_osl rfl | (refine VLe.rows ?_ ?_ <;> simp) | exact VLe.any _)
    · replace g3 := ite_f g3 e; clear e
      conv => whnf
      obtain rfl := Option.some.inj g3
      obtain rfl := hy2 _ rfl
      obtain rfl := Option.some.inj h
      refine ⟨⟨0, 23, [(2, .osl 5001 0 (s1.1.length, s1.1).2.length)], [], [(5001, .arr 83 4 (s1.1.length, s1.1).2.length (rows NatDoor.enc (s1.1.length, s1.1).2))], []⟩, ?_, And.intro rfl ?_⟩
      · refine LE.trans (S' := ⟨0, 23, [(2, .osl 7 0 (s1.1.length, s1.1).1)], [], [(7, .arr 83 4 (s1.1.length, s1.1).1 (rows NatDoor.enc (s1.1.length, s1.1).2))], []⟩) (le_mk ?_ ?_ ?_) (LE.trans (S' := ⟨0, 23, [(2, .osl 5001 0 (s1.1.length, s1.1).1)], [], [(5001, .arr 83 4 (s1.1.length, s1.1).1 (rows NatDoor.enc (s1.1.length, s1.1).2))], []⟩) (le_swaps [(7, 5001)] rfl) (le_mk ?_ ?_ ?_)) <;> (repeat' first | exact trivial | refine And.intro ?_ ?_ | exact VLe.refl _ | exact BLe.refl _ | (refine VLe.osl rfl ?_; simp) | (refine BLe.rows rfl ?_ fun _ _ => rfl; simp) | exact VLe.nil_osl rfl | (refine VLe.rows ?_ ?_ <;> simp) | exact VLe.any _)
      · exact And.intro (And.intro rfl (And.intro rfl (fun _ _ => rfl))) (trivial)

noncomputable def laws_toNatBook_m (a0 : NatBook) : Option (NatBook) :=
 bd (laws_toNatDoorS_m a0.Doors) fun x1 =>
 bd (laws_toNatEntryS_m a0.Entries) fun x2 =>
 some ({ a0 with Doors := x1, Entries := x2 })

theorem laws_toNatBook_c {a0 : NatBook} {r : NatBook} (h : laws_toNatBook_m a0 = some r) : PureC Try.prog 15 [.agg [.d (.int .i64 a0.Addr), .d (.int .i64 a0.Len), .d (.int .i64 a0.Own), .d (.int .i64 a0.Low), .d (.int .i64 a0.High), .d (slD NatDoor.enc a0.Doors), .d (.int .i64 a0.Now), .d (slD NatEntry.enc a0.Entries)]] (.agg [.d (.int .i64 r.Addr), .d (.int .i64 r.Len), .d (.int .i64 r.Own), .d (.int .i64 r.Low), .d (.int .i64 r.High), .osl 5001 0 r.Doors.length, .d (.int .i64 r.Now), .osl 5002 0 r.Entries.length]) [⟨5001, 83, 4, r.Doors.length, rows NatDoor.enc r.Doors⟩, ⟨5002, 52, 7, r.Entries.length, rows NatEntry.enc r.Entries⟩] := by
  refine pureC_m tOk (fn := Try.f15) (c := codeOf Try.f15) rfl rfl (by kernel_rfl) rfl rfl (by simp [atomD]) (by simp) (ids_of rfl) ?_
  unfold laws_toNatBook_m at h
  conv => whnf
  obtain ⟨x1, hx1, h⟩ := bd_some h
  refine callC 1000 (laws_toNatDoorS_c hx1) rfl rfl ?_
  clear hx1
  conv => whnf
  obtain ⟨x2, hx2, h⟩ := bd_some h
  refine callC 2000 (laws_toNatEntryS_c hx2) rfl rfl ?_
  clear hx2
  conv => whnf
  obtain rfl := Option.some.inj h
  refine ⟨⟨0, 31, [(2, .ref 2 0 0)], [], [(5002, .arr 52 7 x2.length (rows NatEntry.enc x2)), (5001, .arr 83 4 x1.length (rows NatDoor.enc x1)), (2, .box 31 [.d (.int .i64 a0.Addr), .d (.int .i64 a0.Len), .d (.int .i64 a0.Own), .d (.int .i64 a0.Low), .d (.int .i64 a0.High), .osl 5001 0 x1.length, .d (.int .i64 a0.Now), .osl 5002 0 x2.length])], []⟩, ?_, And.intro rfl ?_⟩
  · refine LE.trans (S' := ⟨0, 31, [(2, .ref 2 0 0)], [], [(7001, .arr 52 7 x2.length (rows NatEntry.enc x2)), (6001, .arr 83 4 x1.length (rows NatDoor.enc x1)), (2, .box 31 [.d (.int .i64 a0.Addr), .d (.int .i64 a0.Len), .d (.int .i64 a0.Own), .d (.int .i64 a0.Low), .d (.int .i64 a0.High), .osl 6001 0 x1.length, .d (.int .i64 a0.Now), .osl 7001 0 x2.length])], []⟩) (le_mk ?_ ?_ ?_) (le_swaps [(6001, 5001), (7001, 5002)] rfl) <;> (repeat' first | exact trivial | refine And.intro ?_ ?_ | exact VLe.refl _ | exact BLe.refl _ | (refine VLe.osl rfl ?_; simp) | (refine BLe.rows rfl ?_ fun _ _ => rfl; simp) | exact VLe.nil_osl rfl | (refine VLe.rows ?_ ?_ <;> simp) | exact VLe.any _)
  · exact And.intro (And.intro rfl (And.intro rfl (fun _ _ => rfl))) (And.intro (And.intro rfl (And.intro rfl (fun _ _ => rfl))) (trivial))

noncomputable def spec_l22Frame_m (a0 : NatBook) : Option (Bool) :=
 bd (spec_l21In_m a0.Len 0 16) fun x1 =>
 bd (gcall ((!x1) = false) (spec_l21In_m a0.Addr 0 65535)) fun x2 =>
 bd (gcall (((!x1) || (!x2)) = false) (spec_l22Size_m a0.Len)) fun x3 =>
 gd (((!x1) || (!x2)) = false → ((x3 : Int) ≠ 0)) <|
(if (((!x1) || (!x2)) || (((a0.Addr : Int).tmod x3) != 0)) = true then
 some false
else
 bd (spec_l21In_m a0.Own 0 65535) fun x5 =>
 bd (gcall ((!x5) = false) (spec_l22Inside_m a0 a0.Own)) fun x6 =>
(if ((!x5) || x6) = true then
 some false
else
 bd (gcall ((((decide (a0.Low ≥ 1)) && (decide (a0.Low ≤ a0.High))) && (decide (a0.High ≤ 65535))) = true) (spec_l21In_m a0.Now 0 1000000)) fun x7 =>
 some ((((decide (a0.Low ≥ 1)) && (decide (a0.Low ≤ a0.High))) && (decide (a0.High ≤ 65535))) && x7)))

theorem spec_l22Frame_c {a0 : NatBook} {r : Bool} (h : spec_l22Frame_m a0 = some r) : PureC Try.prog 42 [.agg [.d (.int .i64 a0.Addr), .d (.int .i64 a0.Len), .d (.int .i64 a0.Own), .d (.int .i64 a0.Low), .d (.int .i64 a0.High), .d (slD NatDoor.enc a0.Doors), .d (.int .i64 a0.Now), .d (slD NatEntry.enc a0.Entries)]] (.d (.bool r)) [] := by
  refine pureC_m tOk (fn := Try.f42) (c := codeOf Try.f42) rfl rfl (by kernel_rfl) rfl rfl (by simp) (by simp) (ids_of rfl) ?_
  unfold spec_l22Frame_m at h
  conv => whnf
  obtain ⟨x1, hx1, h⟩ := bd_some h
  obtain ⟨x2, hx2, h⟩ := bd_some h
  obtain ⟨x3, hx3, h⟩ := bd_some h
  obtain ⟨g4, h⟩ := gd_some h
  refine draw_l tOk (by kernel_rfl) (fun j => match j with | 2 => some (0, .d (.bool x1), []) | 7 => some (0, .d (.bool x2), []) | 15 => some (0, .d (.int .i64 x3), []) | _ => none) 19 [] [[], [true], [true, true], [true, true, true], [true, true, true, true], [true, true, true, true, true], [true, true, true, true, true, true], [true, true, true, true, true, true, true], [true, true, true, true, true, true, true, true], [true, true, true, true, true, true, true, true, true], [true, true, true, true, true, true, true, true, true, true], [true, true, true, true, true, true, true, true, true, true, true], [true, true, true, true, true, true, true, true, true, true, true, true], [true, true, true, true, true, true, true, true, true, true, true], [true, true, true, true, true, true, true, true, true, true, true, false, false, true], [true, true, true, true, true, true, true, true, true, true, true, false, false, true, true], [true, true, true, true, true, true, true, true, true, true, true, true, true, true, true, true], [true, true, true, true, true, true, true, true, true, true, true, true, true, true, true, true, true], [true, true, true, true, true, true, true, true, true, true, true, true, true, true, true, true, true, true]] (by decide) (by kernel_rfl) ?_
  conv => whnf
  refine And.intro (callD_any (spec_l21In_c hx1) rfl) ?_
  conv => whnf
  refine And.intro (callDG_if rfl rfl rfl rfl (by intro c0; exact spec_l21In_c (gcall_some hx2 c0))) ?_
  conv => whnf
  refine And.intro (callDG_if rfl rfl rfl rfl (by intro c0; exact spec_l22Size_c (gcall_some hx3 c0))) ?_
  conv => whnf
  refine And.intro g4 ?_
  clear g4
  conv => whnf
  refine And.intro (fun e => ?_) (fun e => ?_)
  · replace h := ite_t h e; clear e
    conv => whnf
    obtain rfl := Option.some.inj h
    exact ⟨_, LE.refl _, And.intro rfl trivial⟩
  · replace h := ite_f h e; clear e
    conv => whnf
    obtain ⟨x5, hx5, h⟩ := bd_some h
    refine callC 0 (spec_l21In_c hx5) rfl rfl ?_
    clear hx5
    conv => whnf
    obtain ⟨x6, hx6, h⟩ := bd_some h
    refine callG_m rfl rfl rfl rfl rfl rfl (by intro c0; exact spec_l22Inside_c (gcall_some hx6 c0)) ?_
    conv => whnf
    refine And.intro (fun e => ?_) (fun e => ?_)
    · replace h := ite_t h e; clear e
      conv => whnf
      obtain rfl := Option.some.inj h
      exact ⟨_, LE.refl _, And.intro rfl trivial⟩
    · replace h := ite_f h e; clear e
      conv => whnf
      obtain ⟨x7, hx7, h⟩ := bd_some h
      refine callG_m rfl rfl rfl rfl rfl rfl (by intro c0; exact spec_l21In_c (gcall_some hx7 c0)) ?_
      conv => whnf
      obtain rfl := Option.some.inj h
      exact ⟨_, LE.refl _, And.intro rfl trivial⟩

noncomputable def spec_l22Doors_m (a0 : NatBook) : Option (Bool) :=
(if (decide (((a0.Doors.length : Nat) : Int) > 6)) = true then
 some false
else
 bd (lp (σ := Int) (β := (Unit ⊕ Unit)) (fun s1 =>
(if (decide (s1 < ((a0.Doors.length : Nat) : Int))) = true then
 gd ((0 : Int) ≤ s1 ∧ s1 < ((a0.Doors.length : Nat) : Int)) <|
 bd (spec_l22DoorOk_m a0 (a0.Doors.getD s1.toNat default)) fun x6 =>
(if (!x6) = true then
 some (.inr (.inl ()))
else
 bd (lp (σ := Int) (β := (Unit ⊕ Unit)) (fun s7 =>
(if (decide (s7 < s1)) = true then
 gd ((0 : Int) ≤ s7 ∧ s7 < ((a0.Doors.length : Nat) : Int)) <|
(if ((decide (((a0.Doors.getD s7.toNat default).Kind) > ((a0.Doors.getD s1.toNat default).Kind))) || ((((a0.Doors.getD s7.toNat default).Kind) == ((a0.Doors.getD s1.toNat default).Kind)) && ((decide (((a0.Doors.getD s7.toNat default).Outer) ≥ ((a0.Doors.getD s1.toNat default).Outer))) || ((((a0.Doors.getD s7.toNat default).Inner) == ((a0.Doors.getD s1.toNat default).Inner)) && (((a0.Doors.getD s7.toNat default).InnerPort) == ((a0.Doors.getD s1.toNat default).InnerPort)))))) = true then
 some (.inr (.inl ()))
else
 some (.inl (IntKind.i64.wrap (s7 + 1))))
else
 some (.inr (.inr ())))) 0) fun x10 =>
(match x10 with
| .inl d12 =>
 some (.inr (.inl ()))
| .inr d13 =>
 some (.inl (IntKind.i64.wrap (s1 + 1)))))
else
 some (.inr (.inr ())))) 0) fun x4 =>
(match x4 with
| .inl d14 =>
 some false
| .inr d15 =>
 some true))

theorem spec_l22Doors_c {a0 : NatBook} {r : Bool} (h : spec_l22Doors_m a0 = some r) : PureC Try.prog 43 [.agg [.d (.int .i64 a0.Addr), .d (.int .i64 a0.Len), .d (.int .i64 a0.Own), .d (.int .i64 a0.Low), .d (.int .i64 a0.High), .d (slD NatDoor.enc a0.Doors), .d (.int .i64 a0.Now), .d (slD NatEntry.enc a0.Entries)]] (.d (.bool r)) [] := by
  refine pureC_m tOk (fn := Try.f43) (c := codeOf Try.f43) rfl rfl (by kernel_rfl) rfl rfl (by simp) (by simp) (ids_of rfl) ?_
  unfold spec_l22Doors_m at h
  conv => whnf
  refine And.intro (fun e => ?_) (fun e => ?_)
  · replace h := ite_t h e; clear e
    conv => whnf
    obtain rfl := Option.some.inj h
    exact ⟨_, LE.refl _, And.intro rfl trivial⟩
  · replace h := ite_f h e; clear e
    conv => whnf
    obtain ⟨x4, hx4, h⟩ := bd_some h
    refine loop_m tOk hx4 (fun s1 => ⟨0, 70, [(1, .ref 1 0 0), (3, .d (.int .i64 s1))], [], [(1, .box 31 [.d (.int .i64 a0.Addr), .d (.int .i64 a0.Len), .d (.int .i64 a0.Own), .d (.int .i64 a0.Low), .d (.int .i64 a0.High), .d (slD NatDoor.enc a0.Doors), .d (.int .i64 a0.Now), .d (slD NatEntry.enc a0.Entries)])], []⟩) ?_ ?_
    · refine le_mk ?_ ?_ ?_ <;> (repeat' first | exact trivial | refine And.intro ?_ ?_ | exact VLe.refl _ | exact BLe.refl _ | (refine VLe.osl rfl ?_; simp) | (refine BLe.rows rfl ?_ fun _ _ => rfl; simp) | exact VLe.nil_osl rfl | (refine VLe.rows ?_ ?_ <;> simp) | exact VLe.any _)
    · clear hx4
      intro s1 y2 g3 hy2
      conv => whnf
      refine And.intro (fun e => ?_) (fun e => ?_)
      · replace g3 := ite_t g3 e; clear e
        conv => whnf
        obtain ⟨g5, g3⟩ := gd_some g3
        refine And.intro g5 ?_
        clear g5
        conv => whnf
        obtain ⟨x6, hx6, g3⟩ := bd_some g3
        refine callC 0 (spec_l22DoorOk_c hx6) rfl rfl ?_
        clear hx6
        conv => whnf
        refine And.intro (fun e => ?_) (fun e => ?_)
        · replace g3 := ite_t g3 e; clear e
          conv => whnf
          obtain rfl := Option.some.inj g3
          obtain rfl := hy2 _ rfl
          obtain rfl := Option.some.inj h
          exact ⟨_, LE.refl _, And.intro rfl trivial⟩
        · replace g3 := ite_f g3 e; clear e
          conv => whnf
          obtain ⟨x10, hx10, g3⟩ := bd_some g3
          refine loop_m tOk hx10 (fun s7 => ⟨0, 70, [(1, .ref 1 0 0), (3, .d (.int .i64 s1)), (4, .ref 4 0 0), (5, .d (.int .i64 s7))], [], [(4, .box 83 [.d (.int .i64 ((a0.Doors.getD s1.toNat default).Kind)), .d (.int .i64 ((a0.Doors.getD s1.toNat default).Outer)), .d (.int .i64 ((a0.Doors.getD s1.toNat default).Inner)), .d (.int .i64 ((a0.Doors.getD s1.toNat default).InnerPort))]), (1, .box 31 [.d (.int .i64 a0.Addr), .d (.int .i64 a0.Len), .d (.int .i64 a0.Own), .d (.int .i64 a0.Low), .d (.int .i64 a0.High), .d (slD NatDoor.enc a0.Doors), .d (.int .i64 a0.Now), .d (slD NatEntry.enc a0.Entries)])], []⟩) ?_ ?_
          · refine le_mk ?_ ?_ ?_ <;> (repeat' first | exact trivial | refine And.intro ?_ ?_ | exact VLe.refl _ | exact BLe.refl _ | (refine VLe.osl rfl ?_; simp) | (refine BLe.rows rfl ?_ fun _ _ => rfl; simp) | exact VLe.nil_osl rfl | (refine VLe.rows ?_ ?_ <;> simp) | exact VLe.any _)
          · clear hx10
            intro s7 y8 g9 hy8
            conv => whnf
            refine And.intro (fun e => ?_) (fun e => ?_)
            · replace g9 := ite_t g9 e; clear e
              conv => whnf
              obtain ⟨g11, g9⟩ := gd_some g9
              refine And.intro g11 ?_
              clear g11
              conv => whnf
              refine And.intro (fun e => ?_) (fun e => ?_)
              · replace g9 := ite_t g9 e; clear e
                conv => whnf
                obtain rfl := Option.some.inj g9
                obtain rfl := hy8 _ rfl
                obtain rfl := Option.some.inj g3
                obtain rfl := hy2 _ rfl
                obtain rfl := Option.some.inj h
                exact ⟨_, LE.refl _, And.intro rfl trivial⟩
              · replace g9 := ite_f g9 e; clear e
                conv => whnf
                obtain rfl := Option.some.inj g9
                refine ⟨_, rfl, le_mk ?_ ?_ ?_⟩ <;> (repeat' first | exact trivial | refine And.intro ?_ ?_ | exact VLe.refl _ | exact BLe.refl _ | (refine VLe.osl rfl ?_; simp) | (refine BLe.rows rfl ?_ fun _ _ => rfl; simp) | exact VLe.nil_osl rfl | (refine VLe.rows ?_ ?_ <;> simp) | exact VLe.any _)
            · replace g9 := ite_f g9 e; clear e
              conv => whnf
              obtain rfl := Option.some.inj g9
              obtain rfl := hy8 _ rfl
              obtain rfl := Option.some.inj g3
              refine ⟨_, rfl, le_mk ?_ ?_ ?_⟩ <;> (repeat' first | exact trivial | refine And.intro ?_ ?_ | exact VLe.refl _ | exact BLe.refl _ | (refine VLe.osl rfl ?_; simp) | (refine BLe.rows rfl ?_ fun _ _ => rfl; simp) | exact VLe.nil_osl rfl | (refine VLe.rows ?_ ?_ <;> simp) | exact VLe.any _)
      · replace g3 := ite_f g3 e; clear e
        conv => whnf
        obtain rfl := Option.some.inj g3
        obtain rfl := hy2 _ rfl
        obtain rfl := Option.some.inj h
        exact ⟨_, LE.refl _, And.intro rfl trivial⟩

end Go.Proofs.Ytgjmgdncckdgoaa
