/-
  What some of the program's functions compute: their models, and that the functions compute these; no condition.
-/
import Derived.Test.YtaoeomoepefojabTyz
import Derived.Test.YtaoeomoepefojabTbz
import Derived.Test.YtaoeomoepefojabAbz7
import Derived.Maps.OwnOps
import Derived.Maps.Views
import Derived.WalkKit
import Derived.Test.YtaoeomoepefojabKz1
set_option linter.all false
namespace Go.Proofs.Ytaoeomoepefojab
open Go Go.Ab
set_option maxRecDepth 100000
set_option maxHeartbeats 40000000
noncomputable def impl_NetOk_m (a0 : NetPrefix) : Option (Bool) :=
 bd (impl_within_m a0.Len 0 16) fun x1 =>
 bd (gcall (x1 = true) (impl_within_m a0.Addr 0 65535)) fun x2 =>
 bd (gcall ((x1 && x2) = true) (impl_NetPrefix_size_m a0)) fun x3 =>
 gd ((x1 && x2) = true → ((x3 : Int) ≠ 0)) <|
 some ((x1 && x2) && (((a0.Addr : Int).tmod x3) == 0))

theorem impl_NetOk_c {a0 : NetPrefix} {r : Bool} (h : impl_NetOk_m a0 = some r) : PureC Try.prog 40 [.agg [.d (.int .i64 a0.Addr), .d (.int .i64 a0.Len)]] (.d (.bool r)) [] := by
  refine pureC_x tOk (fn := Try.f40) (c := codeOf Try.f40) rfl rfl ?_
  unfold impl_NetOk_m at h
  conv => whnf
  obtain ⟨x1, hx1, h⟩ := bd_some h
  obtain ⟨x2, hx2, h⟩ := bd_some h
  obtain ⟨x3, hx3, h⟩ := bd_some h
  obtain ⟨g4, h⟩ := gd_some h
  refine draw_u tOk [.u 2 0 (.d (.bool x1)) [], .u 6 0 (.d (.bool x2)) [], .u 12 0 (.d (.int .i64 x3)) []] 17 [] [0, 1, 3, 7, 15, 31, 63, 127, 255, 511, 1023, 511, 2559, 8191, 16383, 32767, 65535] [] ?_
  conv => whnf
  refine And.intro (callD_any (impl_within_c hx1) (by kernel_rfl)) ?_
  conv => whnf
  refine And.intro (callDG_if rfl rfl rfl rfl (by intro c0; exact impl_within_c (gcall_some hx2 c0))) ?_
  conv => whnf
  refine And.intro (callDG_if rfl rfl rfl rfl (by intro c0; exact impl_NetPrefix_size_c (gcall_some hx3 c0))) ?_
  conv => whnf
  refine And.intro g4 ?_
  clear g4
  conv => whnf
  refine And.intro (by kernel_rfl) ?_
  conv => whnf
  obtain rfl := Option.some.inj h
  exact lfP []

noncomputable def impl_NetPrefix_last_m (a0 : NetPrefix) : Option (Int) :=
 bd (impl_NetPrefix_size_m a0) fun x1 =>
 some (IntKind.i64.wrap ((IntKind.i64.wrap (a0.Addr + x1)) - 1))

theorem impl_NetPrefix_last_c {a0 : NetPrefix} {r : Int} (h : impl_NetPrefix_last_m a0 = some r) : PureC Try.prog 81 [.agg [.d (.int .i64 a0.Addr), .d (.int .i64 a0.Len)]] (.d (.int .i64 r)) [] := by
  refine pureC_x tOk (fn := Try.f81) (c := codeOf Try.f81) rfl rfl ?_
  unfold impl_NetPrefix_last_m at h
  conv => whnf
  obtain ⟨x1, hx1, h⟩ := bd_some h
  refine draw_u tOk [.u 3 0 (.d (.int .i64 x1)) []] 7 [] [0, 1, 0, 4, 15, 31, 63] [] ?_
  conv => whnf
  refine And.intro (callD_any (impl_NetPrefix_size_c hx1) (by kernel_rfl)) ?_
  conv => whnf
  refine And.intro (by kernel_rfl) ?_
  conv => whnf
  obtain rfl := Option.some.inj h
  exact lfP []

noncomputable def impl_NetPrefix_has_m (a0 : NetPrefix) (a1 : Int) : Option (Bool) :=
 bd (impl_NetPrefix_last_m a0) fun x1 =>
 bd (impl_within_m a1 a0.Addr x1) fun x2 =>
 some x2

theorem impl_NetPrefix_has_c {a0 : NetPrefix} {a1 : Int} {r : Bool} (h : impl_NetPrefix_has_m a0 a1 = some r) : PureC Try.prog 62 [.agg [.d (.int .i64 a0.Addr), .d (.int .i64 a0.Len)], .d (.int .i64 a1)] (.d (.bool r)) [] := by
  refine pureC_x tOk (fn := Try.f62) (c := codeOf Try.f62) rfl rfl ?_
  unfold impl_NetPrefix_has_m at h
  conv => whnf
  obtain ⟨x1, hx1, h⟩ := bd_some h
  obtain ⟨x2, hx2, h⟩ := bd_some h
  refine draw_u tOk [.u 4 0 (.d (.int .i64 x1)) [], .u 5 0 (.d (.bool x2)) []] 7 [] [0, 0, 2, 0, 8, 31, 63] [] ?_
  conv => whnf
  refine And.intro (callD_any (impl_NetPrefix_last_c hx1) (by kernel_rfl)) ?_
  conv => whnf
  refine And.intro (callD_any (impl_within_c hx2) (by kernel_rfl)) ?_
  conv => whnf
  refine And.intro (by kernel_rfl) ?_
  conv => whnf
  obtain rfl := Option.some.inj h
  exact lfP []

noncomputable def impl_NatBook_inside_m (a0 : NatBook) (a1 : Int) : Option (Bool) :=
 bd (impl_NetPrefix_has_m (⟨a0.Addr, a0.Len⟩ : NetPrefix) a1) fun x1 =>
 some x1

theorem impl_NatBook_inside_c {a0 : NatBook} {a1 : Int} {r : Bool} (h : impl_NatBook_inside_m a0 a1 = some r) : PureC Try.prog 31 [.agg [.d (.int .i64 a0.Addr), .d (.int .i64 a0.Len), .d (.int .i64 a0.Own), .d (.int .i64 a0.Low), .d (.int .i64 a0.High), .d (slD NatDoor.enc a0.Doors), .d (.int .i64 a0.Now), .d (slD NatEntry.enc a0.Entries)], .d (.int .i64 a1)] (.d (.bool r)) [] := by
  refine pureC_x tOk (fn := Try.f31) (c := codeOf Try.f31) rfl rfl ?_
  unfold impl_NatBook_inside_m at h
  conv => whnf
  obtain ⟨x1, hx1, h⟩ := bd_some h
  refine cC 0 (impl_NetPrefix_has_c hx1) ?_
  clear hx1
  conv => whnf
  obtain rfl := Option.some.inj h
  exact lfP []

noncomputable def cmp_isNaN_int_m (a0 : Int) : Option (Bool) :=
 some (a0 != a0)

theorem cmp_isNaN_int_c {a0 : Int} {r : Bool} (h : cmp_isNaN_int_m a0 = some r) : PureC Try.prog 84 [.d (.int .i64 a0)] (.d (.bool r)) [] := by
  refine pureC_x tOk (fn := Try.f84) (c := codeOf Try.f84) rfl rfl ?_
  unfold cmp_isNaN_int_m at h
  conv => whnf
  obtain rfl := Option.some.inj h
  exact lfP []

noncomputable def cmp_Compare_int_m (a0 : Int) (a1 : Int) : Option (Int) :=
 bd (cmp_isNaN_int_m a0) fun x1 =>
 bd (cmp_isNaN_int_m a1) fun x2 =>
(if x1 = true then
(if x2 = true then
 some 0
else
 some (-1))
else
(if x2 = true then
 some 1
else
(if (decide (a0 < a1)) = true then
 some (-1)
else
(if (decide (a0 > a1)) = true then
 some 1
else
 some 0))))

theorem cmp_Compare_int_c {a0 : Int} {a1 : Int} {r : Int} (h : cmp_Compare_int_m a0 a1 = some r) : PureC Try.prog 74 [.d (.int .i64 a0), .d (.int .i64 a1)] (.d (.int .i64 r)) [] := by
  refine pureC_x tOk (fn := Try.f74) (c := codeOf Try.f74) rfl rfl ?_
  unfold cmp_Compare_int_m at h
  conv => whnf
  obtain ⟨x1, hx1, h⟩ := bd_some h
  refine cC 0 (cmp_isNaN_int_c hx1) ?_
  clear hx1
  conv => whnf
  obtain ⟨x2, hx2, h⟩ := bd_some h
  refine cC 0 (cmp_isNaN_int_c hx2) ?_
  clear hx2
  conv => whnf
  refine seq_in tOk ?_
  conv => whnf
  refine andI h (fun _ h => ?_) (fun _ h => ?_)
  · conv => whnf
    refine seq_in tOk ?_
    conv => whnf
    refine andI h (fun _ h => ?_) (fun _ h => ?_)
    · conv => whnf
      obtain rfl := Option.some.inj h
      exact lfP []
    · conv => whnf
      obtain rfl := Option.some.inj h
      exact lfP []
  · conv => whnf
    refine seq_in tOk ?_
    conv => whnf
    refine andI h (fun _ h => ?_) (fun _ h => ?_)
    · conv => whnf
      obtain rfl := Option.some.inj h
      exact lfP []
    · conv => whnf
      refine seq_in tOk ?_
      conv => whnf
      refine andI h (fun _ h => ?_) (fun _ h => ?_)
      · conv => whnf
        obtain rfl := Option.some.inj h
        exact lfP []
      · conv => whnf
        refine seq_in tOk ?_
        conv => whnf
        refine andI h (fun _ h => ?_) (fun _ h => ?_)
        · conv => whnf
          obtain rfl := Option.some.inj h
          exact lfP []
        · conv => whnf
          obtain rfl := Option.some.inj h
          exact lfP []

noncomputable def cmp_Or_int_m (a0 : (List Int)) : Option (Int) :=
 bd (lp (σ := Int) (β := (Int ⊕ Unit)) (fun s1 =>
(if (decide (s1 < ((a0.length : Nat) : Int))) = true then
 gd ((0 : Int) ≤ s1 ∧ s1 < ((a0.length : Nat) : Int)) <|
(if ((a0.getD s1.toNat default) != 0) = true then
 some (.inr (.inl (a0.getD s1.toNat default)))
else
 some (.inl (IntKind.i64.wrap (s1 + 1))))
else
 some (.inr (.inr ())))) 0) fun x4 =>
(match x4 with
| .inl d6 =>
 some d6
| .inr d7 =>
 some 0)

theorem cmp_Or_int_c {a0 : (List Int)} {r : Int} (h : cmp_Or_int_m a0 = some r) : PureC Try.prog 73 [.d (slD encInt a0)] (.d (.int .i64 r)) [] := by
  refine pureC_x tOk (fn := Try.f73) (c := codeOf Try.f73) rfl rfl ?_
  unfold cmp_Or_int_m at h
  conv => whnf
  refine seq_in tOk ?_
  conv => whnf
  obtain ⟨x4, hx4, h⟩ := bd_some h
  refine loop_m tOk hx4 (fun s1 => ⟨0, 18, [(3, .d (.int .i64 0)), (6, .d (slD encInt a0)), (7, .d (.int .i64 ((a0.length : Nat) : Int))), (8, .d (.int .i64 s1))], [], [], []⟩) ?_ ?_
  · exact leX []
  · clear hx4
    intro s1 y2 g3 hy2
    conv => whnf
    refine seq_in tOk ?_
    conv => whnf
    refine andI g3 (fun _ g3 => ?_) (fun _ g3 => ?_)
    · conv => whnf
      refine seq_in tOk ?_
      conv => whnf
      refine gdI g3 (fun g3 => ?_)
      conv => whnf
      refine andI g3 (fun _ g3 => ?_) (fun _ g3 => ?_)
      · conv => whnf
        obtain rfl := Option.some.inj g3
        obtain rfl := hy2 _ rfl
        obtain rfl := Option.some.inj h
        exact lfP []
      · conv => whnf
        obtain rfl := Option.some.inj g3
        exact ⟨_, rfl, leX []⟩
    · conv => whnf
      obtain rfl := Option.some.inj g3
      obtain rfl := hy2 _ rfl
      obtain rfl := Option.some.inj h
      exact lfP []

noncomputable def impl_NatBook_doorsOk_m (a0 : NatBook) : Option (Bool) :=
 bd (lp (σ := Int) (β := (Unit ⊕ Unit)) (fun s1 =>
(if (decide (s1 < ((a0.Doors.length : Nat) : Int))) = true then
 gd ((0 : Int) ≤ s1 ∧ s1 < ((a0.Doors.length : Nat) : Int)) <|
 bd (impl_within_m ((a0.Doors.getD s1.toNat default).Kind) 1 7) fun x6 =>
 bd (gcall ((!x6) = false) (impl_within_m ((a0.Doors.getD s1.toNat default).Outer) 1 65535)) fun x7 =>
 bd (gcall (((!x6) || (!x7)) = false) (impl_within_m ((a0.Doors.getD s1.toNat default).Outer) a0.Low a0.High)) fun x8 =>
 bd (gcall ((((!x6) || (!x7)) || x8) = false) (impl_NatBook_inside_m a0 ((a0.Doors.getD s1.toNat default).Inner))) fun x9 =>
 bd (gcall (((((!x6) || (!x7)) || x8) || (!x9)) = false) (impl_within_m ((a0.Doors.getD s1.toNat default).InnerPort) 1 65535)) fun x10 =>
(if (((((!x6) || (!x7)) || x8) || (!x9)) || (!x10)) = true then
 some (.inr (.inl ()))
else
 gd ((decide (s1 > 0)) = true → ((0 : Int) ≤ IntKind.i64.wrap (s1 - 1) ∧ IntKind.i64.wrap (s1 - 1) < ((a0.Doors.length : Nat) : Int))) <|
 bd (gcall ((decide (s1 > 0)) = true) (cmp_Compare_int_m ((a0.Doors.getD ((IntKind.i64.wrap (s1 - 1)).toNat) default).Kind) ((a0.Doors.getD s1.toNat default).Kind))) fun x12 =>
 gd ((decide (s1 > 0)) = true → ((0 : Int) ≤ IntKind.i64.wrap (s1 - 1) ∧ IntKind.i64.wrap (s1 - 1) < ((a0.Doors.length : Nat) : Int))) <|
 bd (gcall ((decide (s1 > 0)) = true) (cmp_Compare_int_m ((a0.Doors.getD ((IntKind.i64.wrap (s1 - 1)).toNat) default).Outer) ((a0.Doors.getD s1.toNat default).Outer))) fun x14 =>
 bd (gcall ((decide (s1 > 0)) = true) (cmp_Or_int_m ([x12, x14] : List Int))) fun x15 =>
(if ((decide (s1 > 0)) && (decide (x15 ≥ 0))) = true then
 some (.inr (.inl ()))
else
 gd ((0 : Int) ≤ (0 : Int) ∧ (0 : Int) ≤ s1 ∧ s1 ≤ ((a0.Doors.length : Nat) : Int)) <|
 bd (lp (σ := Int) (β := (Unit ⊕ Unit)) (fun s17 =>
(if (decide (s17 < ((s1.toNat : Nat) : Int))) = true then
 gd ((0 : Int) ≤ s17 ∧ s17 < ((s1.toNat : Nat) : Int)) <|
(if (((((a0.Doors.getD s17.toNat default).Kind) == ((a0.Doors.getD s1.toNat default).Kind)) && (((a0.Doors.getD s17.toNat default).Inner) == ((a0.Doors.getD s1.toNat default).Inner))) && (((a0.Doors.getD s17.toNat default).InnerPort) == ((a0.Doors.getD s1.toNat default).InnerPort))) = true then
 some (.inr (.inl ()))
else
 some (.inl (IntKind.i64.wrap (s17 + 1))))
else
 some (.inr (.inr ())))) 0) fun x20 =>
(match x20 with
| .inl d22 =>
 some (.inr (.inl ()))
| .inr d23 =>
 some (.inl (IntKind.i64.wrap (s1 + 1))))))
else
 some (.inr (.inr ())))) 0) fun x4 =>
(match x4 with
| .inl d24 =>
 some false
| .inr d25 =>
 some (decide (((a0.Doors.length : Nat) : Int) ≤ 6)))

theorem impl_NatBook_doorsOk_c {a0 : NatBook} {r : Bool} (h : impl_NatBook_doorsOk_m a0 = some r) : PureC Try.prog 42 [.agg [.d (.int .i64 a0.Addr), .d (.int .i64 a0.Len), .d (.int .i64 a0.Own), .d (.int .i64 a0.Low), .d (.int .i64 a0.High), .d (slD NatDoor.enc a0.Doors), .d (.int .i64 a0.Now), .d (slD NatEntry.enc a0.Entries)]] (.d (.bool r)) [] := by
  refine pureC_x tOk (fn := Try.f42) (c := codeOf Try.f42) rfl rfl ?_
  unfold impl_NatBook_doorsOk_m at h
  conv => whnf
  refine seq_in tOk ?_
  conv => whnf
  obtain ⟨x4, hx4, h⟩ := bd_some h
  refine loop_m tOk hx4 (fun s1 => ⟨0, 108, [(1, .ref 1 0 0), (8, .d (slD NatDoor.enc a0.Doors)), (9, .d (.int .i64 ((a0.Doors.length : Nat) : Int))), (10, .d (.int .i64 s1))], [], [(1, .box 26 [.d (.int .i64 a0.Addr), .d (.int .i64 a0.Len), .d (.int .i64 a0.Own), .d (.int .i64 a0.Low), .d (.int .i64 a0.High), .d (slD NatDoor.enc a0.Doors), .d (.int .i64 a0.Now), .d (slD NatEntry.enc a0.Entries)])], []⟩) ?_ ?_
  · exact leX []
  · clear hx4
    intro s1 y2 g3 hy2
    conv => whnf
    refine seq_in tOk ?_
    conv => whnf
    refine andI g3 (fun _ g3 => ?_) (fun _ g3 => ?_)
    · conv => whnf
      refine seq_in tOk ?_
      conv => whnf
      refine gdI g3 (fun g3 => ?_)
      conv => whnf
      refine seq_in tOk ?_
      conv => whnf
      obtain ⟨x6, hx6, g3⟩ := bd_some g3
      refine cC 0 (impl_within_c hx6) ?_
      clear hx6
      conv => whnf
      obtain ⟨x7, hx7, g3⟩ := bd_some g3
      refine cG (fun c0 => impl_within_c (gcall_some hx7 c0)) ?_
      conv => whnf
      obtain ⟨x8, hx8, g3⟩ := bd_some g3
      refine cG (fun c0 => impl_within_c (gcall_some hx8 c0)) ?_
      conv => whnf
      obtain ⟨x9, hx9, g3⟩ := bd_some g3
      refine cG (fun c0 => impl_NatBook_inside_c (gcall_some hx9 c0)) ?_
      conv => whnf
      obtain ⟨x10, hx10, g3⟩ := bd_some g3
      refine cG (fun c0 => impl_within_c (gcall_some hx10 c0)) ?_
      conv => whnf
      refine andI g3 (fun _ g3 => ?_) (fun _ g3 => ?_)
      · conv => whnf
        obtain rfl := Option.some.inj g3
        obtain rfl := hy2 _ rfl
        obtain rfl := Option.some.inj h
        exact lfP []
      · conv => whnf
        refine seq_in tOk ?_
        conv => whnf
        obtain ⟨g11, g3⟩ := gd_some g3
        obtain ⟨x12, hx12, g3⟩ := bd_some g3
        obtain ⟨g13, g3⟩ := gd_some g3
        obtain ⟨x14, hx14, g3⟩ := bd_some g3
        obtain ⟨x15, hx15, g3⟩ := bd_some g3
        refine draw_u tOk [.u 12 0 (.d (.int .i64 x12)) [], .u 22 0 (.d (.int .i64 x14)) [], .u 24 0 (.d (.int .i64 x15)) []] 27 [] [0, 1, 3, 7, 15, 7, 39, 127, 255, 511, 7, 1031, 4095, 7, 8199, 7, 32775, 122887, 253959, 516103, 7, 1048583, 4194303, 8388607, 16777215, 33554431, 67108863] [] ?_
        conv => whnf
        refine And.intro g11 ?_
        clear g11
        conv => whnf
        refine And.intro (callDG_if rfl rfl rfl rfl (by intro c0; exact cmp_Compare_int_c (gcall_some hx12 c0))) ?_
        conv => whnf
        refine And.intro g13 ?_
        clear g13
        conv => whnf
        refine And.intro (callDG_if rfl rfl rfl rfl (by intro c0; exact cmp_Compare_int_c (gcall_some hx14 c0))) ?_
        conv => whnf
        refine And.intro (callDG_if rfl rfl rfl rfl (by intro c0;  exact (cmp_Or_int_c (gcall_some hx15 c0)).le argA)) ?_
        conv => whnf
        refine And.intro (by kernel_rfl) ?_
        conv => whnf
        refine andI g3 (fun _ g3 => ?_) (fun _ g3 => ?_)
        · conv => whnf
          obtain rfl := Option.some.inj g3
          obtain rfl := hy2 _ rfl
          obtain rfl := Option.some.inj h
          exact lfP []
        · conv => whnf
          obtain ⟨g16, g3⟩ := gd_some g3
          refine And.intro ⟨g16, .inr rfl⟩ ?_
          conv => whnf
          obtain ⟨x20, hx20, g3⟩ := bd_some g3
          refine loop_m tOk hx20 (fun s17 => ⟨0, 108, [(1, .ref 1 0 0), (4, .ref 4 0 0), (8, .d (slD NatDoor.enc a0.Doors)), (9, .d (.int .i64 ((a0.Doors.length : Nat) : Int))), (10, .d (.int .i64 s1)), (77, .d (.sl s1.toNat (rows NatDoor.enc a0.Doors))), (78, .d (.int .i64 ((s1.toNat : Nat) : Int))), (79, .d (.int .i64 s17))], [], [(4, .box 66 [.d (.int .i64 ((a0.Doors.getD s1.toNat default).Kind)), .d (.int .i64 ((a0.Doors.getD s1.toNat default).Outer)), .d (.int .i64 ((a0.Doors.getD s1.toNat default).Inner)), .d (.int .i64 ((a0.Doors.getD s1.toNat default).InnerPort))]), (1, .box 26 [.d (.int .i64 a0.Addr), .d (.int .i64 a0.Len), .d (.int .i64 a0.Own), .d (.int .i64 a0.Low), .d (.int .i64 a0.High), .d (slD NatDoor.enc a0.Doors), .d (.int .i64 a0.Now), .d (slD NatEntry.enc a0.Entries)])], []⟩) ?_ ?_
          · exact leX []
          · clear hx20
            intro s17 y18 g19 hy18
            conv => whnf
            refine seq_in tOk ?_
            conv => whnf
            refine andI g19 (fun _ g19 => ?_) (fun _ g19 => ?_)
            · conv => whnf
              refine seq_in tOk ?_
              conv => whnf
              refine gdI g19 (fun g19 => ?_)
              conv => whnf
              refine andI g19 (fun _ g19 => ?_) (fun _ g19 => ?_)
              · conv => whnf
                obtain rfl := Option.some.inj g19
                obtain rfl := hy18 _ rfl
                obtain rfl := Option.some.inj g3
                obtain rfl := hy2 _ rfl
                obtain rfl := Option.some.inj h
                exact lfP []
              · conv => whnf
                obtain rfl := Option.some.inj g19
                exact ⟨_, rfl, leX []⟩
            · conv => whnf
              obtain rfl := Option.some.inj g19
              obtain rfl := hy18 _ rfl
              obtain rfl := Option.some.inj g3
              exact ⟨_, rfl, leX []⟩
    · conv => whnf
      obtain rfl := Option.some.inj g3
      obtain rfl := hy2 _ rfl
      obtain rfl := Option.some.inj h
      exact lfP []

noncomputable def impl_NatEntry_flow_m (a0 : NatEntry) : Option (NatFlow) :=
 some (⟨a0.Kind, a0.Inner, a0.InnerPort, a0.Peer, a0.PeerPort⟩ : NatFlow)

theorem impl_NatEntry_flow_c {a0 : NatEntry} {r : NatFlow} (h : impl_NatEntry_flow_m a0 = some r) : PureC Try.prog 50 [.agg [.d (.int .i64 a0.Kind), .d (.int .i64 a0.Peer), .d (.int .i64 a0.PeerPort), .d (.int .i64 a0.Outer), .d (.int .i64 a0.Inner), .d (.int .i64 a0.InnerPort), .d (.int .i64 a0.Last)]] (.agg [.d (.int .i64 r.Kind), .d (.int .i64 r.From), .d (.int .i64 r.FromPort), .d (.int .i64 r.To), .d (.int .i64 r.ToPort)]) [] := by
  refine pureC_x tOk (fn := Try.f50) (c := codeOf Try.f50) rfl rfl ?_
  unfold impl_NatEntry_flow_m at h
  conv => whnf
  obtain rfl := Option.some.inj h
  exact lfP []

noncomputable def impl_NatFlowOk_m (a0 : NatFlow) : Option (Bool) :=
 bd (impl_within_m a0.Kind 1 7) fun x1 =>
 bd (gcall (x1 = true) (impl_within_m a0.From 0 65535)) fun x2 =>
 bd (gcall ((x1 && x2) = true) (impl_within_m a0.To 0 65535)) fun x3 =>
 bd (gcall (((x1 && x2) && x3) = true) (impl_within_m a0.FromPort 1 65535)) fun x4 =>
 bd (gcall ((((x1 && x2) && x3) && x4) = true) (impl_within_m a0.ToPort 1 65535)) fun x5 =>
 some ((((x1 && x2) && x3) && x4) && x5)

theorem impl_NatFlowOk_c {a0 : NatFlow} {r : Bool} (h : impl_NatFlowOk_m a0 = some r) : PureC Try.prog 30 [.agg [.d (.int .i64 a0.Kind), .d (.int .i64 a0.From), .d (.int .i64 a0.FromPort), .d (.int .i64 a0.To), .d (.int .i64 a0.ToPort)]] (.d (.bool r)) [] := by
  refine pureC_x tOk (fn := Try.f30) (c := codeOf Try.f30) rfl rfl ?_
  unfold impl_NatFlowOk_m at h
  conv => whnf
  obtain ⟨x1, hx1, h⟩ := bd_some h
  refine cC 0 (impl_within_c hx1) ?_
  clear hx1
  conv => whnf
  obtain ⟨x2, hx2, h⟩ := bd_some h
  refine cG (fun c0 => impl_within_c (gcall_some hx2 c0)) ?_
  conv => whnf
  obtain ⟨x3, hx3, h⟩ := bd_some h
  refine cG (fun c0 => impl_within_c (gcall_some hx3 c0)) ?_
  conv => whnf
  obtain ⟨x4, hx4, h⟩ := bd_some h
  refine cG (fun c0 => impl_within_c (gcall_some hx4 c0)) ?_
  conv => whnf
  obtain ⟨x5, hx5, h⟩ := bd_some h
  refine cG (fun c0 => impl_within_c (gcall_some hx5 c0)) ?_
  conv => whnf
  obtain rfl := Option.some.inj h
  exact lfP []

noncomputable def impl_NatBook_age_m (a0 : NatBook) (a1 : NatEntry) : Option (Int) :=
 some (IntKind.i64.wrap (a0.Now - a1.Last))

theorem impl_NatBook_age_c {a0 : NatBook} {a1 : NatEntry} {r : Int} (h : impl_NatBook_age_m a0 a1 = some r) : PureC Try.prog 53 [.agg [.d (.int .i64 a0.Addr), .d (.int .i64 a0.Len), .d (.int .i64 a0.Own), .d (.int .i64 a0.Low), .d (.int .i64 a0.High), .d (slD NatDoor.enc a0.Doors), .d (.int .i64 a0.Now), .d (slD NatEntry.enc a0.Entries)], .agg [.d (.int .i64 a1.Kind), .d (.int .i64 a1.Peer), .d (.int .i64 a1.PeerPort), .d (.int .i64 a1.Outer), .d (.int .i64 a1.Inner), .d (.int .i64 a1.InnerPort), .d (.int .i64 a1.Last)]] (.d (.int .i64 r)) [] := by
  refine pureC_x tOk (fn := Try.f53) (c := codeOf Try.f53) rfl rfl ?_
  unfold impl_NatBook_age_m at h
  conv => whnf
  obtain rfl := Option.some.inj h
  exact lfP []

noncomputable def impl_NatBook_entryOk_m (a0 : NatBook) (a1 : NatEntry) : Option (Bool) :=
 bd (impl_NatEntry_flow_m a1) fun x1 =>
 bd (impl_NatFlowOk_m x1) fun x2 =>
 bd (gcall (x2 = true) (impl_within_m a1.Outer a0.Low a0.High)) fun x3 =>
 bd (gcall ((x2 && x3) = true) (impl_NatBook_inside_m a0 a1.Inner)) fun x4 =>
 bd (gcall (((x2 && x3) && x4) = true) (impl_NatBook_inside_m a0 a1.Peer)) fun x5 =>
 bd (gcall (((((x2 && x3) && x4) && (!x5)) && (a1.Peer != a0.Own)) = true) (impl_within_m a1.Last 0 a0.Now)) fun x6 =>
 bd (gcall ((((((x2 && x3) && x4) && (!x5)) && (a1.Peer != a0.Own)) && x6) = true) (impl_NatBook_age_m a0 a1)) fun x7 =>
 some ((((((x2 && x3) && x4) && (!x5)) && (a1.Peer != a0.Own)) && x6) && (decide (x7 < 12)))

theorem impl_NatBook_entryOk_c {a0 : NatBook} {a1 : NatEntry} {r : Bool} (h : impl_NatBook_entryOk_m a0 a1 = some r) : PureC Try.prog 75 [.agg [.d (.int .i64 a0.Addr), .d (.int .i64 a0.Len), .d (.int .i64 a0.Own), .d (.int .i64 a0.Low), .d (.int .i64 a0.High), .d (slD NatDoor.enc a0.Doors), .d (.int .i64 a0.Now), .d (slD NatEntry.enc a0.Entries)], .agg [.d (.int .i64 a1.Kind), .d (.int .i64 a1.Peer), .d (.int .i64 a1.PeerPort), .d (.int .i64 a1.Outer), .d (.int .i64 a1.Inner), .d (.int .i64 a1.InnerPort), .d (.int .i64 a1.Last)]] (.d (.bool r)) [] := by
  refine pureC_x tOk (fn := Try.f75) (c := codeOf Try.f75) rfl rfl ?_
  unfold impl_NatBook_entryOk_m at h
  conv => whnf
  obtain ⟨x1, hx1, h⟩ := bd_some h
  refine cC 0 (impl_NatEntry_flow_c hx1) ?_
  clear hx1
  conv => whnf
  obtain ⟨x2, hx2, h⟩ := bd_some h
  refine cC 0 (impl_NatFlowOk_c hx2) ?_
  clear hx2
  conv => whnf
  obtain ⟨x3, hx3, h⟩ := bd_some h
  refine cG (fun c0 => impl_within_c (gcall_some hx3 c0)) ?_
  conv => whnf
  obtain ⟨x4, hx4, h⟩ := bd_some h
  refine cG (fun c0 => impl_NatBook_inside_c (gcall_some hx4 c0)) ?_
  conv => whnf
  obtain ⟨x5, hx5, h⟩ := bd_some h
  refine cG (fun c0 => impl_NatBook_inside_c (gcall_some hx5 c0)) ?_
  conv => whnf
  obtain ⟨x6, hx6, h⟩ := bd_some h
  refine cG (fun c0 => impl_within_c (gcall_some hx6 c0)) ?_
  conv => whnf
  obtain ⟨x7, hx7, h⟩ := bd_some h
  refine cG (fun c0 => impl_NatBook_age_c (gcall_some hx7 c0)) ?_
  conv => whnf
  obtain rfl := Option.some.inj h
  exact lfP []

noncomputable def impl_NatEntry_compare_m (a0 : NatEntry) (a1 : NatEntry) : Option (Int) :=
 bd (cmp_Compare_int_m a0.Kind a1.Kind) fun x1 =>
 bd (cmp_Compare_int_m a0.Peer a1.Peer) fun x2 =>
 bd (cmp_Compare_int_m a0.PeerPort a1.PeerPort) fun x3 =>
 bd (cmp_Compare_int_m a0.Outer a1.Outer) fun x4 =>
 bd (cmp_Or_int_m ([x1, x2, x3, x4] : List Int)) fun x5 =>
 some x5

theorem impl_NatEntry_compare_c {a0 : NatEntry} {a1 : NatEntry} {r : Int} (h : impl_NatEntry_compare_m a0 a1 = some r) : PureC Try.prog 65 [.agg [.d (.int .i64 a0.Kind), .d (.int .i64 a0.Peer), .d (.int .i64 a0.PeerPort), .d (.int .i64 a0.Outer), .d (.int .i64 a0.Inner), .d (.int .i64 a0.InnerPort), .d (.int .i64 a0.Last)], .agg [.d (.int .i64 a1.Kind), .d (.int .i64 a1.Peer), .d (.int .i64 a1.PeerPort), .d (.int .i64 a1.Outer), .d (.int .i64 a1.Inner), .d (.int .i64 a1.InnerPort), .d (.int .i64 a1.Last)]] (.d (.int .i64 r)) [] := by
  refine pureC_x tOk (fn := Try.f65) (c := codeOf Try.f65) rfl rfl ?_
  unfold impl_NatEntry_compare_m at h
  conv => whnf
  obtain ⟨x1, hx1, h⟩ := bd_some h
  obtain ⟨x2, hx2, h⟩ := bd_some h
  obtain ⟨x3, hx3, h⟩ := bd_some h
  obtain ⟨x4, hx4, h⟩ := bd_some h
  obtain ⟨x5, hx5, h⟩ := bd_some h
  refine draw_u tOk [.u 4 0 (.d (.int .i64 x1)) [], .u 9 0 (.d (.int .i64 x2)) [], .u 14 0 (.d (.int .i64 x3)) [], .u 19 0 (.d (.int .i64 x4)) [], .u 21 0 (.d (.int .i64 x5)) []] 23 [] [0, 1, 0, 4, 15, 0, 32, 0, 128, 511, 0, 1024, 0, 4096, 16383, 0, 32768, 0, 131072, 524287, 1048575, 2097151, 4194303] [] ?_
  conv => whnf
  refine And.intro (callD_any (cmp_Compare_int_c hx1) (by kernel_rfl)) ?_
  conv => whnf
  refine And.intro (callD_any (cmp_Compare_int_c hx2) (by kernel_rfl)) ?_
  conv => whnf
  refine And.intro (callD_any (cmp_Compare_int_c hx3) (by kernel_rfl)) ?_
  conv => whnf
  refine And.intro (callD_any (cmp_Compare_int_c hx4) (by kernel_rfl)) ?_
  conv => whnf
  refine bldS (enc := encInt) ([x1, x2, x3, x4] : List Int) ?_
  conv => whnf
  refine And.intro (callD_any (cmp_Or_int_c hx5) (by kernel_rfl)) ?_
  conv => whnf
  refine And.intro (by kernel_rfl) ?_
  conv => whnf
  obtain rfl := Option.some.inj h
  exact lfP []

noncomputable def impl_NatBook_lives_m (a0 : NatBook) (a1 : NatEntry) : Option (Bool) :=
 bd (impl_NatBook_age_m a0 a1) fun x1 =>
 some (decide (x1 < 8))

theorem impl_NatBook_lives_c {a0 : NatBook} {a1 : NatEntry} {r : Bool} (h : impl_NatBook_lives_m a0 a1 = some r) : PureC Try.prog 49 [.agg [.d (.int .i64 a0.Addr), .d (.int .i64 a0.Len), .d (.int .i64 a0.Own), .d (.int .i64 a0.Low), .d (.int .i64 a0.High), .d (slD NatDoor.enc a0.Doors), .d (.int .i64 a0.Now), .d (slD NatEntry.enc a0.Entries)], .agg [.d (.int .i64 a1.Kind), .d (.int .i64 a1.Peer), .d (.int .i64 a1.PeerPort), .d (.int .i64 a1.Outer), .d (.int .i64 a1.Inner), .d (.int .i64 a1.InnerPort), .d (.int .i64 a1.Last)]] (.d (.bool r)) [] := by
  refine pureC_x tOk (fn := Try.f49) (c := codeOf Try.f49) rfl rfl ?_
  unfold impl_NatBook_lives_m at h
  conv => whnf
  obtain ⟨x1, hx1, h⟩ := bd_some h
  refine cC 0 (impl_NatBook_age_c hx1) ?_
  clear hx1
  conv => whnf
  obtain rfl := Option.some.inj h
  exact lfP []

noncomputable def impl_NatBook_entriesOk_m (a0 : NatBook) : Option (Bool) :=
 bd (lp (σ := Int) (β := (Unit ⊕ Unit)) (fun s1 =>
(if (decide (s1 < ((a0.Entries.length : Nat) : Int))) = true then
 gd ((0 : Int) ≤ s1 ∧ s1 < ((a0.Entries.length : Nat) : Int)) <|
 bd (impl_NatBook_entryOk_m a0 (a0.Entries.getD s1.toNat default)) fun x6 =>
 gd ((decide (s1 > 0)) = true → ((!x6) = false → ((0 : Int) ≤ IntKind.i64.wrap (s1 - 1) ∧ IntKind.i64.wrap (s1 - 1) < ((a0.Entries.length : Nat) : Int)))) <|
 bd (gcall ((decide (s1 > 0)) = true ∧ (!x6) = false) (impl_NatEntry_compare_m (a0.Entries.getD ((IntKind.i64.wrap (s1 - 1)).toNat) default) (a0.Entries.getD s1.toNat default))) fun x8 =>
(if ((!x6) || ((decide (s1 > 0)) && (decide (x8 ≥ 0)))) = true then
 some (.inr (.inl ()))
else
 gd ((0 : Int) ≤ (0 : Int) ∧ (0 : Int) ≤ s1 ∧ s1 ≤ ((a0.Entries.length : Nat) : Int)) <|
 bd (lp (σ := Int) (β := (Unit ⊕ Unit)) (fun s10 =>
(if (decide (s10 < ((s1.toNat : Nat) : Int))) = true then
 gd ((0 : Int) ≤ s10 ∧ s10 < ((s1.toNat : Nat) : Int)) <|
 bd (impl_NatBook_lives_m a0 (a0.Entries.getD s1.toNat default)) fun x15 =>
 bd (gcall (x15 = true) (impl_NatBook_lives_m a0 (a0.Entries.getD s10.toNat default))) fun x16 =>
 bd (gcall ((x15 && x16) = true) (impl_NatEntry_flow_m (a0.Entries.getD s1.toNat default))) fun x17 =>
 bd (gcall ((x15 && x16) = true) (impl_NatEntry_flow_m (a0.Entries.getD s10.toNat default))) fun x18 =>
(if ((x15 && x16) && ((x17.Kind == x18.Kind) && ((x17.From == x18.From) && ((x17.FromPort == x18.FromPort) && ((x17.To == x18.To) && ((x17.ToPort == x18.ToPort) && true)))))) = true then
 some (.inr (.inl ()))
else
 some (.inl (IntKind.i64.wrap (s10 + 1))))
else
 some (.inr (.inr ())))) 0) fun x13 =>
(match x13 with
| .inl d19 =>
 some (.inr (.inl ()))
| .inr d20 =>
 some (.inl (IntKind.i64.wrap (s1 + 1)))))
else
 some (.inr (.inr ())))) 0) fun x4 =>
(match x4 with
| .inl d21 =>
 some false
| .inr d22 =>
 some (decide (((a0.Entries.length : Nat) : Int) ≤ 16)))

theorem impl_NatBook_entriesOk_c {a0 : NatBook} {r : Bool} (h : impl_NatBook_entriesOk_m a0 = some r) : PureC Try.prog 43 [.agg [.d (.int .i64 a0.Addr), .d (.int .i64 a0.Len), .d (.int .i64 a0.Own), .d (.int .i64 a0.Low), .d (.int .i64 a0.High), .d (slD NatDoor.enc a0.Doors), .d (.int .i64 a0.Now), .d (slD NatEntry.enc a0.Entries)]] (.d (.bool r)) [] := by
  refine pureC_x tOk (fn := Try.f43) (c := codeOf Try.f43) rfl rfl ?_
  unfold impl_NatBook_entriesOk_m at h
  conv => whnf
  refine seq_in tOk ?_
  conv => whnf
  obtain ⟨x4, hx4, h⟩ := bd_some h
  refine loop_m tOk hx4 (fun s1 => ⟨0, 64, [(1, .ref 1 0 0), (8, .d (slD NatEntry.enc a0.Entries)), (9, .d (.int .i64 ((a0.Entries.length : Nat) : Int))), (10, .d (.int .i64 s1))], [], [(1, .box 26 [.d (.int .i64 a0.Addr), .d (.int .i64 a0.Len), .d (.int .i64 a0.Own), .d (.int .i64 a0.Low), .d (.int .i64 a0.High), .d (slD NatDoor.enc a0.Doors), .d (.int .i64 a0.Now), .d (slD NatEntry.enc a0.Entries)])], []⟩) ?_ ?_
  · exact leX []
  · clear hx4
    intro s1 y2 g3 hy2
    conv => whnf
    refine seq_in tOk ?_
    conv => whnf
    refine andI g3 (fun _ g3 => ?_) (fun _ g3 => ?_)
    · conv => whnf
      refine seq_in tOk ?_
      conv => whnf
      refine gdI g3 (fun g3 => ?_)
      conv => whnf
      refine seq_in tOk ?_
      conv => whnf
      obtain ⟨x6, hx6, g3⟩ := bd_some g3
      obtain ⟨g7, g3⟩ := gd_some g3
      obtain ⟨x8, hx8, g3⟩ := bd_some g3
      refine draw_u tOk [.u 2 0 (.d (.bool x6)) [], .u 15 0 (.d (.int .i64 x8)) []] 19 [] [0, 0, 3, 7, 15, 31, 63, 127, 255, 511, 255, 1279, 4095, 8191, 255, 32767, 65535, 131071, 262143] [] ?_
      conv => whnf
      refine And.intro (callD_any (impl_NatBook_entryOk_c hx6) (by kernel_rfl)) ?_
      conv => whnf
      refine And.intro g7 ?_
      clear g7
      conv => whnf
      refine And.intro (callDG_if rfl rfl rfl rfl (by intro c0 c1; exact impl_NatEntry_compare_c (gcall_some hx8 ⟨c0, c1⟩))) ?_
      conv => whnf
      refine And.intro (by kernel_rfl) ?_
      conv => whnf
      refine andI g3 (fun _ g3 => ?_) (fun _ g3 => ?_)
      · conv => whnf
        obtain rfl := Option.some.inj g3
        obtain rfl := hy2 _ rfl
        obtain rfl := Option.some.inj h
        exact lfP []
      · conv => whnf
        obtain ⟨g9, g3⟩ := gd_some g3
        refine And.intro ⟨g9, .inr rfl⟩ ?_
        conv => whnf
        obtain ⟨x13, hx13, g3⟩ := bd_some g3
        refine loop_m tOk hx13 (fun s10 => ⟨0, 64, [(1, .ref 1 0 0), (4, .ref 4 0 0), (8, .d (slD NatEntry.enc a0.Entries)), (9, .d (.int .i64 ((a0.Entries.length : Nat) : Int))), (10, .d (.int .i64 s1)), (37, .d (.sl s1.toNat (rows NatEntry.enc a0.Entries))), (38, .d (.int .i64 ((s1.toNat : Nat) : Int))), (39, .d (.int .i64 s10))], [], [(4, .box 68 [.d (.int .i64 ((a0.Entries.getD s1.toNat default).Kind)), .d (.int .i64 ((a0.Entries.getD s1.toNat default).Peer)), .d (.int .i64 ((a0.Entries.getD s1.toNat default).PeerPort)), .d (.int .i64 ((a0.Entries.getD s1.toNat default).Outer)), .d (.int .i64 ((a0.Entries.getD s1.toNat default).Inner)), .d (.int .i64 ((a0.Entries.getD s1.toNat default).InnerPort)), .d (.int .i64 ((a0.Entries.getD s1.toNat default).Last))]), (1, .box 26 [.d (.int .i64 a0.Addr), .d (.int .i64 a0.Len), .d (.int .i64 a0.Own), .d (.int .i64 a0.Low), .d (.int .i64 a0.High), .d (slD NatDoor.enc a0.Doors), .d (.int .i64 a0.Now), .d (slD NatEntry.enc a0.Entries)])], []⟩) ?_ ?_
        · exact leX []
        · clear hx13
          intro s10 y11 g12 hy11
          conv => whnf
          refine seq_in tOk ?_
          conv => whnf
          refine andI g12 (fun _ g12 => ?_) (fun _ g12 => ?_)
          · conv => whnf
            refine seq_in tOk ?_
            conv => whnf
            refine gdI g12 (fun g12 => ?_)
            conv => whnf
            obtain ⟨x15, hx15, g12⟩ := bd_some g12
            obtain ⟨x16, hx16, g12⟩ := bd_some g12
            obtain ⟨x17, hx17, g12⟩ := bd_some g12
            obtain ⟨x18, hx18, g12⟩ := bd_some g12
            refine draw_u tOk [.u 2 0 (.d (.bool x15)) [], .u 6 0 (.d (.bool x16)) [], .u 10 0 (.agg [.d (.int .i64 x17.Kind), .d (.int .i64 x17.From), .d (.int .i64 x17.FromPort), .d (.int .i64 x17.To), .d (.int .i64 x17.ToPort)]) [], .u 12 0 (.agg [.d (.int .i64 x18.Kind), .d (.int .i64 x18.From), .d (.int .i64 x18.FromPort), .d (.int .i64 x18.To), .d (.int .i64 x18.ToPort)]) []] 15 [] [0, 0, 3, 7, 15, 15, 63, 127, 255, 511, 1023, 511, 4095, 8191, 16383] [] ?_
            conv => whnf
            refine And.intro (callD_any (impl_NatBook_lives_c hx15) (by kernel_rfl)) ?_
            conv => whnf
            refine And.intro (callDG_if rfl rfl rfl rfl (by intro c0; exact impl_NatBook_lives_c (gcall_some hx16 c0))) ?_
            conv => whnf
            refine And.intro (callDG_if rfl rfl rfl rfl (by intro c0; exact impl_NatEntry_flow_c (gcall_some hx17 c0))) ?_
            conv => whnf
            refine And.intro (callDG_if rfl rfl rfl rfl (by intro c0; exact impl_NatEntry_flow_c (gcall_some hx18 c0))) ?_
            conv => whnf
            refine And.intro (by kernel_rfl) ?_
            conv => whnf
            refine andI g12 (fun _ g12 => ?_) (fun _ g12 => ?_)
            · conv => whnf
              obtain rfl := Option.some.inj g12
              obtain rfl := hy11 _ rfl
              obtain rfl := Option.some.inj g3
              obtain rfl := hy2 _ rfl
              obtain rfl := Option.some.inj h
              exact lfP []
            · conv => whnf
              obtain rfl := Option.some.inj g12
              exact ⟨_, rfl, leX []⟩
          · conv => whnf
            obtain rfl := Option.some.inj g12
            obtain rfl := hy11 _ rfl
            obtain rfl := Option.some.inj g3
            exact ⟨_, rfl, leX []⟩
    · conv => whnf
      obtain rfl := Option.some.inj g3
      obtain rfl := hy2 _ rfl
      obtain rfl := Option.some.inj h
      exact lfP []

noncomputable def impl_NatBookOk_m (a0 : NatBook) : Option (Bool) :=
 bd (impl_NetOk_m (⟨a0.Addr, a0.Len⟩ : NetPrefix)) fun x1 =>
 bd (gcall ((!x1) = false) (impl_within_m a0.Own 0 65535)) fun x2 =>
 bd (gcall (((!x1) || (!x2)) = false) (impl_NatBook_inside_m a0 a0.Own)) fun x3 =>
 bd (gcall (((((((!x1) || (!x2)) || x3) || (decide (a0.Low < 1))) || (decide (a0.Low > a0.High))) || (decide (a0.High > 65535))) = false) (impl_within_m a0.Now 0 1000000)) fun x4 =>
(if (((((((!x1) || (!x2)) || x3) || (decide (a0.Low < 1))) || (decide (a0.Low > a0.High))) || (decide (a0.High > 65535))) || (!x4)) = true then
 some false
else
 bd (impl_NatBook_doorsOk_m a0) fun x5 =>
 bd (gcall (x5 = true) (impl_NatBook_entriesOk_m a0)) fun x6 =>
 some (x5 && x6))

theorem impl_NatBookOk_c {a0 : NatBook} {r : Bool} (h : impl_NatBookOk_m a0 = some r) : PureC Try.prog 12 [.agg [.d (.int .i64 a0.Addr), .d (.int .i64 a0.Len), .d (.int .i64 a0.Own), .d (.int .i64 a0.Low), .d (.int .i64 a0.High), .d (slD NatDoor.enc a0.Doors), .d (.int .i64 a0.Now), .d (slD NatEntry.enc a0.Entries)]] (.d (.bool r)) [] := by
  refine pureC_x tOk (fn := Try.f12) (c := codeOf Try.f12) rfl rfl ?_
  unfold impl_NatBookOk_m at h
  conv => whnf
  refine seq_in tOk ?_
  conv => whnf
  obtain ⟨x1, hx1, h⟩ := bd_some h
  refine cC 0 (impl_NetOk_c hx1) ?_
  clear hx1
  conv => whnf
  obtain ⟨x2, hx2, h⟩ := bd_some h
  refine cG (fun c0 => impl_within_c (gcall_some hx2 c0)) ?_
  conv => whnf
  obtain ⟨x3, hx3, h⟩ := bd_some h
  refine cG (fun c0 => impl_NatBook_inside_c (gcall_some hx3 c0)) ?_
  conv => whnf
  obtain ⟨x4, hx4, h⟩ := bd_some h
  refine cG (fun c0 => impl_within_c (gcall_some hx4 c0)) ?_
  conv => whnf
  refine andI h (fun _ h => ?_) (fun _ h => ?_)
  · conv => whnf
    obtain rfl := Option.some.inj h
    exact lfP []
  · conv => whnf
    obtain ⟨x5, hx5, h⟩ := bd_some h
    refine cC 0 (impl_NatBook_doorsOk_c hx5) ?_
    clear hx5
    conv => whnf
    obtain ⟨x6, hx6, h⟩ := bd_some h
    refine cG (fun c0 => impl_NatBook_entriesOk_c (gcall_some hx6 c0)) ?_
    conv => whnf
    obtain rfl := Option.some.inj h
    exact lfP []

noncomputable def impl_clone_NatDoor_m (a0 : (List NatDoor)) : Option ((List NatDoor)) :=
 gd ((0 : Int) ≤ 0 ∧ 0 ≤ ((a0.length : Nat) : Int) ∧ ((a0.length : Nat) : Int) * 32 ≤ 140737488355328 ∧ ((a0.length : Nat) : Int) ≤ 140737488355328) <|
 gd ((((List.replicate (0 : Int).toNat (default : NatDoor)).length) + (a0.length)) * (32 + 1) ≤ 70368744177664) <|
 some ((List.replicate (0 : Int).toNat (default : NatDoor)) ++ a0)

theorem impl_clone_NatDoor_c {a0 : (List NatDoor)} {r : (List NatDoor)} (h : impl_clone_NatDoor_m a0 = some r) : PureC Try.prog 60 [.d (slD NatDoor.enc a0)] (.osl 5001 0 r.length) [⟨5001, 66, 4, r.length, rows NatDoor.enc r⟩] := by
  refine pureC_x tOk (fn := Try.f60) (c := codeOf Try.f60) rfl rfl ?_
  unfold impl_clone_NatDoor_m at h
  conv => whnf
  obtain ⟨g2, h⟩ := gd_some h
  refine And.intro g2 ?_
  clear g2
  refine ⟨(List.replicate (0 : Int).toNat (default : NatDoor)).length, rows NatDoor.enc (List.replicate (0 : Int).toNat (default : NatDoor)), by simp, make_rows rfl, ?_⟩
  conv => whnf
  refine gdI h (fun h => ?_)
  refine appS (enc := NatDoor.enc) (xs := (List.replicate (0 : Int).toNat (default : NatDoor))) (ys := a0) ?_
  conv => whnf
  obtain rfl := Option.some.inj h
  exact lfP [.s [(5, 5001), (5001, 5)]]

noncomputable def impl_clone_NatEntry_m (a0 : (List NatEntry)) : Option ((List NatEntry)) :=
 gd ((0 : Int) ≤ 0 ∧ 0 ≤ ((a0.length : Nat) : Int) ∧ ((a0.length : Nat) : Int) * 56 ≤ 140737488355328 ∧ ((a0.length : Nat) : Int) ≤ 140737488355328) <|
 gd ((((List.replicate (0 : Int).toNat (default : NatEntry)).length) + (a0.length)) * (56 + 1) ≤ 70368744177664) <|
 some ((List.replicate (0 : Int).toNat (default : NatEntry)) ++ a0)

theorem impl_clone_NatEntry_c {a0 : (List NatEntry)} {r : (List NatEntry)} (h : impl_clone_NatEntry_m a0 = some r) : PureC Try.prog 61 [.d (slD NatEntry.enc a0)] (.osl 5001 0 r.length) [⟨5001, 68, 7, r.length, rows NatEntry.enc r⟩] := by
  refine pureC_x tOk (fn := Try.f61) (c := codeOf Try.f61) rfl rfl ?_
  unfold impl_clone_NatEntry_m at h
  conv => whnf
  obtain ⟨g2, h⟩ := gd_some h
  refine And.intro g2 ?_
  clear g2
  refine ⟨(List.replicate (0 : Int).toNat (default : NatEntry)).length, rows NatEntry.enc (List.replicate (0 : Int).toNat (default : NatEntry)), by simp, make_rows rfl, ?_⟩
  conv => whnf
  refine gdI h (fun h => ?_)
  refine appS (enc := NatEntry.enc) (xs := (List.replicate (0 : Int).toNat (default : NatEntry))) (ys := a0) ?_
  conv => whnf
  obtain rfl := Option.some.inj h
  exact lfP [.s [(5, 5001), (5001, 5)]]

noncomputable def impl_copyBook_m (a0 : NatBook) : Option (NatBook) :=
 bd (impl_clone_NatDoor_m a0.Doors) fun x1 =>
 bd (impl_clone_NatEntry_m a0.Entries) fun x2 =>
 some ({ a0 with Doors := x1, Entries := x2 })

theorem impl_copyBook_c {a0 : NatBook} {r : NatBook} (h : impl_copyBook_m a0 = some r) : PureC Try.prog 29 [.agg [.d (.int .i64 a0.Addr), .d (.int .i64 a0.Len), .d (.int .i64 a0.Own), .d (.int .i64 a0.Low), .d (.int .i64 a0.High), .d (slD NatDoor.enc a0.Doors), .d (.int .i64 a0.Now), .d (slD NatEntry.enc a0.Entries)]] (.agg [.d (.int .i64 r.Addr), .d (.int .i64 r.Len), .d (.int .i64 r.Own), .d (.int .i64 r.Low), .d (.int .i64 r.High), .osl 5001 0 r.Doors.length, .d (.int .i64 r.Now), .osl 5002 0 r.Entries.length]) [⟨5001, 66, 4, r.Doors.length, rows NatDoor.enc r.Doors⟩, ⟨5002, 68, 7, r.Entries.length, rows NatEntry.enc r.Entries⟩] := by
  refine pureC_x tOk (fn := Try.f29) (c := codeOf Try.f29) rfl rfl ?_
  unfold impl_copyBook_m at h
  conv => whnf
  obtain ⟨x1, hx1, h⟩ := bd_some h
  obtain ⟨x2, hx2, h⟩ := bd_some h
  refine draw_u tOk [.u 2 1000 (.osl 5001 0 x1.length) [⟨5001, 66, 4, x1.length, rows NatDoor.enc x1⟩], .u 5 2000 (.osl 5001 0 x2.length) [⟨5001, 68, 7, x2.length, rows NatEntry.enc x2⟩]] 7 [] [0, 1, 3, 0, 8, 31, 31] [127, 255, 511] ?_
  conv => whnf
  refine And.intro (callD_any (impl_clone_NatDoor_c hx1) (by kernel_rfl)) ?_
  conv => whnf
  refine And.intro (callD_any (impl_clone_NatEntry_c hx2) (by kernel_rfl)) ?_
  conv => whnf
  refine And.intro (by kernel_rfl) ?_
  conv => whnf
  obtain rfl := Option.some.inj h
  exact lfP [.s [(5001, 6001), (5002, 7001), (6001, 5001), (7001, 5002)]]

noncomputable def impl_NatTick_1_m (a0 : NatEntry) (a1 : NatBook) : Option (Bool) :=
 bd (impl_NatBook_age_m a1 a0) fun x1 =>
 some (decide (x1 ≥ 12))

theorem impl_NatTick_1_c {a0 : NatEntry} {a1 : NatBook} {r : Bool} (h : impl_NatTick_1_m a0 a1 = some r) : PureC Try.prog 52 [.agg [.d (.int .i64 a0.Kind), .d (.int .i64 a0.Peer), .d (.int .i64 a0.PeerPort), .d (.int .i64 a0.Outer), .d (.int .i64 a0.Inner), .d (.int .i64 a0.InnerPort), .d (.int .i64 a0.Last)], .rp [.int .i64 a1.Addr, .int .i64 a1.Len, .int .i64 a1.Own, .int .i64 a1.Low, .int .i64 a1.High, slD NatDoor.enc a1.Doors, .int .i64 a1.Now, slD NatEntry.enc a1.Entries]] (.d (.bool r)) [] := by
  refine pureC_x tOk (fn := Try.f52) (c := codeOf Try.f52) rfl rfl ?_
  unfold impl_NatTick_1_m at h
  conv => whnf
  obtain ⟨x1, hx1, h⟩ := bd_some h
  refine cC 0 (impl_NatBook_age_c hx1) ?_
  clear hx1
  conv => whnf
  obtain rfl := Option.some.inj h
  exact lfP []

noncomputable def slices_IndexFunc_NatEntry_NatEntry_impl_NatTick_1_m (a0 : (List NatEntry)) (a1c0 : NatBook) : Option (Int) :=
 bd (lp (σ := Int) (β := (Int ⊕ Unit)) (fun s1 =>
(if (decide (s1 < ((a0.length : Nat) : Int))) = true then
 gd ((0 : Int) ≤ s1 ∧ s1 < ((a0.length : Nat) : Int)) <|
 bd (impl_NatTick_1_m (a0.getD s1.toNat default) a1c0) fun x6 =>
(if x6 = true then
 some (.inr (.inl s1))
else
 some (.inl (IntKind.i64.wrap (s1 + 1))))
else
 some (.inr (.inr ())))) 0) fun x4 =>
(match x4 with
| .inl d7 =>
 some d7
| .inr d8 =>
 some (-1))

theorem slices_IndexFunc_NatEntry_NatEntry_impl_NatTick_1_c {a0 : (List NatEntry)} {a1c0 : NatBook} {r : Int} (h : slices_IndexFunc_NatEntry_NatEntry_impl_NatTick_1_m a0 a1c0 = some r) : PureC Try.prog 80 [.d (slD NatEntry.enc a0), .fn 52 [.rp [.int .i64 a1c0.Addr, .int .i64 a1c0.Len, .int .i64 a1c0.Own, .int .i64 a1c0.Low, .int .i64 a1c0.High, slD NatDoor.enc a1c0.Doors, .int .i64 a1c0.Now, slD NatEntry.enc a1c0.Entries]]] (.d (.int .i64 r)) [] := by
  refine pureC_x tOk (fn := Try.f80) (c := codeOf Try.f80) rfl rfl ?_
  unfold slices_IndexFunc_NatEntry_NatEntry_impl_NatTick_1_m at h
  conv => whnf
  refine seq_in tOk ?_
  conv => whnf
  obtain ⟨x4, hx4, h⟩ := bd_some h
  refine loop_m tOk hx4 (fun s1 => ⟨0, 19, [(0, .d (slD NatEntry.enc a0)), (1, .fn 52 [.rp [.int .i64 a1c0.Addr, .int .i64 a1c0.Len, .int .i64 a1c0.Own, .int .i64 a1c0.Low, .int .i64 a1c0.High, slD NatDoor.enc a1c0.Doors, .int .i64 a1c0.Now, slD NatEntry.enc a1c0.Entries]]), (7, .d (.int .i64 ((a0.length : Nat) : Int))), (8, .d (.int .i64 s1))], [], [], []⟩) ?_ ?_
  · exact leX []
  · clear hx4
    intro s1 y2 g3 hy2
    conv => whnf
    refine seq_in tOk ?_
    conv => whnf
    refine andI g3 (fun _ g3 => ?_) (fun _ g3 => ?_)
    · conv => whnf
      refine seq_in tOk ?_
      conv => whnf
      refine gdI g3 (fun g3 => ?_)
      conv => whnf
      obtain ⟨x6, hx6, g3⟩ := bd_some g3
      refine cC 0 (impl_NatTick_1_c hx6) ?_
      clear hx6
      conv => whnf
      refine andI g3 (fun _ g3 => ?_) (fun _ g3 => ?_)
      · conv => whnf
        obtain rfl := Option.some.inj g3
        obtain rfl := hy2 _ rfl
        obtain rfl := Option.some.inj h
        exact lfP []
      · conv => whnf
        obtain rfl := Option.some.inj g3
        exact ⟨_, rfl, leX []⟩
    · conv => whnf
      obtain rfl := Option.some.inj g3
      obtain rfl := hy2 _ rfl
      obtain rfl := Option.some.inj h
      exact lfP []

noncomputable def impl_NatTick_m (a0 : NatBook) : Option (NatBook × Int) :=
 bd (impl_NatBookOk_m a0) fun x1 =>
(if (!x1) = true then
 some ((⟨0, 0, 0, 0, 0, [], 0, []⟩ : NatBook), 1)
else
 bd (impl_copyBook_m a0) fun x2 =>
(if (a0.Now == 1000000) = true then
 some (x2, 2)
else
 bd (slices_IndexFunc_NatEntry_NatEntry_impl_NatTick_1_m x2.Entries ({ x2 with Now := IntKind.i64.wrap (x2.Now + 1) })) fun x3 =>
(if (x3 == (-1)) = true then
 some ({ x2 with Now := IntKind.i64.wrap (x2.Now + 1) }, 0)
else
 bd (lp (σ := List NatEntry × Int × Int) (β := (Nat × Int × (List NatEntry))) (fun s4 =>
(if (decide (s4.2.2 < ((s4.1.length : Nat) : Int))) = true then
 gd ((0 : Int) ≤ s4.2.2 ∧ s4.2.2 < ((s4.1.length : Nat) : Int)) <|
 bd (impl_NatTick_1_m (s4.1.getD s4.2.2.toNat default) ({ x2 with Now := IntKind.i64.wrap (x2.Now + 1), Entries := s4.1 })) fun x9 =>
(if (!x9) = true then
 gd ((0 : Int) ≤ s4.2.1 ∧ s4.2.1 < ((s4.1.length : Nat) : Int)) <|
 some (.inl (s4.1.set s4.2.1.toNat (s4.1.getD s4.2.2.toNat default), IntKind.i64.wrap (s4.2.1 + 1), IntKind.i64.wrap (s4.2.2 + 1)))
else
 some (.inl (s4.1, s4.2.1, IntKind.i64.wrap (s4.2.2 + 1))))
else
 some (.inr (s4.1.length, s4.2.1, s4.1)))) (x2.Entries, x3, IntKind.i64.wrap (x3 + 1))) fun x7 =>
 gd ((0 : Int) ≤ x7.2.1 ∧ x7.2.1 ≤ ((x7.1 : Nat) : Int) ∧ ((x7.1 : Nat) : Int) ≤ ((x7.1 : Nat) : Int)) <|
 gd ((0 : Int) ≤ (0 : Int) ∧ (0 : Int) ≤ x7.2.1 ∧ x7.2.1 ≤ ((x7.1 : Nat) : Int)) <|
 some ({ x2 with Now := IntKind.i64.wrap (x2.Now + 1), Entries := (clrL x7.2.2 x7.2.1.toNat (dsub ((x7.1 : Nat) : Int) x7.2.1)).take x7.2.1.toNat }, 0))))

theorem impl_NatTick_c {a0 : NatBook} {r : NatBook × Int} (h : impl_NatTick_m a0 = some r) : PureC Try.prog 17 [.agg [.d (.int .i64 a0.Addr), .d (.int .i64 a0.Len), .d (.int .i64 a0.Own), .d (.int .i64 a0.Low), .d (.int .i64 a0.High), .d (slD NatDoor.enc a0.Doors), .d (.int .i64 a0.Now), .d (slD NatEntry.enc a0.Entries)]] (.tup [.agg [.d (.int .i64 r.1.Addr), .d (.int .i64 r.1.Len), .d (.int .i64 r.1.Own), .d (.int .i64 r.1.Low), .d (.int .i64 r.1.High), .osl 5001 0 r.1.Doors.length, .d (.int .i64 r.1.Now), .osl 5002 0 r.1.Entries.length], .d (.int .i64 r.2)]) [⟨5001, 66, 4, r.1.Doors.length, rows NatDoor.enc r.1.Doors⟩, ⟨5002, 68, 7, r.1.Entries.length, rows NatEntry.enc r.1.Entries⟩] := by
  refine pureC_x tOk (fn := Try.f17) (c := codeOf Try.f17) rfl rfl ?_
  unfold impl_NatTick_m at h
  conv => whnf
  refine seq_in tOk ?_
  conv => whnf
  obtain ⟨x1, hx1, h⟩ := bd_some h
  refine cC 0 (impl_NatBookOk_c hx1) ?_
  clear hx1
  conv => whnf
  refine andI h (fun _ h => ?_) (fun _ h => ?_)
  · conv => whnf
    obtain rfl := Option.some.inj h
    exact lfP [.k [1], .p 5001 66 4 (rows NatDoor.enc ([] : List NatDoor)), .p 5002 68 7 (rows NatEntry.enc ([] : List NatEntry))]
  · conv => whnf
    obtain ⟨x2, hx2, h⟩ := bd_some h
    refine cC 1000 (impl_copyBook_c hx2) ?_
    clear hx2
    conv => whnf
    refine seq_in tOk ?_
    conv => whnf
    refine andI h (fun _ h => ?_) (fun _ h => ?_)
    · conv => whnf
      obtain rfl := Option.some.inj h
      exact lfP [.s [(5001, 6001), (5002, 6002), (6001, 5001), (6002, 5002)]]
    · conv => whnf
      refine callI tOk 20000 (fn := Try.f51) (c := codeOf Try.f51) rfl rfl (by kernel_rfl) rfl ?_
      conv => whnf
      obtain ⟨x3, hx3, h⟩ := bd_some h
      refine cC 0 (slices_IndexFunc_NatEntry_NatEntry_impl_NatTick_1_c hx3) ?_
      clear hx3
      conv => whnf
      refine seq_in tOk ?_
      conv => whnf
      refine andI h (fun _ h => ?_) (fun _ h => ?_)
      · conv => whnf
        obtain rfl := Option.some.inj h
        exact lfP [.s [(5001, 6001), (5002, 6002), (6001, 5001), (6002, 5002)]]
      · conv => whnf
        refine seq_in tOk ?_
        conv => whnf
        obtain ⟨x7, hx7, h⟩ := bd_some h
        refine loop_m tOk hx7 (fun s4 => ⟨20000, 42, [(0, .osl 6002 0 s4.1.length), (1, .fn 52 [.ref 4 0 0]), (5, .d (.int .i64 s4.2.1)), (6, .d (.int .i64 s4.2.2))], [], [(4, .box 26 [.d (.int .i64 x2.Addr), .d (.int .i64 x2.Len), .d (.int .i64 x2.Own), .d (.int .i64 x2.Low), .d (.int .i64 x2.High), .osl 6001 0 x2.Doors.length, .d (.int .i64 (IntKind.i64.wrap (x2.Now + 1))), .osl 6002 0 s4.1.length]), (6002, .arr 68 7 s4.1.length (rows NatEntry.enc s4.1)), (6001, .arr 66 4 x2.Doors.length (rows NatDoor.enc x2.Doors)), (2, .box 26 [.d (.int .i64 0), .d (.int .i64 0), .d (.int .i64 0), .d (.int .i64 0), .d (.int .i64 0), .d (.nil), .d (.int .i64 0), .d (.nil)]), (1, .box 26 [.d (.int .i64 a0.Addr), .d (.int .i64 a0.Len), .d (.int .i64 a0.Own), .d (.int .i64 a0.Low), .d (.int .i64 a0.High), .d (slD NatDoor.enc a0.Doors), .d (.int .i64 a0.Now), .d (slD NatEntry.enc a0.Entries)])], [⟨[(0, .agg [.d (.int .i64 a0.Addr), .d (.int .i64 a0.Len), .d (.int .i64 a0.Own), .d (.int .i64 a0.Low), .d (.int .i64 a0.High), .d (slD NatDoor.enc a0.Doors), .d (.int .i64 a0.Now), .d (slD NatEntry.enc a0.Entries)]), (1, .ref 1 0 0), (2, .ref 2 0 0), (3, .d (.int .i64 0)), (4, .ref 4 0 0), (5, .agg [.d (.int .i64 a0.Addr), .d (.int .i64 a0.Len), .d (.int .i64 a0.Own), .d (.int .i64 a0.Low), .d (.int .i64 a0.High), .d (slD NatDoor.enc a0.Doors), .d (.int .i64 a0.Now), .d (slD NatEntry.enc a0.Entries)]), (6, .d (.bool x1)), (7, .d (.bool (!x1))), (9, .agg [.d (.int .i64 a0.Addr), .d (.int .i64 a0.Len), .d (.int .i64 a0.Own), .d (.int .i64 a0.Low), .d (.int .i64 a0.High), .d (slD NatDoor.enc a0.Doors), .d (.int .i64 a0.Now), .d (slD NatEntry.enc a0.Entries)]), (10, .agg [.d (.int .i64 x2.Addr), .d (.int .i64 x2.Len), .d (.int .i64 x2.Own), .d (.int .i64 x2.Low), .d (.int .i64 x2.High), .osl 6001 0 x2.Doors.length, .d (.int .i64 x2.Now), .osl 6002 0 s4.1.length]), (11, .ref 1 0 6), (12, .d (.int .i64 a0.Now)), (13, .d (.bool (a0.Now == 1000000))), (15, .ref 4 0 6), (16, .d (.int .i64 x2.Now)), (17, .d (.int .i64 (IntKind.i64.wrap (x2.Now + 1)))), (18, .ref 4 0 6), (19, .ref 4 0 7), (20, .osl 6002 0 s4.1.length), (21, .fn 52 [.ref 4 0 0])], []⟩]⟩) ?_ ?_
        · exact leX []
        · clear hx7
          intro s4 y5 g6 hy5
          conv => whnf
          refine seq_in tOk ?_
          conv => whnf
          refine andI g6 (fun _ g6 => ?_) (fun _ g6 => ?_)
          · conv => whnf
            refine seq_in tOk ?_
            conv => whnf
            refine gdI g6 (fun g6 => ?_)
            conv => whnf
            obtain ⟨x9, hx9, g6⟩ := bd_some g6
            refine cC 0 (impl_NatTick_1_c hx9) ?_
            clear hx9
            conv => whnf
            refine andI g6 (fun _ g6 => ?_) (fun _ g6 => ?_)
            · conv => whnf
              refine gdI g6 (fun g6 => ?_)
              conv => whnf
              refine ⟨rows NatEntry.enc (s4.1.set s4.2.1.toNat (s4.1.getD s4.2.2.toNat default)), store_rows' lenA rfl, ?_⟩
              conv => whnf
              obtain rfl := Option.some.inj g6
              exact ⟨_, rfl, leX []⟩
            · conv => whnf
              obtain rfl := Option.some.inj g6
              exact ⟨_, rfl, leX []⟩
          · conv => whnf
            obtain rfl := Option.some.inj g6
            obtain rfl := hy5 _ rfl
            obtain ⟨g12, h⟩ := gd_some h
            refine And.intro g12 ?_
            conv => whnf
            refine ⟨rows NatEntry.enc (clrL (s4.1.length, s4.2.1, s4.1).2.2 (s4.1.length, s4.2.1, s4.1).2.1.toNat (dsub (((s4.1.length, s4.2.1, s4.1).1 : Nat) : Int) (s4.1.length, s4.2.1, s4.1).2.1)), clr_rows lenA rfl, ?_⟩
            conv => whnf
            obtain ⟨g13, h⟩ := gd_some h
            refine And.intro g13 ?_
            conv => whnf
            obtain rfl := Option.some.inj h
            exact lfP [.cb 2 7, .s [(5001, 6001), (5002, 6002), (6001, 5001), (6002, 5002)]]

noncomputable def spec_NatInside_m (a0 : NatBook) (a1 : Int) : Option (Bool) :=
 bd (spec_NatBookOk_m a0) fun x1 =>
 bd (gcall (x1 = true) (spec_l22Inside_m a0 a1)) fun x2 =>
 some (x1 && x2)

theorem spec_NatInside_c {a0 : NatBook} {a1 : Int} {r : Bool} (h : spec_NatInside_m a0 a1 = some r) : PureC Try.prog 7 [.agg [.d (.int .i64 a0.Addr), .d (.int .i64 a0.Len), .d (.int .i64 a0.Own), .d (.int .i64 a0.Low), .d (.int .i64 a0.High), .d (slD NatDoor.enc a0.Doors), .d (.int .i64 a0.Now), .d (slD NatEntry.enc a0.Entries)], .d (.int .i64 a1)] (.d (.bool r)) [] := by
  refine pureC_x tOk (fn := Try.f7) (c := codeOf Try.f7) rfl rfl ?_
  unfold spec_NatInside_m at h
  conv => whnf
  obtain ⟨x1, hx1, h⟩ := bd_some h
  refine cC 0 (spec_NatBookOk_c hx1) ?_
  clear hx1
  conv => whnf
  obtain ⟨x2, hx2, h⟩ := bd_some h
  refine cG (fun c0 => spec_l22Inside_c (gcall_some hx2 c0)) ?_
  conv => whnf
  obtain rfl := Option.some.inj h
  exact lfP []

noncomputable def hitV (f0 f3 f4 q : Int) (e : NatEntry) : Bool := e.Kind == f0 && e.Peer == f3 && e.PeerPort == f4 && e.Outer == q
noncomputable def freeV (tk : Int → Bool) (lo hi : Int) : Int := ((firstR (fun i => !tk (lo + (i : Int))) (hi - lo + 1).toNat).map fun i => lo + (i : Int)).getD 0
noncomputable def impl_NatBook_freePort_m (a0 : NatBook) (a1 : NatFlow) : Option (Int) :=
 gd (a0.Entries.length ≤ 1152921504606846976 ∧ -4611686018427387904 ≤ a0.Low ∧ a0.High ≤ 4611686018427387904 ∧ ∀ e ∈ a0.Entries, -9223372036854775808 ≤ e.Outer ∧ e.Outer ≤ 9223372036854775807) <|
 some (freeV (fun q => a0.Entries.any (hitV a1.Kind a1.To a1.ToPort q)) a0.Low a0.High)

namespace Fp
open Go.RowKit Go.Maps
theorem cell_new (w : World) (cs : Array Value) (t : TypeId) (i : Nat) (v : Value) (h : cs[i]? = some v) : (w.alloc (.cells cs t)).cell? ⟨w.heap.size, i, none⟩ = some v := by
  have := (MapKept.heap_alloc w (.cells cs t)).1
  unfold World.cell?
  dsimp only
  rw [this]
  exact h
theorem cell_old {w : World} {o : Obj} {b i : Nat} {v : Value} (h : b < w.heap.size) (k : w.cell? ⟨b, i, none⟩ = some v) : (w.alloc o).cell? ⟨b, i, none⟩ = some v := (World.cell?_of_block (Below.heap_alloc w o b h)).trans k
theorem keyed3 : Keyed Try.prog 3 := int_keyed Try.underlying3
theorem freeV_at {tk : Int → Bool} {lo hi : Int} {p : Nat} (h : lo + p ≤ hi) (hq : ∀ q : Nat, q < p → tk (lo + q) = true) (hp : tk (lo + p) = false) : freeV tk lo hi = lo + p := by
  unfold freeV
  cases e : firstR (fun i => !tk (lo + (i : Int))) (hi - lo + 1).toNat with
  | none =>
    have := firstR_none e p (by omega)
    simp [hp] at this
  | some i =>
    obtain ⟨h1, h2, h3⟩ := firstR_some e
    rcases Nat.lt_trichotomy i p with c | c | c
    · have := hq i c
      simp [this] at h2
    · subst c; rfl
    · have := h3 p c
      simp [hp] at this
theorem freeV_no {tk : Int → Bool} {lo hi : Int} {p : Nat} (h : hi < lo + p) (hq : ∀ q : Nat, q < p → tk (lo + q) = true) : freeV tk lo hi = 0 := by
  unfold freeV
  cases e : firstR (fun i => !tk (lo + (i : Int))) (hi - lo + 1).toNat with
  | none => rfl
  | some i =>
    obtain ⟨h1, h2, h3⟩ := firstR_some e
    have := hq i (by omega)
    simp [this] at h2
structure CellsV (w : World) (b o : Nat) (e : NatEntry) : Prop where
  c0 : w.cell? ⟨b, o, none⟩ = some (.int .i64 e.Kind)
  c1 : w.cell? ⟨b, o + 1, none⟩ = some (.int .i64 e.Peer)
  c2 : w.cell? ⟨b, o + 2, none⟩ = some (.int .i64 e.PeerPort)
  c3 : w.cell? ⟨b, o + 3, none⟩ = some (.int .i64 e.Outer)
  c4 : w.cell? ⟨b, o + 4, none⟩ = some (.int .i64 e.Inner)
  c5 : w.cell? ⟨b, o + 5, none⟩ = some (.int .i64 e.InnerPort)
  c6 : w.cell? ⟨b, o + 6, none⟩ = some (.int .i64 e.Last)
theorem any_step {p : NatEntry → Bool} {xs : List NatEntry} {k : Nat} (h : k < xs.length) : (xs.take (k + 1)).any p = ((xs.take k).any p || p xs[k]) := by
  rw [List.take_add_one, List.getElem?_eq_getElem h, List.any_append]
  simp
theorem wpList_lookup_own_b {H : Type} {P : Program} (w : World) {ops : Array Oper} {rest : List Oper} {o : Oper} {a : Act} {Q : Exit → Act → World → Prop}
    (hg : o.guard = none) (m x : Operand) (t : TypeId) (hop : o.op = Op.lookup t m x false)
    (k e : TypeId) (K : Keyed P k) (ht : P.underlying t = some (.map k e)) (he : P.underlying e = some .bool) (hz : (zeroValue e).run P w = .ok (.bool false) w) (b n : Nat) (D : DataW H)
    (hm : a.eval m = .map (some b)) (hown : w.ownsMap P k (plainElem P e) b n D) (key : Value) (kl : Lit) (hx : a.eval x = key) (hkey : keyOf P k key = some kl) (c : Bool)
    (hat : D.atKey kl (.lit (.bool false)) = .lit (.bool c)) (hK : wpList P ops Q rest (a.put o.dst (.bool c)) w) :
    wpList P ops Q (o :: rest) a w := by
  refine wpList_plain hg fun K' hK' => ?_
  obtain ⟨v, ps, hrun, hv⟩ := hown.lookup K ht hz (plainElem_bool he false) hkey
  rw [hat] at hv
  have hvc : v = .bool c := by
    unfold plainElem at hv
    rw [he] at hv
    cases v <;> simp at hv
    rw [hv.1]
  subst hvc
  unfold Oper.wp
  simp [execOp, hop, hm, hx, hrun, Result.andThen]
  exact hK' _ _ hK
theorem zero4 (w : World) : (zeroValue 4).run Try.prog w = .ok (.bool false) w := by kernel_rfl
theorem wf64 {q : Int} (h : -9223372036854775808 ≤ q ∧ q ≤ 9223372036854775807) : (Lit.int .i64 q).wf = true := by
  have h1 : IntKind.min .i64 = -9223372036854775808 := by decide
  have h2 : IntKind.max .i64 = 9223372036854775807 := by decide
  simp [Lit.wf, h1, h2, h]
theorem walk {H : Type} (v0 v1 v2 v5 v6 : Value) (lo hi : Int) (f0 f1 f2 f3 f4 : Int) (b off cap : Nat) (xs : List NatEntry) (w : World) (hb : b < w.heap.size) (hlen : xs.length ≤ 1152921504606846976) (hlo : -4611686018427387904 ≤ lo) (hhi : hi ≤ 4611686018427387904)
   (hload : ∀ j, j < xs.length → CellsV w b (off + j * 7) (xs.getD j default)) (hwf : ∀ j, j < xs.length → (Lit.int .i64 (xs.getD j default).Outer).wf = true) :
    Calls Try.prog 63 #[.agg #[v0, v1, v2, .int .i64 lo, .int .i64 hi, v5, v6, .slice (some ⟨b, off, none⟩) xs.length cap], .agg #[.int .i64 f0, .int .i64 f1, .int .i64 f2, .int .i64 f3, .int .i64 f4]] w fun e w' => e = .returned (.int .i64 (freeV (fun q => xs.any (hitV f0 f3 f4 q)) lo hi)) ∧ Below w.heap.size w w' := by
  have hmm := @run_makeMap Try.prog
  go_enter Try.func63, Try.ntmps63
  go_wp2
  go_loopw [13] (fun i wr => ∃ (k : Nat) (D : DataW H), k ≤ xs.length ∧ i = .int .i64 k ∧ wr.ownsMap Try.prog 3 (plainElem Try.prog 4) (w.heap.size + 2) k D ∧ IsMap D ∧ (∀ q, (Lit.int .i64 q).wf = true → D.atKey (.int .i64 q) (.lit (.bool false)) = .lit (.bool ((xs.take k).any (hitV f0 f3 f4 q)))) ∧
      Below (w.heap.size + 2) ((w.alloc (Obj.cells #[v0, v1, v2, .int .i64 lo, .int .i64 hi, v5, v6, .slice (some ⟨b, off, none⟩) xs.length cap] 26)).alloc (Obj.cells #[.int .i64 f0, .int .i64 f1, .int .i64 f2, .int .i64 f3, .int .i64 f4] 31)) wr)
    (fun i _ => xs.length - (intOf i).toNat)
  case atStart =>
    refine ⟨0, .map [], Nat.zero_le _, rfl, ?_, ⟨[], rfl⟩, fun q hq => rfl, ?_⟩
    · have := World.ownsMap_made (H := H) ((w.alloc (Obj.cells #[v0, v1, v2, .int .i64 lo, .int .i64 hi, v5, v6, .slice (some ⟨b, off, none⟩) xs.length cap] 26)).alloc (Obj.cells #[.int .i64 f0, .int .i64 f1, .int .i64 f2, .int .i64 f3, .int .i64 f4] 31)) Try.prog 3 (plainElem Try.prog 4)
      simpa using this
    · exact (Below.refl _ _).alloc (by simp) _
  case round =>
    obtain ⟨k, D, hk, rfl, hown, hD, hat, hB⟩ := hrel
    have hc : k < xs.length → CellsV wr b (off + k * 7) (xs.getD k default) := fun hlt => by
      obtain ⟨h0, h1, h2, h3, h4, h5, h6⟩ := hload k hlt
      have tr : ∀ o, wr.cell? ⟨b, o, none⟩ = w.cell? ⟨b, o, none⟩ := fun o => World.cell?_of_block (w := w) ((hB.block b (by omega)).trans (by rw [Below.heap_alloc _ _ _ (by simp; omega), Below.heap_alloc _ _ _ hb]))
      exact ⟨by rw [tr, h0], by rw [tr, h1], by rw [tr, h2], by rw [tr, h3], by rw [tr, h4], by rw [tr, h5], by rw [tr, h6]⟩
    have c0 := fun h => (hc h).c0
    have c1 := fun h => (hc h).c1
    have c2 := fun h => (hc h).c2
    have c3 := fun h => (hc h).c3
    have c4 := fun h => (hc h).c4
    have c5 := fun h => (hc h).c5
    have c6 := fun h => (hc h).c6
    clear hc
    have bk : ∀ b' o', b' < w.heap.size + 2 → wr.cell? ⟨b', o', none⟩ = ((w.alloc (Obj.cells #[v0, v1, v2, .int .i64 lo, .int .i64 hi, v5, v6, .slice (some ⟨b, off, none⟩) xs.length cap] 26)).alloc (Obj.cells #[.int .i64 f0, .int .i64 f1, .int .i64 f2, .int .i64 f3, .int .i64 f4] 31)).cell? ⟨b', o', none⟩ := fun b' o' h => World.cell?_of_block (hB.block b' h)
    have sz : w.heap.size + 2 ≤ wr.heap.size := by have := hB.size; simpa using this
    have al : ∀ o b' o', b' < w.heap.size + 2 → (wr.alloc o).cell? ⟨b', o', none⟩ = ((w.alloc (Obj.cells #[v0, v1, v2, .int .i64 lo, .int .i64 hi, v5, v6, .slice (some ⟨b, off, none⟩) xs.length cap] 26)).alloc (Obj.cells #[.int .i64 f0, .int .i64 f1, .int .i64 f2, .int .i64 f3, .int .i64 f4] 31)).cell? ⟨b', o', none⟩ := fun o b' o' h => (World.cell?_of_block (Below.heap_alloc _ _ _ (by show b' < _; omega))).trans (bk b' o' h)
    have hn1 : ∀ i v, (#[Value.int .i64 f0, .int .i64 f1, .int .i64 f2, .int .i64 f3, .int .i64 f4])[i]? = some v → ((w.alloc (Obj.cells #[v0, v1, v2, .int .i64 lo, .int .i64 hi, v5, v6, .slice (some ⟨b, off, none⟩) xs.length cap] 26)).alloc (Obj.cells #[.int .i64 f0, .int .i64 f1, .int .i64 f2, .int .i64 f3, .int .i64 f4] 31)).cell? ⟨w.heap.size + 1, i, none⟩ = some v := fun i v h => by
      have := cell_new (w.alloc (Obj.cells #[v0, v1, v2, .int .i64 lo, .int .i64 hi, v5, v6, .slice (some ⟨b, off, none⟩) xs.length cap] 26)) _ 31 i v h
      have e : (w.alloc (Obj.cells #[v0, v1, v2, .int .i64 lo, .int .i64 hi, v5, v6, .slice (some ⟨b, off, none⟩) xs.length cap] 26)).heap.size = w.heap.size + 1 := by simp
      rwa [e] at this
    have g0 : ∀ o, (wr.alloc o).cell? ⟨w.heap.size + 1, 0, none⟩ = some (.int .i64 f0) := fun o => by rw [al _ _ _ (by omega)]; exact hn1 _ _ rfl
    have g3 : ∀ o, (wr.alloc o).cell? ⟨w.heap.size + 1, 3, none⟩ = some (.int .i64 f3) := fun o => by rw [al _ _ _ (by omega)]; exact hn1 _ _ rfl
    have g4 : ∀ o, (wr.alloc o).cell? ⟨w.heap.size + 1, 4, none⟩ = some (.int .i64 f4) := fun o => by rw [al _ _ _ (by omega)]; exact hn1 _ _ rfl
    have b3 : wr.cell? ⟨w.heap.size, 3, none⟩ = some (.int .i64 lo) := by rw [bk _ _ (by omega)]; exact cell_old (by simp) (cell_new _ _ _ _ _ rfl)
    have b4 : wr.cell? ⟨w.heap.size, 4, none⟩ = some (.int .i64 hi) := by rw [bk _ _ (by omega)]; exact cell_old (by simp) (cell_new _ _ _ _ _ rfl)
    clear bk al hn1
    have hw : k < xs.length → (Lit.int .i64 (xs.getD k default).Outer).wf = true := fun h => hwf k h
    go_wp2_with (first
      | (at_mapUpdate; have hlt : k < xs.length := by assumption
         have hk3 : (Lit.int .i64 xs[k].Outer).wf = true := by have := hw hlt; simpa [List.getD_eq_getElem?_getD, hlt] using this
         refine wpList_mapUpdate_own _ rfl _ _ _ 105 rfl 3 4 keyed3 Try.underlying105 (plainElem Try.prog 4) (w.heap.size + 2) k D rfl (hown.alloc _) (by unfold maxLen; omega) _ _ _ rfl rfl (keyOf_int_mk Try.underlying3 hk3) _ [] (plainElem_bool Try.underlying4 true) ?_; intro w1 hown1 hgrow1)
      | (at_mapUpdate; refine wpList_mapUpdate_own _ rfl _ _ _ 105 rfl 3 4 keyed3 Try.underlying105 (plainElem (H := H) Try.prog 4) (w.heap.size + 2) k D rfl ?h1 ?h2 _ _ _ rfl rfl ?h3 _ [] ?h4 ?_)
      | go_in)
    · have hlt : k < xs.length := by assumption
      have hyes : ∀ q, hitV f0 f3 f4 q xs[k] = (xs[k].Outer == q) := fun q => by simp only [hitV]; simp_all
      go_roundw
      case rel =>
        refine ⟨k + 1, D.put (.int .i64 xs[k].Outer) (.lit (.bool true)), by omega, by go_num, hown1, hD.put _ _, fun q hq => ?_, (hB.alloc sz _).grown hgrow1 (by simp; omega) (fun j hj => by cases hj; exact Nat.le_refl _)⟩
        rw [any_step hlt, hyes q]
        by_cases c : xs[k].Outer = q
        · subst c
          rw [atKey_put_same hD (show WideAt.IsKeyLit (.int .i64 xs[k].Outer) from trivial)]
          simp
        · rw [atKey_put_other (fun h => c (by injection h with _ h; exact h.symm)), hat q hq]
          simp [c]
      case measure => simp [intOf]; omega
    · have hlt : k < xs.length := by assumption
      have hno : ∀ q, hitV f0 f3 f4 q xs[k] = false := fun q => by simp only [hitV]; simp_all
      go_roundw
      case rel =>
        refine ⟨k + 1, D, by omega, by go_num, (hown.alloc _).mono (by omega), hD, fun q hq => ?_, hB.alloc sz _⟩
        rw [hat q hq, any_step hlt, hno q, Bool.or_false]
      case measure => simp [intOf]; omega
    · have hlt : k < xs.length := by assumption
      have hno : ∀ q, hitV f0 f3 f4 q xs[k] = false := fun q => by simp only [hitV]; simp_all
      go_roundw
      case rel =>
        refine ⟨k + 1, D, by omega, by go_num, (hown.alloc _).mono (by omega), hD, fun q hq => ?_, hB.alloc sz _⟩
        rw [hat q hq, any_step hlt, hno q, Bool.or_false]
      case measure => simp [intOf]; omega
    · have hlt : k < xs.length := by assumption
      have hno : ∀ q, hitV f0 f3 f4 q xs[k] = false := fun q => by simp only [hitV]; simp_all
      go_roundw
      case rel =>
        refine ⟨k + 1, D, by omega, by go_num, (hown.alloc _).mono (by omega), hD, fun q hq => ?_, hB.alloc sz _⟩
        rw [hat q hq, any_step hlt, hno q, Bool.or_false]
      case measure => simp [intOf]; omega
    · have : k = xs.length := by omega
      subst this
      clear c0 c1 c2 c3 c4 c5 c6 g0 g3 g4 hw
      have hW : Below w.heap.size w wr := (((Below.refl _ w).alloc (Nat.le_refl _) _).alloc (by simp) _).trans (hB.mono (by omega))
      rw [List.take_length] at hat
      go_loop [8] (fun i => ∃ p : Nat, i = .int .i64 (lo + p) ∧ (p = 0 ∨ lo + p ≤ hi + 1) ∧ ∀ q : Nat, q < p → xs.any (hitV f0 f3 f4 (lo + q)) = true) (fun i => (hi + 1 - intOf i).toNat)
      case atStart => exact ⟨0, by simp, .inl rfl, fun q hq => by omega⟩
      case round =>
        obtain ⟨p, rfl, hp, hq⟩ := hrel
        go_wp2_with (first
          | (at_lookup; have hlt : lo + p ≤ hi := by assumption
             refine wpList_lookup_own_b _ rfl _ _ 105 rfl 3 4 keyed3 Try.underlying105 Try.underlying4 (zero4 _) (w.heap.size + 2) _ D rfl hown _ _ rfl (keyOf_int_mk Try.underlying3 (wf64 (by omega))) _ (hat _ (wf64 (by omega))) ?_)
          | go_in)
        · go_ret
          have hno : xs.any (hitV f0 f3 f4 (lo + p)) = false := by simp_all
          exact ⟨by rw [freeV_at (by assumption) hq hno]; rfl, hW⟩
        · go_round
          case rel =>
            refine ⟨p + 1, by go_num, .inr (by omega), fun q hq' => ?_⟩
            rcases Nat.lt_or_ge q p with c | c
            · have := hq q c
              simpa using this
            · have : q = p := by omega
              subst this
              simp_all
          case measure => simp [intOf]; omega
        · go_ret
          exact ⟨by rw [freeV_no (by assumption) hq]; rfl, hW⟩
theorem walk0 (v0 v1 v2 v5 v6 : Value) (lo hi : Int) (f0 f1 f2 f3 f4 : Int) (ad : Option Addr) (cap : Nat) (w : World) (hlo : -4611686018427387904 ≤ lo) (hhi : hi ≤ 4611686018427387904) :
    Calls Try.prog 63 #[.agg #[v0, v1, v2, .int .i64 lo, .int .i64 hi, v5, v6, .slice ad 0 cap], .agg #[.int .i64 f0, .int .i64 f1, .int .i64 f2, .int .i64 f3, .int .i64 f4]] w fun e w' => e = .returned (.int .i64 (freeV (fun _ => false) lo hi)) ∧ Below w.heap.size w w' := by
  have hmm := @run_makeMap Try.prog
  go_enter Try.func63, Try.ntmps63
  go_wp2
  refine wp_loop_rounds 1 ?_
  rw [rounds_succ]
  have sz2 : ((w.alloc (Obj.cells #[v0, v1, v2, .int .i64 lo, .int .i64 hi, v5, v6, .slice ad 0 cap] 26)).alloc (Obj.cells #[.int .i64 f0, .int .i64 f1, .int .i64 f2, .int .i64 f3, .int .i64 f4] 31)).heap.size = w.heap.size + 1 + 1 := by simp
  have hown := World.ownsMap_made (H := Unit) ((w.alloc (Obj.cells #[v0, v1, v2, .int .i64 lo, .int .i64 hi, v5, v6, .slice ad 0 cap] 26)).alloc (Obj.cells #[.int .i64 f0, .int .i64 f1, .int .i64 f2, .int .i64 f3, .int .i64 f4] 31)) Try.prog 3 (plainElem Try.prog 4)
  rw [sz2] at hown
  have b3 : (((w.alloc (Obj.cells #[v0, v1, v2, .int .i64 lo, .int .i64 hi, v5, v6, .slice ad 0 cap] 26)).alloc (Obj.cells #[.int .i64 f0, .int .i64 f1, .int .i64 f2, .int .i64 f3, .int .i64 f4] 31)).alloc (.map #[] 0)).cell? ⟨w.heap.size, 3, none⟩ = some (.int .i64 lo) := cell_old (by simp; omega) (cell_old (by simp) (cell_new _ _ _ _ _ rfl))
  have b4 : (((w.alloc (Obj.cells #[v0, v1, v2, .int .i64 lo, .int .i64 hi, v5, v6, .slice ad 0 cap] 26)).alloc (Obj.cells #[.int .i64 f0, .int .i64 f1, .int .i64 f2, .int .i64 f3, .int .i64 f4] 31)).alloc (.map #[] 0)).cell? ⟨w.heap.size, 4, none⟩ = some (.int .i64 hi) := cell_old (by simp; omega) (cell_old (by simp) (cell_new _ _ _ _ _ rfl))
  have hW : Below w.heap.size w (((w.alloc (Obj.cells #[v0, v1, v2, .int .i64 lo, .int .i64 hi, v5, v6, .slice ad 0 cap] 26)).alloc (Obj.cells #[.int .i64 f0, .int .i64 f1, .int .i64 f2, .int .i64 f3, .int .i64 f4] 31)).alloc (.map #[] 0)) := (((Below.refl _ w).alloc (Nat.le_refl _) _).alloc (by simp) _).alloc (by simp; omega) _
  have hat : ∀ q, (Lit.int .i64 q).wf = true → (DataW.map [] : DataW Unit).atKey (.int .i64 q) (.lit (.bool false)) = .lit (.bool false) := fun q _ => rfl
  generalize ((w.alloc (Obj.cells #[v0, v1, v2, .int .i64 lo, .int .i64 hi, v5, v6, .slice ad 0 cap] 26)).alloc (Obj.cells #[.int .i64 f0, .int .i64 f1, .int .i64 f2, .int .i64 f3, .int .i64 f4] 31)).alloc (.map #[] 0) = w3 at hown b3 b4 hW ⊢
  go_wp2
  go_loop [8] (fun i => ∃ p : Nat, i = .int .i64 (lo + p) ∧ p = 0) (fun i => (hi + 1 - intOf i).toNat)
  case atStart => exact ⟨0, by simp, rfl⟩
  case round =>
    obtain ⟨p, rfl, rfl⟩ := hrel
    go_wp2_with (first
      | (at_lookup; have hlt : lo + ((0 : Nat) : Int) ≤ hi := by first | assumption | (simp; assumption)
         refine wpList_lookup_own_b _ rfl _ _ 105 rfl 3 4 keyed3 Try.underlying105 Try.underlying4 (zero4 _) (w.heap.size + 1 + 1) _ (.map []) rfl hown _ _ rfl (keyOf_int_mk Try.underlying3 (wf64 (by omega))) _ (hat _ (wf64 (by omega))) ?_)
      | go_in)
    · go_ret
      exact ⟨by rw [freeV_at (p := 0) (by simpa using ‹_›) (fun q hq => by omega) rfl]; simp, hW⟩
    · go_ret
      exact ⟨by rw [freeV_no (p := 0) (by simpa using ‹_›) (fun q hq => by omega)]; rfl, hW⟩

theorem vals_two {w : World} {ow : Nat → Prop} {ρ : Env} {u1 u2 : V} {vals : Array Value} (h : ArgsR w ow ρ [u1, u2] vals) : ∃ v1 v2, vals = #[v1, v2] ∧ VR w ow ρ u1 v1 ∧ VR w ow ρ u2 v2 := by
  obtain ⟨h1, h2⟩ := h
  obtain ⟨l⟩ := vals
  match l, h1 with
  | [a, b], _ => exact ⟨a, b, rfl, h2 0 u1 rfl, h2 1 u2 rfl⟩
theorem agg_inv {w : World} {ow : Nat → Prop} {ρ : Env} {vs : List V} {v : Value} (h : VR w ow ρ (.agg vs) v) : ∃ l : List Value, v = .agg l.toArray ∧ l.length = vs.length ∧ ∀ j u, vs[j]? = some u → VR w ow ρ u (l.getD j undef) := by
  cases h with
  | agg hs h1 h2 =>
    rename_i cs
    obtain ⟨l⟩ := cs
    exact ⟨l, rfl, hs, fun j u hj => by simpa [Array.getD_eq_getD_getElem?, List.getD_eq_getElem?_getD] using h2 j u hj⟩
theorem int_inv {w : World} {ow : Nat → Prop} {ρ : Env} {n : Int} {v : Value} (h : VR w ow ρ (.d (.int .i64 n)) v) : v = .int .i64 n := by
  cases h with | d h => cases h; rfl
end Fp
open Fp
theorem impl_NatBook_freePort_c {a0 : NatBook} {a1 : NatFlow} {r : Int} (h : impl_NatBook_freePort_m a0 a1 = some r) : PureC Try.prog 63 [.agg [.d (.int .i64 a0.Addr), .d (.int .i64 a0.Len), .d (.int .i64 a0.Own), .d (.int .i64 a0.Low), .d (.int .i64 a0.High), .d (slD NatDoor.enc a0.Doors), .d (.int .i64 a0.Now), .d (slD NatEntry.enc a0.Entries)], .agg [.d (.int .i64 a1.Kind), .d (.int .i64 a1.From), .d (.int .i64 a1.FromPort), .d (.int .i64 a1.To), .d (.int .i64 a1.ToPort)]] (.d (.int .i64 r)) [] := by
  unfold impl_NatBook_freePort_m at h
  obtain ⟨⟨g1, g2, g3, g4⟩, h⟩ := gd_some h
  obtain rfl := Option.some.inj h
  refine ⟨⟨Try.f63, rfl, by kernel_rfl, by kernel_rfl⟩, rfl, by simp, .nil, fun id hid => by simp [V.mentions] at hid, fun w vals ρ0 hv => ?_⟩
  obtain ⟨v1, v2, rfl, h1, h2⟩ := vals_two hv
  obtain ⟨l1, rfl, n1, k1⟩ := agg_inv h1
  obtain ⟨l2, rfl, n2, k2⟩ := agg_inv h2
  match l1, n1, k1 with
  | [p0, p1, p2, p3, p4, p5, p6, p7], _, k1 =>
  match l2, n2, k2 with
  | [q0, q1, q2, q3, q4], _, k2 =>
  have e3 := int_inv (k1 3 _ rfl)
  have e4 := int_inv (k1 4 _ rfl)
  have e7 := k1 7 _ rfl
  have f0 := int_inv (k2 0 _ rfl)
  have f1 := int_inv (k2 1 _ rfl)
  have f2 := int_inv (k2 2 _ rfl)
  have f3 := int_inv (k2 3 _ rfl)
  have f4 := int_inv (k2 4 _ rfl)
  simp only [List.getD_cons_succ, List.getD_cons_zero] at e3 e4 e7 f0 f1 f2 f3 f4
  subst e3 e4 f0 f1 f2 f3 f4
  have fin : ∀ {e : Ending} {w' : World} {m : Int}, (e = .returned (.int .i64 m) ∧ RowKit.Below w.heap.size w w') → ∃ v ρ, e = .returned v ∧ Pure w w' ∧ VR w' (fun b => b < w.heap.size) ρ (.d (.int .i64 m)) v ∧
    (∀ b ∈ ([] : List Nb), BR w' (fun b => b < w.heap.size) ρ b.id (.arr b.t b.sz b.n b.row)) ∧ (∀ x ∈ ([] : List Nb), ∀ y ∈ ([] : List Nb), (ρ x.id).ph = false → (ρ y.id).ph = false → (ρ x.id).b = (ρ y.id).b → x.id = y.id) ∧ (∀ x ∈ ([] : List Nb), (ρ x.id).ph = false → w.heap.size ≤ (ρ x.id).b) := fun {e w' m} ⟨he, hb⟩ =>
    ⟨_, ρ0, he, ⟨hb.os, hb.tape, hb.output, hb.size, hb.block⟩, .d .int, by simp, by simp, by simp⟩
  cases e7 with
  | d e7 =>
    cases e7 with
    | sl0 hn =>
      refine Calls.mono (walk0 _ _ _ _ _ _ _ _ _ _ _ _ _ _ w g2 g3) fun e w' hw => ?_
      have : a0.Entries = [] := List.eq_nil_of_length_eq_zero hn
      rw [this]
      exact fin hw
    | sl vals ho hb hl hc hvv hcap =>
      refine Calls.mono (walk (H := Unit) _ _ _ _ _ _ _ _ _ _ _ _ _ _ _ a0.Entries w hb g1 g2 g3 (fun j hj => ?_) fun j hj => wf64 (g4 _ ?_)) fun e w' hw => fin hw
      · have hsz := hl j hj
        have cc : ∀ i d, (rows NatEntry.enc a0.Entries j)[i]? = some d → ∀ n, d = .int .i64 n → w.cell? ⟨_, _ + j * 7 + i, none⟩ = some (.int .i64 n) := fun i d hd n hn => by
          have h1 := hc j i d hj hd
          have h2 := hvv j i d hj hd
          rw [hn] at h2
          have h3 := int_inv (ρ := ρ0) (.d h2)
          rw [h3, ← hsz] at h1
          exact h1
        exact ⟨cc 0 _ rfl _ rfl, cc 1 _ rfl _ rfl, cc 2 _ rfl _ rfl, cc 3 _ rfl _ rfl, cc 4 _ rfl _ rfl, cc 5 _ rfl _ rfl, cc 6 _ rfl _ rfl⟩
      · rw [List.getD_eq_getElem?_getD, List.getElem?_eq_getElem hj]; exact List.getElem_mem hj

noncomputable def slices_BinarySearchFunc_NatEntry_NatEntry_NatEntry_impl_NatEntry_compare_m (a0 : (List NatEntry)) (a1 : NatEntry) : Option (Int × Bool) :=
 bd (lp (σ := Int × Int) (β := (Int)) (fun s1 =>
(if (decide (s1.2 < s1.1)) = true then
 gd ((0 : Int) ≤ 1) <|
 gd ((0 : Int) ≤ IntKind.i64.wrap ((IntKind.u64.wrap (IntKind.i64.wrap (s1.2 + s1.1)) : Int).fdiv (2 ^ min (1 : Int).toNat IntKind.u64.bits)) ∧ IntKind.i64.wrap ((IntKind.u64.wrap (IntKind.i64.wrap (s1.2 + s1.1)) : Int).fdiv (2 ^ min (1 : Int).toNat IntKind.u64.bits)) < ((a0.length : Nat) : Int)) <|
 bd (impl_NatEntry_compare_m (a0.getD ((IntKind.i64.wrap ((IntKind.u64.wrap (IntKind.i64.wrap (s1.2 + s1.1)) : Int).fdiv (2 ^ min (1 : Int).toNat IntKind.u64.bits))).toNat) default) a1) fun x7 =>
(if (decide (x7 < 0)) = true then
 some (.inl (s1.1, IntKind.i64.wrap ((IntKind.i64.wrap ((IntKind.u64.wrap (IntKind.i64.wrap (s1.2 + s1.1)) : Int).fdiv (2 ^ min (1 : Int).toNat IntKind.u64.bits))) + 1)))
else
 some (.inl (IntKind.i64.wrap ((IntKind.u64.wrap (IntKind.i64.wrap (s1.2 + s1.1)) : Int).fdiv (2 ^ min (1 : Int).toNat IntKind.u64.bits)), s1.2)))
else
 some (.inr s1.2))) (((a0.length : Nat) : Int), 0)) fun x4 =>
 gd ((decide (x4 < ((a0.length : Nat) : Int))) = true → ((0 : Int) ≤ x4 ∧ x4 < ((a0.length : Nat) : Int))) <|
 bd (gcall ((decide (x4 < ((a0.length : Nat) : Int))) = true) (impl_NatEntry_compare_m (a0.getD x4.toNat default) a1)) fun x10 =>
 some (x4, ((decide (x4 < ((a0.length : Nat) : Int))) && (x10 == 0)))

theorem slices_BinarySearchFunc_NatEntry_NatEntry_NatEntry_impl_NatEntry_compare_c {a0 : (List NatEntry)} {a1 : NatEntry} {r : Int × Bool} (h : slices_BinarySearchFunc_NatEntry_NatEntry_NatEntry_impl_NatEntry_compare_m a0 a1 = some r) : PureC Try.prog 64 [.d (slD NatEntry.enc a0), .agg [.d (.int .i64 a1.Kind), .d (.int .i64 a1.Peer), .d (.int .i64 a1.PeerPort), .d (.int .i64 a1.Outer), .d (.int .i64 a1.Inner), .d (.int .i64 a1.InnerPort), .d (.int .i64 a1.Last)], .fn 65 []] (.tup [.d (.int .i64 r.1), .d (.bool r.2)]) [] := by
  refine pureC_x tOk (fn := Try.f64) (c := codeOf Try.f64) rfl rfl ?_
  unfold slices_BinarySearchFunc_NatEntry_NatEntry_NatEntry_impl_NatEntry_compare_m at h
  conv => whnf
  refine seq_in tOk ?_
  conv => whnf
  obtain ⟨x4, hx4, h⟩ := bd_some h
  refine loop_m tOk hx4 (fun s1 => ⟨0, 49, [(0, .d (slD NatEntry.enc a0)), (2, .fn 65 []), (4, .ref 4 0 0), (8, .d (.int .i64 ((a0.length : Nat) : Int))), (9, .d (.int .i64 s1.2)), (10, .d (.int .i64 s1.1))], [], [(4, .box 68 [.d (.int .i64 a1.Kind), .d (.int .i64 a1.Peer), .d (.int .i64 a1.PeerPort), .d (.int .i64 a1.Outer), .d (.int .i64 a1.Inner), .d (.int .i64 a1.InnerPort), .d (.int .i64 a1.Last)])], []⟩) ?_ ?_
  · exact leX []
  · clear hx4
    intro s1 y2 g3 hy2
    conv => whnf
    refine seq_in tOk ?_
    conv => whnf
    refine andI g3 (fun _ g3 => ?_) (fun _ g3 => ?_)
    · conv => whnf
      refine gdI g3 (fun g3 => ?_)
      conv => whnf
      obtain ⟨g6, g3⟩ := gd_some g3
      obtain ⟨x7, hx7, g3⟩ := bd_some g3
      refine draw_u tOk [.u 6 0 (.d (.int .i64 x7)) []] 8 [] [0, 0, 0, 6, 14, 0, 63, 127] [] ?_
      conv => whnf
      refine And.intro g6 ?_
      clear g6
      conv => whnf
      refine And.intro (callD_any (impl_NatEntry_compare_c hx7) (by kernel_rfl)) ?_
      conv => whnf
      refine And.intro (by kernel_rfl) ?_
      conv => whnf
      refine andI g3 (fun _ g3 => ?_) (fun _ g3 => ?_)
      · conv => whnf
        obtain rfl := Option.some.inj g3
        exact ⟨_, rfl, leX []⟩
      · conv => whnf
        obtain rfl := Option.some.inj g3
        exact ⟨_, rfl, leX []⟩
    · conv => whnf
      obtain rfl := Option.some.inj g3
      obtain rfl := hy2 _ rfl
      obtain ⟨g9, h⟩ := gd_some h
      obtain ⟨x10, hx10, h⟩ := bd_some h
      refine draw_u tOk [.u 11 0 (.d (.int .i64 x10)) []] 16 [] [0, 0, 0, 6, 14, 30, 30, 30, 222, 478, 30, 2046, 4094, 8190, 4095, 32767] [] ?_
      conv => whnf
      refine And.intro g9 ?_
      clear g9
      conv => whnf
      refine And.intro (callDG_if rfl rfl rfl rfl (by intro c0; exact impl_NatEntry_compare_c (gcall_some hx10 c0))) ?_
      conv => whnf
      refine And.intro (by kernel_rfl) ?_
      conv => whnf
      obtain rfl := Option.some.inj h
      exact lfP []

noncomputable def slices_Insert_NatEntry_NatEntry_m (a0 : (List NatEntry)) (a1 : Int) (a2 : (List NatEntry)) : Option ((List NatEntry)) :=
 gd ((0 ≤ a1 ∧ a1 ≤ a0.length) ∧ 0 < a2.length ∧ (a0.length + a2.length) * (56 + 1) ≤ 70368744177664) <|
 some (insL a0 a1.toNat a2)

theorem slices_Insert_NatEntry_NatEntry_c {a0 : (List NatEntry)} {a1 : Int} {a2 : (List NatEntry)} {r : (List NatEntry)} (h : slices_Insert_NatEntry_NatEntry_m a0 a1 a2 = some r) : EffC Try.prog 66 [.osl 9000 0 a0.length, .d (.int .i64 a1), .osl 9001 0 a2.length] [(9000, .arr 68 7 a0.length (rows NatEntry.enc a0)), (9001, .arr 68 7 a2.length (rows NatEntry.enc a2))] (.osl 5001 0 r.length) [(5001, .arr 68 7 r.length (rows NatEntry.enc r))] := by
  unfold slices_Insert_NatEntry_NatEntry_m at h
  have L : LIns Try.prog ⟨fun x => match x with | 22 => 66 | 29 => 82 | 30 => 83 | _ => 0, fun x => match x with | 0 => 0 | 3 => 3 | 4 => 4 | 9 => 68 | 24 => 24 | _ => 0, fun x => x⟩ 7 56 (.agg #[.int .i64 0, .int .i64 0, .int .i64 0, .int .i64 0, .int .i64 0, .int .i64 0, .int .i64 0]) := ⟨by kernel_rfl, ⟨Try.f66.name, by kernel_rfl, by kernel_rfl⟩, ⟨Try.f82, by kernel_rfl, by kernel_rfl, by kernel_rfl, by kernel_rfl, by kernel_rfl⟩, by kernel_rfl, fun w => by kernel_rfl, fun w => by kernel_rfl, fun w => by kernel_rfl, by kernel_rfl, fun w => by kernel_rfl, fun w => by kernel_rfl, fun w => by kernel_rfl, by kernel_rfl, fun w => by kernel_rfl, fun w => by kernel_rfl, fun w => by kernel_rfl, by kernel_rfl, fun w => by kernel_rfl, fun w => by kernel_rfl, fun w => by kernel_rfl, ⟨_, rfl, rfl, rfl, rfl⟩, fun w => by kernel_rfl, by kernel_rfl, fun u hu => List.all_eq_true.1 (by kernel_rfl : (List.all (Value.cells (.agg #[.int .i64 0, .int .i64 0, .int .i64 0, .int .i64 0, .int .i64 0, .int .i64 0, .int .i64 0])).toList Value.oneCell') = true) u hu, by decide⟩
  obtain ⟨g, h⟩ := gd_some h
  obtain rfl := Option.some.inj h
  have k := effC_ins (t := 68) (enc := NatEntry.enc) L (canOf (fn := Try.f66) (c := codeOf Try.f66) rfl rfl (by kernel_rfl)) (fun _ => rfl) (xs := a0) (ys := a2) (i := a1.toNat) (by omega) g.2.1 g.2.2
  rw [show ((a1.toNat : Nat) : Int) = a1 by omega] at k
  exact k

noncomputable def impl_NatBook_outPort_m (a0 : NatBook) (a1 : NatFlow) : Option (Int × Int × NatBook) :=
 bd (lp (σ := Int) (β := (Int ⊕ Unit)) (fun s1 =>
(if (decide (s1 < ((a0.Doors.length : Nat) : Int))) = true then
 gd ((0 : Int) ≤ s1 ∧ s1 < ((a0.Doors.length : Nat) : Int)) <|
(if (((((a0.Doors.getD s1.toNat default).Kind) == a1.Kind) && (((a0.Doors.getD s1.toNat default).Inner) == a1.From)) && (((a0.Doors.getD s1.toNat default).InnerPort) == a1.FromPort)) = true then
 some (.inr (.inl ((a0.Doors.getD s1.toNat default).Outer)))
else
 some (.inl (IntKind.i64.wrap (s1 + 1))))
else
 some (.inr (.inr ())))) 0) fun x4 =>
(match x4 with
| .inl d6 =>
 some (d6, 0, a0)
| .inr d7 =>
 bd (lp (σ := Int) (β := ((Int × (List NatEntry)) ⊕ Unit)) (fun s8 =>
(if (decide (s8 < ((a0.Entries.length : Nat) : Int))) = true then
 gd ((0 : Int) ≤ s8 ∧ s8 < ((a0.Entries.length : Nat) : Int)) <|
 bd (impl_NatBook_lives_m a0 (a0.Entries.getD s8.toNat default)) fun x13 =>
 bd (gcall (x13 = true) (impl_NatEntry_flow_m (a0.Entries.getD s8.toNat default))) fun x14 =>
(if (x13 && ((x14.Kind == a1.Kind) && ((x14.From == a1.From) && ((x14.FromPort == a1.FromPort) && ((x14.To == a1.To) && ((x14.ToPort == a1.ToPort) && true)))))) = true then
 gd ((0 : Int) ≤ s8 ∧ s8 < ((a0.Entries.length : Nat) : Int)) <|
 some (.inr (.inl ((a0.Entries.getD s8.toNat default).Outer, a0.Entries.set s8.toNat ({ (a0.Entries.getD s8.toNat default) with Last := a0.Now }))))
else
 some (.inl (IntKind.i64.wrap (s8 + 1))))
else
 some (.inr (.inr ())))) 0) fun x11 =>
(match x11 with
| .inl d16 =>
 some (d16.1, 0, { a0 with Entries := d16.2 })
| .inr d17 =>
(if (((a0.Entries.length : Nat) : Int) == 16) = true then
 some (0, 4, a0)
else
 bd (impl_NatBook_freePort_m a0 a1) fun x18 =>
(if (x18 == 0) = true then
 some (0, 5, a0)
else
 bd (slices_BinarySearchFunc_NatEntry_NatEntry_NatEntry_impl_NatEntry_compare_m a0.Entries (⟨a1.Kind, a1.To, a1.ToPort, x18, a1.From, a1.FromPort, a0.Now⟩ : NatEntry)) fun x19 =>
 bd (slices_Insert_NatEntry_NatEntry_m a0.Entries x19.1 ([(⟨a1.Kind, a1.To, a1.ToPort, x18, a1.From, a1.FromPort, a0.Now⟩ : NatEntry)] : List NatEntry)) fun x20 =>
 some (x18, 0, { a0 with Entries := x20 })))))

theorem impl_NatBook_outPort_c {a0 : NatBook} {a1 : NatFlow} {r : Int × Int × NatBook} (h : impl_NatBook_outPort_m a0 a1 = some r) : EffC Try.prog 32 [.ref 9000 0 0, .agg [.d (.int .i64 a1.Kind), .d (.int .i64 a1.From), .d (.int .i64 a1.FromPort), .d (.int .i64 a1.To), .d (.int .i64 a1.ToPort)]] [(9000, .box 26 [.d (.int .i64 a0.Addr), .d (.int .i64 a0.Len), .d (.int .i64 a0.Own), .d (.int .i64 a0.Low), .d (.int .i64 a0.High), .d (slD NatDoor.enc a0.Doors), .d (.int .i64 a0.Now), .osl 9001 0 a0.Entries.length]), (9001, .arr 68 7 a0.Entries.length (rows NatEntry.enc a0.Entries))] (.tup [.d (.int .i64 r.1), .d (.int .i64 r.2.1)]) [(9000, .box 26 [.d (.int .i64 a0.Addr), .d (.int .i64 a0.Len), .d (.int .i64 a0.Own), .d (.int .i64 a0.Low), .d (.int .i64 a0.High), .d (slD NatDoor.enc a0.Doors), .d (.int .i64 a0.Now), .osl 5001 0 r.2.2.Entries.length]), (5001, .arr 68 7 r.2.2.Entries.length (rows NatEntry.enc r.2.2.Entries))] := by
  refine effC_x tOk (fn := Try.f32) (c := codeOf Try.f32) rfl rfl ?_
  unfold impl_NatBook_outPort_m at h
  conv => whnf
  refine seq_in tOk ?_
  conv => whnf
  obtain ⟨x4, hx4, h⟩ := bd_some h
  refine loop_m tOk hx4 (fun s1 => ⟨0, 130, [(0, .ref 9000 0 0), (3, .ref 3 0 0), (17, .d (slD NatDoor.enc a0.Doors)), (18, .d (.int .i64 ((a0.Doors.length : Nat) : Int))), (19, .d (.int .i64 s1))], [], [(3, .box 31 [.d (.int .i64 a1.Kind), .d (.int .i64 a1.From), .d (.int .i64 a1.FromPort), .d (.int .i64 a1.To), .d (.int .i64 a1.ToPort)]), (9000, .box 26 [.d (.int .i64 a0.Addr), .d (.int .i64 a0.Len), .d (.int .i64 a0.Own), .d (.int .i64 a0.Low), .d (.int .i64 a0.High), .d (slD NatDoor.enc a0.Doors), .d (.int .i64 a0.Now), .osl 9001 0 a0.Entries.length]), (9001, .arr 68 7 a0.Entries.length (rows NatEntry.enc a0.Entries))], [⟨[(0, .ref 9000 0 0)], []⟩]⟩) ?_ ?_
  · exact leX []
  · clear hx4
    intro s1 y2 g3 hy2
    conv => whnf
    refine seq_in tOk ?_
    conv => whnf
    refine andI g3 (fun _ g3 => ?_) (fun _ g3 => ?_)
    · conv => whnf
      refine seq_in tOk ?_
      conv => whnf
      refine gdI g3 (fun g3 => ?_)
      conv => whnf
      refine andI g3 (fun _ g3 => ?_) (fun _ g3 => ?_)
      · conv => whnf
        obtain rfl := Option.some.inj g3
        obtain rfl := hy2 _ rfl
        obtain rfl := Option.some.inj h
        exact lfE [.s [(5001, 9001), (9001, 5001)]]
      · conv => whnf
        obtain rfl := Option.some.inj g3
        exact ⟨_, rfl, leX []⟩
    · conv => whnf
      obtain rfl := Option.some.inj g3
      obtain rfl := hy2 _ rfl
      refine seq_in tOk ?_
      conv => whnf
      obtain ⟨x11, hx11, h⟩ := bd_some h
      refine loop_m tOk hx11 (fun s8 => ⟨0, 130, [(0, .ref 9000 0 0), (3, .ref 3 0 0), (48, .osl 9001 0 a0.Entries.length), (49, .d (.int .i64 ((a0.Entries.length : Nat) : Int))), (50, .d (.int .i64 s8))], [], [(3, .box 31 [.d (.int .i64 a1.Kind), .d (.int .i64 a1.From), .d (.int .i64 a1.FromPort), .d (.int .i64 a1.To), .d (.int .i64 a1.ToPort)]), (9000, .box 26 [.d (.int .i64 a0.Addr), .d (.int .i64 a0.Len), .d (.int .i64 a0.Own), .d (.int .i64 a0.Low), .d (.int .i64 a0.High), .d (slD NatDoor.enc a0.Doors), .d (.int .i64 a0.Now), .osl 9001 0 a0.Entries.length]), (9001, .arr 68 7 a0.Entries.length (rows NatEntry.enc a0.Entries))], [⟨[(0, .ref 9000 0 0)], []⟩]⟩) ?_ ?_
      · exact leX []
      · clear hx11
        intro s8 y9 g10 hy9
        conv => whnf
        refine seq_in tOk ?_
        conv => whnf
        refine andI g10 (fun _ g10 => ?_) (fun _ g10 => ?_)
        · conv => whnf
          refine seq_in tOk ?_
          conv => whnf
          refine gdI g10 (fun g10 => ?_)
          conv => whnf
          obtain ⟨x13, hx13, g10⟩ := bd_some g10
          obtain ⟨x14, hx14, g10⟩ := bd_some g10
          refine draw_u tOk [.u 4 0 (.d (.bool x13)) [], .u 7 0 (.agg [.d (.int .i64 x14.Kind), .d (.int .i64 x14.From), .d (.int .i64 x14.FromPort), .d (.int .i64 x14.To), .d (.int .i64 x14.ToPort)]) []] 11 [] [0, 1, 3, 0, 15, 31, 63, 127, 63, 511, 1023] [] ?_
          conv => whnf
          refine And.intro (callD_any (impl_NatBook_lives_c hx13) (by kernel_rfl)) ?_
          conv => whnf
          refine And.intro (callDG_if rfl rfl rfl rfl (by intro c0; exact impl_NatEntry_flow_c (gcall_some hx14 c0))) ?_
          conv => whnf
          refine And.intro (by kernel_rfl) ?_
          conv => whnf
          refine andI g10 (fun _ g10 => ?_) (fun _ g10 => ?_)
          · conv => whnf
            obtain ⟨g15, g10⟩ := gd_some g10
            refine draw_u tOk [] 11 [] [0, 1, 3, 7, 0, 0, 32, 96, 224, 511, 1023] [2047] ?_
            conv => whnf
            refine And.intro g15 ?_
            clear g15
            conv => whnf
            refine And.intro (by kernel_rfl) ?_
            conv => whnf
            refine ⟨rows NatEntry.enc (a0.Entries.set s8.toNat ({ (a0.Entries.getD s8.toNat default) with Last := a0.Now })), store_rows' lenA rfl, ?_⟩
            conv => whnf
            obtain rfl := Option.some.inj g10
            obtain rfl := hy9 _ rfl
            obtain rfl := Option.some.inj h
            exact lfE [.s [(5001, 9001), (9001, 5001)]]
          · conv => whnf
            obtain rfl := Option.some.inj g10
            exact ⟨_, rfl, leX []⟩
        · conv => whnf
          obtain rfl := Option.some.inj g10
          obtain rfl := hy9 _ rfl
          refine seq_in tOk ?_
          conv => whnf
          refine andI h (fun _ h => ?_) (fun _ h => ?_)
          · conv => whnf
            obtain rfl := Option.some.inj h
            exact lfE [.s [(5001, 9001), (9001, 5001)]]
          · conv => whnf
            obtain ⟨x18, hx18, h⟩ := bd_some h
            refine draw_u tOk [.u 4 0 (.d (.int .i64 x18)) []] 6 [] [0, 1, 3, 0, 15, 31] [] ?_
            conv => whnf
            refine And.intro (callD_any (impl_NatBook_freePort_c hx18) (by kernel_rfl)) ?_
            conv => whnf
            refine And.intro (by kernel_rfl) ?_
            conv => whnf
            refine seq_in tOk ?_
            conv => whnf
            refine andI h (fun _ h => ?_) (fun _ h => ?_)
            · conv => whnf
              obtain rfl := Option.some.inj h
              exact lfE [.s [(5001, 9001), (9001, 5001)]]
            · conv => whnf
              refine draw_u tOk [] 17 [] [0, 1, 0, 4, 0, 16, 0, 0, 128, 0, 512, 0, 2048, 6144, 14336, 32767, 0] [131071] ?_
              conv => whnf
              refine And.intro (by kernel_rfl) ?_
              conv => whnf
              obtain ⟨x19, hx19, h⟩ := bd_some h
              refine draw_u tOk [.u 5 0 (.tup [.d (.int .i64 x19.1), .d (.bool x19.2)]) []] 11 [] [0, 1, 3, 7, 0, 31, 63, 127, 127, 255, 1023] [] ?_
              conv => whnf
              refine And.intro (callD_any (slices_BinarySearchFunc_NatEntry_NatEntry_NatEntry_impl_NatEntry_compare_c hx19) (by kernel_rfl)) ?_
              conv => whnf
              refine And.intro (by kernel_rfl) ?_
              conv => whnf
              obtain ⟨x20, hx20, h⟩ := bd_some h
              refine draw_t tOk [.a 7 [] (.osl 125 0 (([(⟨a1.Kind, a1.To, a1.ToPort, x18, a1.From, a1.FromPort, a0.Now⟩ : NatEntry)] : List NatEntry).length)) [(125, .arr 68 7 (([(⟨a1.Kind, a1.To, a1.ToPort, x18, a1.From, a1.FromPort, a0.Now⟩ : NatEntry)] : List NatEntry).length) (rows NatEntry.enc ([(⟨a1.Kind, a1.To, a1.ToPort, x18, a1.From, a1.FromPort, a0.Now⟩ : NatEntry)] : List NatEntry)))], .e 8 [(9001, .arr 68 7 a0.Entries.length (rows NatEntry.enc a0.Entries)), (125, .arr 68 7 (([(⟨a1.Kind, a1.To, a1.ToPort, x18, a1.From, a1.FromPort, a0.Now⟩ : NatEntry)] : List NatEntry).length) (rows NatEntry.enc ([(⟨a1.Kind, a1.To, a1.ToPort, x18, a1.From, a1.FromPort, a0.Now⟩ : NatEntry)] : List NatEntry)))] (.osl 6001 0 x20.length) [(6001, .arr 68 7 x20.length (rows NatEntry.enc x20))] []] 11 [] [0, 0, 2, 6, 14, 0, 0, 64, 254, 511, 1023] [2047] [9001] ?_
              conv => whnf
              refine And.intro (by (conv => whnf); exact bldS (enc := NatEntry.enc) ([(⟨a1.Kind, a1.To, a1.ToPort, x18, a1.From, a1.FromPort, a0.Now⟩ : NatEntry)] : List NatEntry) ⟨rfl, rfl⟩) ?_
              conv => whnf
              refine And.intro (eD [(9000, 9001), (9001, 125)] 1000 (slices_Insert_NatEntry_NatEntry_c hx20)) ?_
              conv => whnf
              refine And.intro (by kernel_rfl) ?_
              conv => whnf
              obtain rfl := Option.some.inj h
              exact lfE [.s [(5001, 6001), (6001, 5001)]]

noncomputable def impl_NatOut_m (a0 : NatBook) (a1 : NatFlow) : Option (NatBook × NatFlow × Int) :=
 bd (impl_NatBookOk_m a0) fun x1 =>
(if (!x1) = true then
 some ((⟨0, 0, 0, 0, 0, [], 0, []⟩ : NatBook), (⟨0, 0, 0, 0, 0⟩ : NatFlow), 1)
else
 bd (impl_copyBook_m a0) fun x2 =>
 bd (impl_NatFlowOk_m a1) fun x3 =>
(if (!x3) = true then
 some (x2, (⟨0, 0, 0, 0, 0⟩ : NatFlow), 2)
else
 bd (impl_NatBook_inside_m a0 a1.From) fun x4 =>
 bd (gcall ((!x4) = false) (impl_NatBook_inside_m a0 a1.To)) fun x5 =>
(if (((!x4) || x5) || (a1.To == a0.Own)) = true then
 some (x2, (⟨0, 0, 0, 0, 0⟩ : NatFlow), 3)
else
 bd (impl_NatBook_outPort_m x2 a1) fun x6 =>
(if (x6.2.1 != 0) = true then
 some ({ x2 with Entries := x6.2.2.Entries }, (⟨0, 0, 0, 0, 0⟩ : NatFlow), x6.2.1)
else
 some ({ x2 with Entries := x6.2.2.Entries }, { a1 with From := a0.Own, FromPort := x6.1 }, 0)))))

theorem impl_NatOut_c {a0 : NatBook} {a1 : NatFlow} {r : NatBook × NatFlow × Int} (h : impl_NatOut_m a0 a1 = some r) : EffC Try.prog 9 [.agg [.d (.int .i64 a0.Addr), .d (.int .i64 a0.Len), .d (.int .i64 a0.Own), .d (.int .i64 a0.Low), .d (.int .i64 a0.High), .d (slD NatDoor.enc a0.Doors), .d (.int .i64 a0.Now), .d (slD NatEntry.enc a0.Entries)], .agg [.d (.int .i64 a1.Kind), .d (.int .i64 a1.From), .d (.int .i64 a1.FromPort), .d (.int .i64 a1.To), .d (.int .i64 a1.ToPort)]] [] (.tup [.agg [.d (.int .i64 r.1.Addr), .d (.int .i64 r.1.Len), .d (.int .i64 r.1.Own), .d (.int .i64 r.1.Low), .d (.int .i64 r.1.High), .d (slD NatDoor.enc r.1.Doors), .d (.int .i64 r.1.Now), .osl 5001 0 r.1.Entries.length], .agg [.d (.int .i64 r.2.1.Kind), .d (.int .i64 r.2.1.From), .d (.int .i64 r.2.1.FromPort), .d (.int .i64 r.2.1.To), .d (.int .i64 r.2.1.ToPort)], .d (.int .i64 r.2.2)]) [(5001, .arr 68 7 r.1.Entries.length (rows NatEntry.enc r.1.Entries))] := by
  refine effC_x tOk (fn := Try.f9) (c := codeOf Try.f9) rfl rfl ?_
  unfold impl_NatOut_m at h
  conv => whnf
  refine seq_in tOk ?_
  conv => whnf
  obtain ⟨x1, hx1, h⟩ := bd_some h
  refine cC 0 (impl_NatBookOk_c hx1) ?_
  clear hx1
  conv => whnf
  refine andI h (fun _ h => ?_) (fun _ h => ?_)
  · conv => whnf
    obtain rfl := Option.some.inj h
    exact lfE [.k [2, 3], .p 5001 68 7 (rows NatEntry.enc ([] : List NatEntry))]
  · conv => whnf
    obtain ⟨x2, hx2, h⟩ := bd_some h
    refine cC 1000 (impl_copyBook_c hx2) ?_
    clear hx2
    conv => whnf
    refine seq_in tOk ?_
    conv => whnf
    obtain ⟨x3, hx3, h⟩ := bd_some h
    refine cC 0 (impl_NatFlowOk_c hx3) ?_
    clear hx3
    conv => whnf
    refine andI h (fun _ h => ?_) (fun _ h => ?_)
    · conv => whnf
      obtain rfl := Option.some.inj h
      exact lfE [.f [6001], .s [(5001, 6002), (6002, 5001)]]
    · conv => whnf
      obtain ⟨x4, hx4, h⟩ := bd_some h
      refine cC 0 (impl_NatBook_inside_c hx4) ?_
      clear hx4
      conv => whnf
      obtain ⟨x5, hx5, h⟩ := bd_some h
      refine cG (fun c0 => impl_NatBook_inside_c (gcall_some hx5 c0)) ?_
      conv => whnf
      refine andI h (fun _ h => ?_) (fun _ h => ?_)
      · conv => whnf
        obtain rfl := Option.some.inj h
        exact lfE [.f [6001], .s [(5001, 6002), (6002, 5001)]]
      · conv => whnf
        obtain ⟨x6, hx6, h⟩ := bd_some h
        refine callFz [6001] ?_
        conv => whnf
        refine cE [(9000, 7), (9001, 6002)] 1000 (impl_NatBook_outPort_c hx6) ?_
        conv => whnf
        refine seq_in tOk ?_
        conv => whnf
        refine andI h (fun _ h => ?_) (fun _ h => ?_)
        · conv => whnf
          obtain rfl := Option.some.inj h
          exact lfE [.s [(5001, 6001), (6001, 5001)]]
        · conv => whnf
          refine draw_t tOk [.a 11 [(4, .box 26 [.d (.int .i64 0), .d (.int .i64 0), .d (.int .i64 0), .d (.int .i64 0), .d (.int .i64 0), .d (.nil), .d (.int .i64 0), .d (.nil)])] (.any) [(4, .box 26 [.d (.int .i64 x2.Addr), .d (.int .i64 x2.Len), .d (.int .i64 x2.Own), .d (.int .i64 x2.Low), .d (.int .i64 x2.High), .d (slD NatDoor.enc x2.Doors), .d (.int .i64 x2.Now), .osl 6001 0 x6.2.2.Entries.length])], .a 12 [(5, .box 31 [.d (.int .i64 0), .d (.int .i64 0), .d (.int .i64 0), .d (.int .i64 0), .d (.int .i64 0)])] (.any) [(5, .box 31 [.d (.int .i64 a1.Kind), .d (.int .i64 a0.Own), .d (.int .i64 x6.1), .d (.int .i64 a1.To), .d (.int .i64 a1.ToPort)])]] 14 [] [0, 0, 2, 0, 8, 0, 0, 64, 0, 256, 1022, 1, 4095, 8191] [] [4, 5] ?_
          conv => whnf
          refine And.intro (by (conv => whnf); exact ⟨rfl, rfl⟩) ?_
          conv => whnf
          refine And.intro (by (conv => whnf); exact ⟨rfl, rfl⟩) ?_
          conv => whnf
          refine And.intro (by kernel_rfl) ?_
          conv => whnf
          obtain rfl := Option.some.inj h
          exact lfE [.s [(5001, 6001), (6001, 5001)]]

noncomputable def laws_wvBook_m (a0 : NatBook) (a1 : NatBook) : Option (Bool) :=
(if ((((((((a0.Addr != a1.Addr) || (a0.Len != a1.Len)) || (a0.Own != a1.Own)) || (a0.Low != a1.Low)) || (a0.High != a1.High)) || (a0.Now != a1.Now)) || (((a0.Doors.length : Nat) : Int) != ((a1.Doors.length : Nat) : Int))) || (((a0.Entries.length : Nat) : Int) != ((a1.Entries.length : Nat) : Int))) = true then
 some false
else
 bd (lp (σ := Int) (β := (Unit ⊕ Unit)) (fun s1 =>
(if (decide (s1 < ((a0.Doors.length : Nat) : Int))) = true then
 gd ((0 : Int) ≤ s1 ∧ s1 < ((a0.Doors.length : Nat) : Int)) <|
 gd ((0 : Int) ≤ s1 ∧ s1 < ((a1.Doors.length : Nat) : Int)) <|
(if (!((((a0.Doors.getD s1.toNat default).Kind) == ((a1.Doors.getD s1.toNat default).Kind)) && ((((a0.Doors.getD s1.toNat default).Outer) == ((a1.Doors.getD s1.toNat default).Outer)) && ((((a0.Doors.getD s1.toNat default).Inner) == ((a1.Doors.getD s1.toNat default).Inner)) && ((((a0.Doors.getD s1.toNat default).InnerPort) == ((a1.Doors.getD s1.toNat default).InnerPort)) && true))))) = true then
 some (.inr (.inl ()))
else
 some (.inl (IntKind.i64.wrap (s1 + 1))))
else
 some (.inr (.inr ())))) 0) fun x4 =>
(match x4 with
| .inl d7 =>
 some false
| .inr d8 =>
 bd (lp (σ := Int) (β := (Unit ⊕ Unit)) (fun s9 =>
(if (decide (s9 < ((a0.Entries.length : Nat) : Int))) = true then
 gd ((0 : Int) ≤ s9 ∧ s9 < ((a0.Entries.length : Nat) : Int)) <|
 gd ((0 : Int) ≤ s9 ∧ s9 < ((a1.Entries.length : Nat) : Int)) <|
(if (!((((a0.Entries.getD s9.toNat default).Kind) == ((a1.Entries.getD s9.toNat default).Kind)) && ((((a0.Entries.getD s9.toNat default).Peer) == ((a1.Entries.getD s9.toNat default).Peer)) && ((((a0.Entries.getD s9.toNat default).PeerPort) == ((a1.Entries.getD s9.toNat default).PeerPort)) && ((((a0.Entries.getD s9.toNat default).Outer) == ((a1.Entries.getD s9.toNat default).Outer)) && ((((a0.Entries.getD s9.toNat default).Inner) == ((a1.Entries.getD s9.toNat default).Inner)) && ((((a0.Entries.getD s9.toNat default).InnerPort) == ((a1.Entries.getD s9.toNat default).InnerPort)) && ((((a0.Entries.getD s9.toNat default).Last) == ((a1.Entries.getD s9.toNat default).Last)) && true)))))))) = true then
 some (.inr (.inl ()))
else
 some (.inl (IntKind.i64.wrap (s9 + 1))))
else
 some (.inr (.inr ())))) 0) fun x12 =>
(match x12 with
| .inl d15 =>
 some false
| .inr d16 =>
 some true)))

theorem laws_wvBook_c {a0 : NatBook} {a1 : NatBook} {r : Bool} (h : laws_wvBook_m a0 a1 = some r) : PureC Try.prog 11 [.agg [.d (.int .i64 a0.Addr), .d (.int .i64 a0.Len), .d (.int .i64 a0.Own), .d (.int .i64 a0.Low), .d (.int .i64 a0.High), .d (slD NatDoor.enc a0.Doors), .d (.int .i64 a0.Now), .d (slD NatEntry.enc a0.Entries)], .agg [.d (.int .i64 a1.Addr), .d (.int .i64 a1.Len), .d (.int .i64 a1.Own), .d (.int .i64 a1.Low), .d (.int .i64 a1.High), .d (slD NatDoor.enc a1.Doors), .d (.int .i64 a1.Now), .d (slD NatEntry.enc a1.Entries)]] (.d (.bool r)) [] := by
  refine pureC_x tOk (fn := Try.f11) (c := codeOf Try.f11) rfl rfl ?_
  unfold laws_wvBook_m at h
  conv => whnf
  refine seq_in tOk ?_
  conv => whnf
  refine andI h (fun _ h => ?_) (fun _ h => ?_)
  · conv => whnf
    obtain rfl := Option.some.inj h
    exact lfP []
  · conv => whnf
    refine seq_in tOk ?_
    conv => whnf
    obtain ⟨x4, hx4, h⟩ := bd_some h
    refine loop_m tOk hx4 (fun s1 => ⟨0, 101, [(2, .ref 2 0 0), (3, .ref 3 0 0), (5, .d (.int .i64 s1))], [], [(3, .box 26 [.d (.int .i64 a1.Addr), .d (.int .i64 a1.Len), .d (.int .i64 a1.Own), .d (.int .i64 a1.Low), .d (.int .i64 a1.High), .d (slD NatDoor.enc a1.Doors), .d (.int .i64 a1.Now), .d (slD NatEntry.enc a1.Entries)]), (2, .box 26 [.d (.int .i64 a0.Addr), .d (.int .i64 a0.Len), .d (.int .i64 a0.Own), .d (.int .i64 a0.Low), .d (.int .i64 a0.High), .d (slD NatDoor.enc a0.Doors), .d (.int .i64 a0.Now), .d (slD NatEntry.enc a0.Entries)])], []⟩) ?_ ?_
    · exact leX []
    · clear hx4
      intro s1 y2 g3 hy2
      conv => whnf
      refine seq_in tOk ?_
      conv => whnf
      refine andI g3 (fun _ g3 => ?_) (fun _ g3 => ?_)
      · conv => whnf
        refine seq_in tOk ?_
        conv => whnf
        obtain ⟨g5, g3⟩ := gd_some g3
        obtain ⟨g6, g3⟩ := gd_some g3
        refine draw_u tOk [] 11 [] [0, 1, 0, 7, 15, 0, 32, 0, 224, 480, 1023] [] ?_
        conv => whnf
        refine And.intro g5 ?_
        clear g5
        conv => whnf
        refine And.intro g6 ?_
        clear g6
        conv => whnf
        refine And.intro (by kernel_rfl) ?_
        conv => whnf
        refine andI g3 (fun _ g3 => ?_) (fun _ g3 => ?_)
        · conv => whnf
          obtain rfl := Option.some.inj g3
          obtain rfl := hy2 _ rfl
          obtain rfl := Option.some.inj h
          exact lfP []
        · conv => whnf
          obtain rfl := Option.some.inj g3
          exact ⟨_, rfl, leX []⟩
      · conv => whnf
        obtain rfl := Option.some.inj g3
        obtain rfl := hy2 _ rfl
        refine seq_in tOk ?_
        conv => whnf
        obtain ⟨x12, hx12, h⟩ := bd_some h
        refine loop_m tOk hx12 (fun s9 => ⟨0, 101, [(2, .ref 2 0 0), (3, .ref 3 0 0), (6, .d (.int .i64 s9))], [], [(3, .box 26 [.d (.int .i64 a1.Addr), .d (.int .i64 a1.Len), .d (.int .i64 a1.Own), .d (.int .i64 a1.Low), .d (.int .i64 a1.High), .d (slD NatDoor.enc a1.Doors), .d (.int .i64 a1.Now), .d (slD NatEntry.enc a1.Entries)]), (2, .box 26 [.d (.int .i64 a0.Addr), .d (.int .i64 a0.Len), .d (.int .i64 a0.Own), .d (.int .i64 a0.Low), .d (.int .i64 a0.High), .d (slD NatDoor.enc a0.Doors), .d (.int .i64 a0.Now), .d (slD NatEntry.enc a0.Entries)])], []⟩) ?_ ?_
        · exact leX []
        · clear hx12
          intro s9 y10 g11 hy10
          conv => whnf
          refine seq_in tOk ?_
          conv => whnf
          refine andI g11 (fun _ g11 => ?_) (fun _ g11 => ?_)
          · conv => whnf
            refine seq_in tOk ?_
            conv => whnf
            obtain ⟨g13, g11⟩ := gd_some g11
            obtain ⟨g14, g11⟩ := gd_some g11
            refine draw_u tOk [] 11 [] [0, 1, 0, 7, 15, 0, 32, 0, 224, 480, 1023] [] ?_
            conv => whnf
            refine And.intro g13 ?_
            clear g13
            conv => whnf
            refine And.intro g14 ?_
            clear g14
            conv => whnf
            refine And.intro (by kernel_rfl) ?_
            conv => whnf
            refine andI g11 (fun _ g11 => ?_) (fun _ g11 => ?_)
            · conv => whnf
              obtain rfl := Option.some.inj g11
              obtain rfl := hy10 _ rfl
              obtain rfl := Option.some.inj h
              exact lfP []
            · conv => whnf
              obtain rfl := Option.some.inj g11
              exact ⟨_, rfl, leX []⟩
          · conv => whnf
            obtain rfl := Option.some.inj g11
            obtain rfl := hy10 _ rfl
            obtain rfl := Option.some.inj h
            exact lfP []

noncomputable def impl_NatBack_m (a0 : NatFlow) : Option (NatFlow) :=
 some (⟨a0.Kind, a0.To, a0.ToPort, a0.From, a0.FromPort⟩ : NatFlow)

theorem impl_NatBack_c {a0 : NatFlow} {r : NatFlow} (h : impl_NatBack_m a0 = some r) : PureC Try.prog 16 [.agg [.d (.int .i64 a0.Kind), .d (.int .i64 a0.From), .d (.int .i64 a0.FromPort), .d (.int .i64 a0.To), .d (.int .i64 a0.ToPort)]] (.agg [.d (.int .i64 r.Kind), .d (.int .i64 r.From), .d (.int .i64 r.FromPort), .d (.int .i64 r.To), .d (.int .i64 r.ToPort)]) [] := by
  refine pureC_x tOk (fn := Try.f16) (c := codeOf Try.f16) rfl rfl ?_
  unfold impl_NatBack_m at h
  conv => whnf
  obtain rfl := Option.some.inj h
  exact lfP []

noncomputable def impl_NatIn_m (a0 : NatBook) (a1 : NatFlow) : Option (NatFlow × Int) :=
 bd (impl_NatBookOk_m a0) fun x1 =>
(if (!x1) = true then
 some ((⟨0, 0, 0, 0, 0⟩ : NatFlow), 1)
else
 bd (impl_NatFlowOk_m a1) fun x2 =>
(if (!x2) = true then
 some ((⟨0, 0, 0, 0, 0⟩ : NatFlow), 2)
else
 bd (gcall ((a1.To != a0.Own) = false) (impl_NatBook_inside_m a0 a1.From)) fun x3 =>
(if (((a1.To != a0.Own) || x3) || (a1.From == a0.Own)) = true then
 some ((⟨0, 0, 0, 0, 0⟩ : NatFlow), 3)
else
 bd (lp (σ := Int) (β := ((Int × Int) ⊕ Unit)) (fun s4 =>
(if (decide (s4 < ((a0.Doors.length : Nat) : Int))) = true then
 gd ((0 : Int) ≤ s4 ∧ s4 < ((a0.Doors.length : Nat) : Int)) <|
(if ((((a0.Doors.getD s4.toNat default).Kind) == a1.Kind) && (((a0.Doors.getD s4.toNat default).Outer) == a1.ToPort)) = true then
 some (.inr (.inl ((a0.Doors.getD s4.toNat default).Inner, (a0.Doors.getD s4.toNat default).InnerPort)))
else
 some (.inl (IntKind.i64.wrap (s4 + 1))))
else
 some (.inr (.inr ())))) 0) fun x7 =>
(match x7 with
| .inl d9 =>
 some ({ a1 with To := d9.1, ToPort := d9.2 }, 0)
| .inr d10 =>
 bd (lp (σ := Int) (β := ((Int × Int × Int × Int × Int) ⊕ Unit)) (fun s11 =>
(if (decide (s11 < ((a0.Entries.length : Nat) : Int))) = true then
 gd ((0 : Int) ≤ s11 ∧ s11 < ((a0.Entries.length : Nat) : Int)) <|
 bd (impl_NatBook_lives_m a0 (a0.Entries.getD s11.toNat default)) fun x16 =>
(if ((((x16 && (((a0.Entries.getD s11.toNat default).Kind) == a1.Kind)) && (((a0.Entries.getD s11.toNat default).Peer) == a1.From)) && (((a0.Entries.getD s11.toNat default).PeerPort) == a1.FromPort)) && (((a0.Entries.getD s11.toNat default).Outer) == a1.ToPort)) = true then
 bd (impl_NatEntry_flow_m (a0.Entries.getD s11.toNat default)) fun x17 =>
 bd (impl_NatBack_m x17) fun x18 =>
 some (.inr (.inl (x18.Kind, x18.From, x18.FromPort, x18.To, x18.ToPort)))
else
 some (.inl (IntKind.i64.wrap (s11 + 1))))
else
 some (.inr (.inr ())))) 0) fun x14 =>
(match x14 with
| .inl d19 =>
 some ((⟨d19.1, d19.2.1, d19.2.2.1, d19.2.2.2.1, d19.2.2.2.2⟩ : NatFlow), 0)
| .inr d20 =>
 some ((⟨0, 0, 0, 0, 0⟩ : NatFlow), 6))))))

theorem impl_NatIn_c {a0 : NatBook} {a1 : NatFlow} {r : NatFlow × Int} (h : impl_NatIn_m a0 a1 = some r) : PureC Try.prog 15 [.agg [.d (.int .i64 a0.Addr), .d (.int .i64 a0.Len), .d (.int .i64 a0.Own), .d (.int .i64 a0.Low), .d (.int .i64 a0.High), .d (slD NatDoor.enc a0.Doors), .d (.int .i64 a0.Now), .d (slD NatEntry.enc a0.Entries)], .agg [.d (.int .i64 a1.Kind), .d (.int .i64 a1.From), .d (.int .i64 a1.FromPort), .d (.int .i64 a1.To), .d (.int .i64 a1.ToPort)]] (.tup [.agg [.d (.int .i64 r.1.Kind), .d (.int .i64 r.1.From), .d (.int .i64 r.1.FromPort), .d (.int .i64 r.1.To), .d (.int .i64 r.1.ToPort)], .d (.int .i64 r.2)]) [] := by
  refine pureC_x tOk (fn := Try.f15) (c := codeOf Try.f15) rfl rfl ?_
  unfold impl_NatIn_m at h
  conv => whnf
  refine seq_in tOk ?_
  conv => whnf
  obtain ⟨x1, hx1, h⟩ := bd_some h
  refine cC 0 (impl_NatBookOk_c hx1) ?_
  clear hx1
  conv => whnf
  refine andI h (fun _ h => ?_) (fun _ h => ?_)
  · conv => whnf
    obtain rfl := Option.some.inj h
    exact lfP []
  · conv => whnf
    obtain ⟨x2, hx2, h⟩ := bd_some h
    refine cC 0 (impl_NatFlowOk_c hx2) ?_
    clear hx2
    conv => whnf
    refine andI h (fun _ h => ?_) (fun _ h => ?_)
    · conv => whnf
      obtain rfl := Option.some.inj h
      exact lfP []
    · conv => whnf
      obtain ⟨x3, hx3, h⟩ := bd_some h
      refine cG (fun c0 => impl_NatBook_inside_c (gcall_some hx3 c0)) ?_
      conv => whnf
      refine andI h (fun _ h => ?_) (fun _ h => ?_)
      · conv => whnf
        obtain rfl := Option.some.inj h
        exact lfP []
      · conv => whnf
        refine seq_in tOk ?_
        conv => whnf
        obtain ⟨x7, hx7, h⟩ := bd_some h
        refine loop_m tOk hx7 (fun s4 => ⟨0, 114, [(2, .ref 2 0 0), (3, .ref 3 0 0), (4, .ref 4 0 0), (41, .d (slD NatDoor.enc a0.Doors)), (42, .d (.int .i64 ((a0.Doors.length : Nat) : Int))), (43, .d (.int .i64 s4))], [], [(4, .box 31 [.d (.int .i64 0), .d (.int .i64 0), .d (.int .i64 0), .d (.int .i64 0), .d (.int .i64 0)]), (3, .box 31 [.d (.int .i64 a1.Kind), .d (.int .i64 a1.From), .d (.int .i64 a1.FromPort), .d (.int .i64 a1.To), .d (.int .i64 a1.ToPort)]), (2, .box 26 [.d (.int .i64 a0.Addr), .d (.int .i64 a0.Len), .d (.int .i64 a0.Own), .d (.int .i64 a0.Low), .d (.int .i64 a0.High), .d (slD NatDoor.enc a0.Doors), .d (.int .i64 a0.Now), .d (slD NatEntry.enc a0.Entries)])], []⟩) ?_ ?_
        · exact leX []
        · clear hx7
          intro s4 y5 g6 hy5
          conv => whnf
          refine seq_in tOk ?_
          conv => whnf
          refine andI g6 (fun _ g6 => ?_) (fun _ g6 => ?_)
          · conv => whnf
            refine seq_in tOk ?_
            conv => whnf
            refine gdI g6 (fun g6 => ?_)
            conv => whnf
            refine andI g6 (fun _ g6 => ?_) (fun _ g6 => ?_)
            · conv => whnf
              obtain rfl := Option.some.inj g6
              obtain rfl := hy5 _ rfl
              obtain rfl := Option.some.inj h
              exact lfP []
            · conv => whnf
              obtain rfl := Option.some.inj g6
              exact ⟨_, rfl, leX []⟩
          · conv => whnf
            obtain rfl := Option.some.inj g6
            obtain rfl := hy5 _ rfl
            refine seq_in tOk ?_
            conv => whnf
            obtain ⟨x14, hx14, h⟩ := bd_some h
            refine loop_m tOk hx14 (fun s11 => ⟨0, 114, [(2, .ref 2 0 0), (3, .ref 3 0 0), (4, .ref 4 0 0), (72, .d (slD NatEntry.enc a0.Entries)), (73, .d (.int .i64 ((a0.Entries.length : Nat) : Int))), (74, .d (.int .i64 s11))], [], [(4, .box 31 [.d (.int .i64 0), .d (.int .i64 0), .d (.int .i64 0), .d (.int .i64 0), .d (.int .i64 0)]), (3, .box 31 [.d (.int .i64 a1.Kind), .d (.int .i64 a1.From), .d (.int .i64 a1.FromPort), .d (.int .i64 a1.To), .d (.int .i64 a1.ToPort)]), (2, .box 26 [.d (.int .i64 a0.Addr), .d (.int .i64 a0.Len), .d (.int .i64 a0.Own), .d (.int .i64 a0.Low), .d (.int .i64 a0.High), .d (slD NatDoor.enc a0.Doors), .d (.int .i64 a0.Now), .d (slD NatEntry.enc a0.Entries)])], []⟩) ?_ ?_
            · exact leX []
            · clear hx14
              intro s11 y12 g13 hy12
              conv => whnf
              refine seq_in tOk ?_
              conv => whnf
              refine andI g13 (fun _ g13 => ?_) (fun _ g13 => ?_)
              · conv => whnf
                refine seq_in tOk ?_
                conv => whnf
                refine gdI g13 (fun g13 => ?_)
                conv => whnf
                obtain ⟨x16, hx16, g13⟩ := bd_some g13
                refine cC 0 (impl_NatBook_lives_c hx16) ?_
                clear hx16
                conv => whnf
                refine andI g13 (fun _ g13 => ?_) (fun _ g13 => ?_)
                · conv => whnf
                  obtain ⟨x17, hx17, g13⟩ := bd_some g13
                  refine cC 0 (impl_NatEntry_flow_c hx17) ?_
                  clear hx17
                  conv => whnf
                  obtain ⟨x18, hx18, g13⟩ := bd_some g13
                  refine cC 0 (impl_NatBack_c hx18) ?_
                  clear hx18
                  conv => whnf
                  obtain rfl := Option.some.inj g13
                  obtain rfl := hy12 _ rfl
                  obtain rfl := Option.some.inj h
                  exact lfP []
                · conv => whnf
                  obtain rfl := Option.some.inj g13
                  exact ⟨_, rfl, leX []⟩
              · conv => whnf
                obtain rfl := Option.some.inj g13
                obtain rfl := hy12 _ rfl
                obtain rfl := Option.some.inj h
                exact lfP []

noncomputable def spec_NatBack_m (a0 : NatFlow) : Option (NatFlow) :=
 some (⟨a0.Kind, a0.To, a0.ToPort, a0.From, a0.FromPort⟩ : NatFlow)

theorem spec_NatBack_c {a0 : NatFlow} {r : NatFlow} (h : spec_NatBack_m a0 = some r) : PureC Try.prog 21 [.agg [.d (.int .i64 a0.Kind), .d (.int .i64 a0.From), .d (.int .i64 a0.FromPort), .d (.int .i64 a0.To), .d (.int .i64 a0.ToPort)]] (.agg [.d (.int .i64 r.Kind), .d (.int .i64 r.From), .d (.int .i64 r.FromPort), .d (.int .i64 r.To), .d (.int .i64 r.ToPort)]) [] := by
  refine pureC_x tOk (fn := Try.f21) (c := codeOf Try.f21) rfl rfl ?_
  unfold spec_NatBack_m at h
  conv => whnf
  obtain rfl := Option.some.inj h
  exact lfP []

noncomputable def laws_wvAsked_m (a0 : (List wvWent)) (a1 : NatFlow) (a2 : Int) : Option (NatFlow × Bool) :=
 bd (lp (σ := Int) (β := ((Bool × Int × Int × Int × Int × Int) ⊕ Unit)) (fun s1 =>
(if (decide (s1 > 0)) = true then
 gd ((0 : Int) ≤ IntKind.i64.wrap (s1 - 1) ∧ IntKind.i64.wrap (s1 - 1) < ((a0.length : Nat) : Int)) <|
 bd (spec_NatBack_m a1) fun x6 =>
(if (((((a0.getD ((IntKind.i64.wrap (s1 - 1)).toNat) default).Out).Kind) == x6.Kind) && (((((a0.getD ((IntKind.i64.wrap (s1 - 1)).toNat) default).Out).From) == x6.From) && (((((a0.getD ((IntKind.i64.wrap (s1 - 1)).toNat) default).Out).FromPort) == x6.FromPort) && (((((a0.getD ((IntKind.i64.wrap (s1 - 1)).toNat) default).Out).To) == x6.To) && (((((a0.getD ((IntKind.i64.wrap (s1 - 1)).toNat) default).Out).ToPort) == x6.ToPort) && true))))) = true then
 gd ((0 : Int) ≤ IntKind.i64.wrap (s1 - 1) ∧ IntKind.i64.wrap (s1 - 1) < ((a0.length : Nat) : Int)) <|
 gd ((0 : Int) ≤ IntKind.i64.wrap (s1 - 1) ∧ IntKind.i64.wrap (s1 - 1) < ((a0.length : Nat) : Int)) <|
 some (.inr (.inl ((decide ((IntKind.i64.wrap (a2 - ((a0.getD ((IntKind.i64.wrap (s1 - 1)).toNat) default).At))) < 8)), ((a0.getD ((IntKind.i64.wrap (s1 - 1)).toNat) default).In).Kind, ((a0.getD ((IntKind.i64.wrap (s1 - 1)).toNat) default).In).From, ((a0.getD ((IntKind.i64.wrap (s1 - 1)).toNat) default).In).FromPort, ((a0.getD ((IntKind.i64.wrap (s1 - 1)).toNat) default).In).To, ((a0.getD ((IntKind.i64.wrap (s1 - 1)).toNat) default).In).ToPort)))
else
 some (.inl (IntKind.i64.wrap (s1 - 1))))
else
 some (.inr (.inr ())))) ((a0.length : Nat) : Int)) fun x4 =>
(match x4 with
| .inl d9 =>
 some ((⟨d9.2.1, d9.2.2.1, d9.2.2.2.1, d9.2.2.2.2.1, d9.2.2.2.2.2⟩ : NatFlow), d9.1)
| .inr d10 =>
 some ((⟨0, 0, 0, 0, 0⟩ : NatFlow), false))

theorem laws_wvAsked_c {a0 : (List wvWent)} {a1 : NatFlow} {a2 : Int} {r : NatFlow × Bool} (h : laws_wvAsked_m a0 a1 a2 = some r) : PureC Try.prog 18 [.d (slD wvWent.enc a0), .agg [.d (.int .i64 a1.Kind), .d (.int .i64 a1.From), .d (.int .i64 a1.FromPort), .d (.int .i64 a1.To), .d (.int .i64 a1.ToPort)], .d (.int .i64 a2)] (.tup [.agg [.d (.int .i64 r.1.Kind), .d (.int .i64 r.1.From), .d (.int .i64 r.1.FromPort), .d (.int .i64 r.1.To), .d (.int .i64 r.1.ToPort)], .d (.bool r.2)]) [] := by
  refine pureC_x tOk (fn := Try.f18) (c := codeOf Try.f18) rfl rfl ?_
  unfold laws_wvAsked_m at h
  conv => whnf
  refine seq_in tOk ?_
  conv => whnf
  obtain ⟨x4, hx4, h⟩ := bd_some h
  refine loop_m tOk hx4 (fun s1 => ⟨0, 40, [(0, .d (slD wvWent.enc a0)), (2, .d (.int .i64 a2)), (4, .ref 4 0 0), (6, .ref 6 0 0), (8, .d (.int .i64 s1))], [], [(6, .box 31 [.d (.int .i64 0), .d (.int .i64 0), .d (.int .i64 0), .d (.int .i64 0), .d (.int .i64 0)]), (4, .box 31 [.d (.int .i64 a1.Kind), .d (.int .i64 a1.From), .d (.int .i64 a1.FromPort), .d (.int .i64 a1.To), .d (.int .i64 a1.ToPort)])], []⟩) ?_ ?_
  · exact leX []
  · clear hx4
    intro s1 y2 g3 hy2
    conv => whnf
    refine seq_in tOk ?_
    conv => whnf
    refine andI g3 (fun _ g3 => ?_) (fun _ g3 => ?_)
    · conv => whnf
      refine seq_in tOk ?_
      conv => whnf
      obtain ⟨g5, g3⟩ := gd_some g3
      obtain ⟨x6, hx6, g3⟩ := bd_some g3
      refine draw_u tOk [.u 7 0 (.agg [.d (.int .i64 x6.Kind), .d (.int .i64 x6.From), .d (.int .i64 x6.FromPort), .d (.int .i64 x6.To), .d (.int .i64 x6.ToPort)]) []] 9 [] [0, 0, 2, 7, 15, 31, 0, 64, 255] [] ?_
      conv => whnf
      refine And.intro g5 ?_
      clear g5
      conv => whnf
      refine And.intro (callD_any (spec_NatBack_c hx6) (by kernel_rfl)) ?_
      conv => whnf
      refine And.intro (by kernel_rfl) ?_
      conv => whnf
      refine andI g3 (fun _ g3 => ?_) (fun _ g3 => ?_)
      · conv => whnf
        obtain ⟨g7, g3⟩ := gd_some g3
        obtain ⟨g8, g3⟩ := gd_some g3
        refine draw_t tOk [.a 15 [(6, .box 31 [.d (.int .i64 0), .d (.int .i64 0), .d (.int .i64 0), .d (.int .i64 0), .d (.int .i64 0)])] (.any) [(6, .box 31 [.d (.int .i64 (((a0.getD ((IntKind.i64.wrap (s1 - 1)).toNat) default).In).Kind)), .d (.int .i64 (((a0.getD ((IntKind.i64.wrap (s1 - 1)).toNat) default).In).From)), .d (.int .i64 (((a0.getD ((IntKind.i64.wrap (s1 - 1)).toNat) default).In).FromPort)), .d (.int .i64 (((a0.getD ((IntKind.i64.wrap (s1 - 1)).toNat) default).In).To)), .d (.int .i64 (((a0.getD ((IntKind.i64.wrap (s1 - 1)).toNat) default).In).ToPort))])]] 17 [] [0, 0, 2, 7, 15, 31, 0, 0, 0, 256, 896, 1920, 3968, 8128, 16320, 63, 65535] [] [6] ?_
        conv => whnf
        refine And.intro g7 ?_
        clear g7
        conv => whnf
        refine And.intro g8 ?_
        clear g8
        conv => whnf
        refine And.intro (by (conv => whnf); exact ⟨rfl, rfl⟩) ?_
        conv => whnf
        refine And.intro (by kernel_rfl) ?_
        conv => whnf
        obtain rfl := Option.some.inj g3
        obtain rfl := hy2 _ rfl
        obtain rfl := Option.some.inj h
        exact lfP []
      · conv => whnf
        obtain rfl := Option.some.inj g3
        exact ⟨_, rfl, leX []⟩
    · conv => whnf
      obtain rfl := Option.some.inj g3
      obtain rfl := hy2 _ rfl
      obtain rfl := Option.some.inj h
      exact lfP []

noncomputable def laws_wvDoor_m (a0 : NatBook) (a1 : NatFlow) : Option (Bool) :=
 bd (lp (σ := Int) (β := (Unit ⊕ Unit)) (fun s1 =>
(if (decide (s1 < ((a0.Doors.length : Nat) : Int))) = true then
 gd ((0 : Int) ≤ s1 ∧ s1 < ((a0.Doors.length : Nat) : Int)) <|
 gd ((((a0.Doors.getD s1.toNat default).Kind) == a1.Kind) = true → ((0 : Int) ≤ s1 ∧ s1 < ((a0.Doors.length : Nat) : Int))) <|
(if ((((a0.Doors.getD s1.toNat default).Kind) == a1.Kind) && (((a0.Doors.getD s1.toNat default).Outer) == a1.ToPort)) = true then
 some (.inr (.inl ()))
else
 some (.inl (IntKind.i64.wrap (s1 + 1))))
else
 some (.inr (.inr ())))) 0) fun x4 =>
(match x4 with
| .inl d7 =>
 some true
| .inr d8 =>
 some false)

theorem laws_wvDoor_c {a0 : NatBook} {a1 : NatFlow} {r : Bool} (h : laws_wvDoor_m a0 a1 = some r) : PureC Try.prog 19 [.agg [.d (.int .i64 a0.Addr), .d (.int .i64 a0.Len), .d (.int .i64 a0.Own), .d (.int .i64 a0.Low), .d (.int .i64 a0.High), .d (slD NatDoor.enc a0.Doors), .d (.int .i64 a0.Now), .d (slD NatEntry.enc a0.Entries)], .agg [.d (.int .i64 a1.Kind), .d (.int .i64 a1.From), .d (.int .i64 a1.FromPort), .d (.int .i64 a1.To), .d (.int .i64 a1.ToPort)]] (.d (.bool r)) [] := by
  refine pureC_x tOk (fn := Try.f19) (c := codeOf Try.f19) rfl rfl ?_
  unfold laws_wvDoor_m at h
  conv => whnf
  refine seq_in tOk ?_
  conv => whnf
  obtain ⟨x4, hx4, h⟩ := bd_some h
  refine loop_m tOk hx4 (fun s1 => ⟨0, 33, [(2, .ref 2 0 0), (3, .ref 3 0 0), (5, .d (.int .i64 s1))], [], [(3, .box 31 [.d (.int .i64 a1.Kind), .d (.int .i64 a1.From), .d (.int .i64 a1.FromPort), .d (.int .i64 a1.To), .d (.int .i64 a1.ToPort)]), (2, .box 26 [.d (.int .i64 a0.Addr), .d (.int .i64 a0.Len), .d (.int .i64 a0.Own), .d (.int .i64 a0.Low), .d (.int .i64 a0.High), .d (slD NatDoor.enc a0.Doors), .d (.int .i64 a0.Now), .d (slD NatEntry.enc a0.Entries)])], []⟩) ?_ ?_
  · exact leX []
  · clear hx4
    intro s1 y2 g3 hy2
    conv => whnf
    refine seq_in tOk ?_
    conv => whnf
    refine andI g3 (fun _ g3 => ?_) (fun _ g3 => ?_)
    · conv => whnf
      refine seq_in tOk ?_
      conv => whnf
      obtain ⟨g5, g3⟩ := gd_some g3
      obtain ⟨g6, g3⟩ := gd_some g3
      refine draw_u tOk [] 20 [] [0, 1, 0, 7, 15, 31, 0, 64, 255, 511, 1023, 2047, 1023, 8191, 16383, 32767, 1023, 66559, 262143, 524287] [] ?_
      conv => whnf
      refine And.intro g5 ?_
      clear g5
      conv => whnf
      refine And.intro g6 ?_
      clear g6
      conv => whnf
      refine And.intro (by kernel_rfl) ?_
      conv => whnf
      refine andI g3 (fun _ g3 => ?_) (fun _ g3 => ?_)
      · conv => whnf
        obtain rfl := Option.some.inj g3
        obtain rfl := hy2 _ rfl
        obtain rfl := Option.some.inj h
        exact lfP []
      · conv => whnf
        obtain rfl := Option.some.inj g3
        exact ⟨_, rfl, leX []⟩
    · conv => whnf
      obtain rfl := Option.some.inj g3
      obtain rfl := hy2 _ rfl
      obtain rfl := Option.some.inj h
      exact lfP []

end Go.Proofs.Ytaoeomoepefojab
