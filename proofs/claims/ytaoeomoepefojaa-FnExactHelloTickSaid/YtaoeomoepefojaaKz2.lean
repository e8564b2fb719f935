/-
  What some of the program's functions compute: their models, and that the functions compute these; no condition.
-/
import Derived.Test.YtaoeomoepefojaaTyz
import Derived.Test.YtaoeomoepefojaaTbz
import Derived.Test.YtaoeomoepefojaaAbz7
import Derived.Test.YtaoeomoepefojaaKz1
set_option linter.all false
namespace Go.Proofs.Ytaoeomoepefojaa
open Go Go.Ab
set_option maxRecDepth 100000
set_option maxHeartbeats 40000000
noncomputable def impl_HelloEnd_heardOk_m (a0 : HelloEnd) : Option (Bool) :=
 bd (lp (σ := Int) (β := (Unit ⊕ Unit)) (fun s1 =>
(if (decide (s1 < ((a0.Heard.length : Nat) : Int))) = true then
 gd ((0 : Int) ≤ s1 ∧ s1 < ((a0.Heard.length : Nat) : Int)) <|
 bd (impl_HelloEntry_ok_m ((a0.Heard.getD s1.toNat default).Entry)) fun x6 =>
 gd ((decide (s1 > 0)) = true → (((!x6) || ((a0.Left == 0) && (!((a0.Heard.getD s1.toNat default).Stale)))) = false → ((0 : Int) ≤ IntKind.i64.wrap (s1 - 1) ∧ IntKind.i64.wrap (s1 - 1) < ((a0.Heard.length : Nat) : Int)))) <|
 bd (gcall ((decide (s1 > 0)) = true ∧ ((!x6) || ((a0.Left == 0) && (!((a0.Heard.getD s1.toNat default).Stale)))) = false) (impl_HelloEntry_prefix_m ((a0.Heard.getD ((IntKind.i64.wrap (s1 - 1)).toNat) default).Entry))) fun x8 =>
 bd (gcall ((decide (s1 > 0)) = true ∧ ((!x6) || ((a0.Left == 0) && (!((a0.Heard.getD s1.toNat default).Stale)))) = false) (impl_HelloEntry_prefix_m ((a0.Heard.getD s1.toNat default).Entry))) fun x9 =>
 bd (gcall ((decide (s1 > 0)) = true ∧ ((!x6) || ((a0.Left == 0) && (!((a0.Heard.getD s1.toNat default).Stale)))) = false) (impl_comparePrefix_m x8 x9)) fun x10 =>
(if (((!x6) || ((a0.Left == 0) && (!((a0.Heard.getD s1.toNat default).Stale)))) || ((decide (s1 > 0)) && (decide (x10 ≥ 0)))) = true then
 some (.inr (.inl ()))
else
 some (.inl (IntKind.i64.wrap (s1 + 1))))
else
 some (.inr (.inr ())))) 0) fun x4 =>
(match x4 with
| .inl d11 =>
 some false
| .inr d12 =>
 bd (gcall ((decide (((a0.Heard.length : Nat) : Int) ≤ 16)) = true) (impl_within_m a0.Keep 0 6)) fun x13 =>
 bd (gcall (((decide (((a0.Heard.length : Nat) : Int) ≤ 16)) && x13) = true) (impl_anyStale_m a0.Heard)) fun x14 =>
 some (((decide (((a0.Heard.length : Nat) : Int) ≤ 16)) && x13) && ((decide (a0.Keep > 0)) == x14)))

theorem impl_HelloEnd_heardOk_c {a0 : HelloEnd} {r : Bool} (h : impl_HelloEnd_heardOk_m a0 = some r) : PureC Try.prog 87 [.agg [.d (.int .i64 a0.Name), .d (.int .i64 a0.Peer), .d (slD HelloKey.enc a0.Keys), .d (.int .i64 a0.Boot), .d (slD HelloEntry.enc a0.Want), .d (.int .i64 a0.Turn), .d (.int .i64 a0.PeerBoot), .d (.int .i64 a0.PeerTurn), .d (.bool a0.Up), .d (.int .i64 a0.Left), .d (.int .i64 a0.Num), .d (.int .i64 a0.Under.Kind), .d (.int .i64 a0.Under.Entry.Addr), .d (.int .i64 a0.Under.Entry.Len), .d (.int .i64 a0.Under.Entry.Cost), .d (.int .i64 a0.Under.Entry.Label), .d (slD HelloEntry.enc a0.Told), .d (.bool a0.All), .d (.int .i64 a0.Got), .d (.bool a0.Full), .d (slD HelloRoute.enc a0.Heard), .d (.int .i64 a0.Keep)]] (.d (.bool r)) [] := by
  refine pureC_x tOk (fn := Try.f87) (c := codeOf Try.f87) rfl rfl ?_
  unfold impl_HelloEnd_heardOk_m at h
  conv => whnf
  refine seq_in tOk ?_
  conv => whnf
  obtain ⟨x4, hx4, h⟩ := bd_some h
  refine loop_m tOk hx4 (fun s1 => ⟨0, 65, [(1, .ref 1 0 0), (6, .d (slD HelloRoute.enc a0.Heard)), (7, .d (.int .i64 ((a0.Heard.length : Nat) : Int))), (8, .d (.int .i64 s1))], [], [(1, .box 39 [.d (.int .i64 a0.Name), .d (.int .i64 a0.Peer), .d (slD HelloKey.enc a0.Keys), .d (.int .i64 a0.Boot), .d (slD HelloEntry.enc a0.Want), .d (.int .i64 a0.Turn), .d (.int .i64 a0.PeerBoot), .d (.int .i64 a0.PeerTurn), .d (.bool a0.Up), .d (.int .i64 a0.Left), .d (.int .i64 a0.Num), .d (.int .i64 a0.Under.Kind), .d (.int .i64 a0.Under.Entry.Addr), .d (.int .i64 a0.Under.Entry.Len), .d (.int .i64 a0.Under.Entry.Cost), .d (.int .i64 a0.Under.Entry.Label), .d (slD HelloEntry.enc a0.Told), .d (.bool a0.All), .d (.int .i64 a0.Got), .d (.bool a0.Full), .d (slD HelloRoute.enc a0.Heard), .d (.int .i64 a0.Keep)])], []⟩) ?_ ?_
  · exact leX []
  · clear hx4
    intro s1 y2 g3 hy2
    conv => whnf
    refine seq_in tOk ?_
    conv => whnf
    refine andI g3 (fun _ g3 => ?_) (fun _ g3 => ?_)
    · conv => whnf
      refine seq_in tOk ?_
      conv => whnf
      refine gdI g3 (fun g3 => ?_)
      conv => whnf
      obtain ⟨x6, hx6, g3⟩ := bd_some g3
      obtain ⟨g7, g3⟩ := gd_some g3
      obtain ⟨x8, hx8, g3⟩ := bd_some g3
      obtain ⟨x9, hx9, g3⟩ := bd_some g3
      obtain ⟨x10, hx10, g3⟩ := bd_some g3
      refine draw_u tOk [.u 2 0 (.d (.bool x6)) [], .u 25 0 (.agg [.d (.int .i64 x8.Addr), .d (.int .i64 x8.Len)]) [], .u 28 0 (.agg [.d (.int .i64 x9.Addr), .d (.int .i64 x9.Len)]) [], .u 29 0 (.d (.int .i64 x10)) []] 33 [] [0, 1, 3, 7, 15, 31, 63, 127, 255, 511, 1023, 2047, 4095, 8191, 16383, 32767, 65535, 131071, 262143, 524287, 262143, 1310719, 4194303, 8388607, 16777215, 33554431, 262143, 67371007, 268435455, 536870911, 1073741823, 2147483647, 4294967295] [] ?_
      conv => whnf
      refine And.intro (callD_any (impl_HelloEntry_ok_c hx6) (by kernel_rfl)) ?_
      conv => whnf
      refine And.intro g7 ?_
      clear g7
      conv => whnf
      refine And.intro (callDG_if rfl rfl rfl rfl (by intro c0 c1; exact impl_HelloEntry_prefix_c (gcall_some hx8 ⟨c0, c1⟩))) ?_
      conv => whnf
      refine And.intro (callDG_if rfl rfl rfl rfl (by intro c0 c1; exact impl_HelloEntry_prefix_c (gcall_some hx9 ⟨c0, c1⟩))) ?_
      conv => whnf
      refine And.intro (callDG_if rfl rfl rfl rfl (by intro c0 c1; exact impl_comparePrefix_c (gcall_some hx10 ⟨c0, c1⟩))) ?_
      conv => whnf
      refine And.intro (by kernel_rfl) ?_
      conv => whnf
      refine andI g3 (fun _ g3 => ?_) (fun _ g3 => ?_)
      · conv => whnf
        obtain rfl := Option.some.inj g3
        obtain rfl := hy2 _ rfl
        obtain rfl := Option.some.inj h
        exact lfP []
      · conv => whnf
        obtain rfl := Option.some.inj g3
        exact ⟨_, rfl, leX []⟩
    · conv => whnf
      obtain rfl := Option.some.inj g3
      obtain rfl := hy2 _ rfl
      obtain ⟨x13, hx13, h⟩ := bd_some h
      obtain ⟨x14, hx14, h⟩ := bd_some h
      refine draw_u tOk [.u 7 0 (.d (.bool x13)) [], .u 15 0 (.d (.bool x14)) []] 19 [] [0, 1, 3, 7, 15, 31, 63, 127, 255, 511, 1023, 2047, 4095, 1023, 9215, 25599, 65535, 131071, 262143] [] ?_
      conv => whnf
      refine And.intro (callDG_if rfl rfl rfl rfl (by intro c0; exact impl_within_c (gcall_some hx13 c0))) ?_
      conv => whnf
      refine And.intro (callDG_if rfl rfl rfl rfl (by intro c0; exact impl_anyStale_c (gcall_some hx14 c0))) ?_
      conv => whnf
      refine And.intro (by kernel_rfl) ?_
      conv => whnf
      obtain rfl := Option.some.inj h
      exact lfP []

noncomputable def impl_HelloEndOk_m (a0 : HelloEnd) : Option (Bool) :=
 bd (impl_within_m a0.Name 0 65535) fun x1 =>
 bd (gcall ((!x1) = false) (impl_within_m a0.Peer 0 65535)) fun x2 =>
 bd (gcall ((((!x1) || (!x2)) || (a0.Name == a0.Peer)) = false) (impl_HelloKeysOk_m a0.Keys)) fun x3 =>
(if ((((!x1) || (!x2)) || (a0.Name == a0.Peer)) || (!x3)) = true then
 some false
else
 bd (impl_within_m a0.Boot 1 1000) fun x4 =>
 bd (gcall ((!x4) = false) (impl_within_m a0.Turn 0 1000000)) fun x5 =>
 bd (gcall (((!x4) || (!x5)) = false) (impl_within_m a0.PeerTurn 0 1000000)) fun x6 =>
 bd (gcall ((((!x4) || (!x5)) || (!x6)) = false) (impl_within_m a0.Got 0 1000000)) fun x7 =>
(if ((((!x4) || (!x5)) || (!x6)) || (!x7)) = true then
 some false
else
 bd (impl_within_m a0.PeerBoot 0 999) fun x8 =>
(if ((!x8) || (!((a0.PeerBoot == 0) == (a0.PeerTurn == 0)))) = true then
 some false
else
 bd (impl_within_m a0.Left 0 4) fun x9 =>
(if (((!x9) || ((a0.PeerBoot == 0) && (a0.Left != 0))) || (a0.Up && (a0.Left == 0))) = true then
 some false
else
 bd (impl_within_m a0.Num 0 a0.Turn) fun x10 =>
 bd (gcall ((!x10) = false) (impl_HelloChange_ok_m a0.Under)) fun x11 =>
(if (((!x10) || (!x11)) || ((a0.Num == 0) && (a0.Under.Kind != 0))) = true then
 some false
else
 bd (impl_HelloTableOk_m a0.Want) fun x12 =>
 bd (gcall ((!x12) = false) (impl_HelloTableOk_m a0.Told)) fun x13 =>
 bd (gcall (((!x12) || (!x13)) = false) (impl_changed_fz_m a0.Told a0.Under)) fun x14 =>
 bd (gcall (((!x12) || (!x13)) = false) (impl_HelloTableOk_m x14)) fun x15 =>
(if (((!x12) || (!x13)) || (!x15)) = true then
 some false
else
 bd (impl_HelloEnd_heardOk_m a0) fun x16 =>
 some x16))))))

theorem impl_HelloEndOk_c {a0 : HelloEnd} {r : Bool} (h : impl_HelloEndOk_m a0 = some r) : PureC Try.prog 32 [.agg [.d (.int .i64 a0.Name), .d (.int .i64 a0.Peer), .d (slD HelloKey.enc a0.Keys), .d (.int .i64 a0.Boot), .d (slD HelloEntry.enc a0.Want), .d (.int .i64 a0.Turn), .d (.int .i64 a0.PeerBoot), .d (.int .i64 a0.PeerTurn), .d (.bool a0.Up), .d (.int .i64 a0.Left), .d (.int .i64 a0.Num), .d (.int .i64 a0.Under.Kind), .d (.int .i64 a0.Under.Entry.Addr), .d (.int .i64 a0.Under.Entry.Len), .d (.int .i64 a0.Under.Entry.Cost), .d (.int .i64 a0.Under.Entry.Label), .d (slD HelloEntry.enc a0.Told), .d (.bool a0.All), .d (.int .i64 a0.Got), .d (.bool a0.Full), .d (slD HelloRoute.enc a0.Heard), .d (.int .i64 a0.Keep)]] (.d (.bool r)) [] := by
  refine pureC_x tOk (fn := Try.f32) (c := codeOf Try.f32) rfl rfl ?_
  unfold impl_HelloEndOk_m at h
  conv => whnf
  refine seq_in tOk ?_
  conv => whnf
  obtain ⟨x1, hx1, h⟩ := bd_some h
  refine cC 0 (impl_within_c hx1) ?_
  clear hx1
  conv => whnf
  obtain ⟨x2, hx2, h⟩ := bd_some h
  refine cG (fun c0 => impl_within_c (gcall_some hx2 c0)) ?_
  conv => whnf
  obtain ⟨x3, hx3, h⟩ := bd_some h
  refine cG (fun c0 => impl_HelloKeysOk_c (gcall_some hx3 c0)) ?_
  conv => whnf
  refine andI h (fun _ h => ?_) (fun _ h => ?_)
  · conv => whnf
    obtain rfl := Option.some.inj h
    exact lfP []
  · conv => whnf
    obtain ⟨x4, hx4, h⟩ := bd_some h
    refine cC 0 (impl_within_c hx4) ?_
    clear hx4
    conv => whnf
    obtain ⟨x5, hx5, h⟩ := bd_some h
    refine cG (fun c0 => impl_within_c (gcall_some hx5 c0)) ?_
    conv => whnf
    obtain ⟨x6, hx6, h⟩ := bd_some h
    refine cG (fun c0 => impl_within_c (gcall_some hx6 c0)) ?_
    conv => whnf
    obtain ⟨x7, hx7, h⟩ := bd_some h
    refine cG (fun c0 => impl_within_c (gcall_some hx7 c0)) ?_
    conv => whnf
    refine andI h (fun _ h => ?_) (fun _ h => ?_)
    · conv => whnf
      obtain rfl := Option.some.inj h
      exact lfP []
    · conv => whnf
      obtain ⟨x8, hx8, h⟩ := bd_some h
      refine cC 0 (impl_within_c hx8) ?_
      clear hx8
      conv => whnf
      refine andI h (fun _ h => ?_) (fun _ h => ?_)
      · conv => whnf
        obtain rfl := Option.some.inj h
        exact lfP []
      · conv => whnf
        obtain ⟨x9, hx9, h⟩ := bd_some h
        refine cC 0 (impl_within_c hx9) ?_
        clear hx9
        conv => whnf
        refine andI h (fun _ h => ?_) (fun _ h => ?_)
        · conv => whnf
          obtain rfl := Option.some.inj h
          exact lfP []
        · conv => whnf
          obtain ⟨x10, hx10, h⟩ := bd_some h
          refine cC 0 (impl_within_c hx10) ?_
          clear hx10
          conv => whnf
          obtain ⟨x11, hx11, h⟩ := bd_some h
          refine cG (fun c0 => impl_HelloChange_ok_c (gcall_some hx11 c0)) ?_
          conv => whnf
          refine andI h (fun _ h => ?_) (fun _ h => ?_)
          · conv => whnf
            obtain rfl := Option.some.inj h
            exact lfP []
          · conv => whnf
            obtain ⟨x12, hx12, h⟩ := bd_some h
            refine cC 0 (impl_HelloTableOk_c hx12) ?_
            clear hx12
            conv => whnf
            obtain ⟨x13, hx13, h⟩ := bd_some h
            refine cG (fun c0 => impl_HelloTableOk_c (gcall_some hx13 c0)) ?_
            conv => whnf
            obtain ⟨x14, hx14, h⟩ := bd_some h
            refine callG_e [] 0 rfl rfl rfl (by intro c0; exact impl_changed_fz_c (gcall_some hx14 c0)) argA inA rfl rfl (condN_of inA) ?_
            conv => whnf
            obtain ⟨x15, hx15, h⟩ := bd_some h
            refine cG (fun c0 => impl_HelloTableOk_c (gcall_some hx15 c0)) ?_
            conv => whnf
            refine andI h (fun _ h => ?_) (fun _ h => ?_)
            · conv => whnf
              obtain rfl := Option.some.inj h
              exact lfP []
            · conv => whnf
              obtain ⟨x16, hx16, h⟩ := bd_some h
              refine cC 0 (impl_HelloEnd_heardOk_c hx16) ?_
              clear hx16
              conv => whnf
              obtain rfl := Option.some.inj h
              exact lfP []

noncomputable def impl_clone_HelloKey_m (a0 : (List HelloKey)) : Option ((List HelloKey)) :=
 gd ((0 : Int) ≤ 0 ∧ 0 ≤ ((a0.length : Nat) : Int) ∧ ((a0.length : Nat) : Int) * 16 ≤ 140737488355328 ∧ ((a0.length : Nat) : Int) ≤ 140737488355328) <|
 gd ((((List.replicate (0 : Int).toNat (default : HelloKey)).length) + (a0.length)) * (16 + 1) ≤ 70368744177664) <|
 some ((List.replicate (0 : Int).toNat (default : HelloKey)) ++ a0)

theorem impl_clone_HelloKey_c {a0 : (List HelloKey)} {r : (List HelloKey)} (h : impl_clone_HelloKey_m a0 = some r) : PureC Try.prog 88 [.d (slD HelloKey.enc a0)] (.osl 5001 0 r.length) [⟨5001, 113, 2, r.length, rows HelloKey.enc r⟩] := by
  refine pureC_x tOk (fn := Try.f88) (c := codeOf Try.f88) rfl rfl ?_
  unfold impl_clone_HelloKey_m at h
  conv => whnf
  obtain ⟨g2, h⟩ := gd_some h
  refine And.intro g2 ?_
  clear g2
  refine ⟨(List.replicate (0 : Int).toNat (default : HelloKey)).length, rows HelloKey.enc (List.replicate (0 : Int).toNat (default : HelloKey)), by simp, make_rows rfl, ?_⟩
  conv => whnf
  refine gdI h (fun h => ?_)
  refine appS (enc := HelloKey.enc) (xs := (List.replicate (0 : Int).toNat (default : HelloKey))) (ys := a0) ?_
  conv => whnf
  obtain rfl := Option.some.inj h
  exact lfP [.s [(5, 5001), (5001, 5)]]

noncomputable def impl_clone_HelloRoute_m (a0 : (List HelloRoute)) : Option ((List HelloRoute)) :=
 gd ((0 : Int) ≤ 0 ∧ 0 ≤ ((a0.length : Nat) : Int) ∧ ((a0.length : Nat) : Int) * 40 ≤ 140737488355328 ∧ ((a0.length : Nat) : Int) ≤ 140737488355328) <|
 gd ((((List.replicate (0 : Int).toNat (default : HelloRoute)).length) + (a0.length)) * (40 + 1) ≤ 70368744177664) <|
 some ((List.replicate (0 : Int).toNat (default : HelloRoute)) ++ a0)

theorem impl_clone_HelloRoute_c {a0 : (List HelloRoute)} {r : (List HelloRoute)} (h : impl_clone_HelloRoute_m a0 = some r) : PureC Try.prog 90 [.d (slD HelloRoute.enc a0)] (.osl 5001 0 r.length) [⟨5001, 111, 5, r.length, rows HelloRoute.enc r⟩] := by
  refine pureC_x tOk (fn := Try.f90) (c := codeOf Try.f90) rfl rfl ?_
  unfold impl_clone_HelloRoute_m at h
  conv => whnf
  obtain ⟨g2, h⟩ := gd_some h
  refine And.intro g2 ?_
  clear g2
  refine ⟨(List.replicate (0 : Int).toNat (default : HelloRoute)).length, rows HelloRoute.enc (List.replicate (0 : Int).toNat (default : HelloRoute)), by simp, make_rows rfl, ?_⟩
  conv => whnf
  refine gdI h (fun h => ?_)
  refine appS (enc := HelloRoute.enc) (xs := (List.replicate (0 : Int).toNat (default : HelloRoute))) (ys := a0) ?_
  conv => whnf
  obtain rfl := Option.some.inj h
  exact lfP [.s [(5, 5001), (5001, 5)]]

noncomputable def impl_copyEnd_m (a0 : HelloEnd) : Option (HelloEnd) :=
 bd (impl_clone_HelloKey_m a0.Keys) fun x1 =>
 bd (impl_clone_HelloEntry_m a0.Want) fun x2 =>
 bd (impl_clone_HelloEntry_m a0.Told) fun x3 =>
 bd (impl_clone_HelloRoute_m a0.Heard) fun x4 =>
 some ({ a0 with Keys := x1, Want := x2, Told := x3, Heard := x4 })

theorem impl_copyEnd_c {a0 : HelloEnd} {r : HelloEnd} (h : impl_copyEnd_m a0 = some r) : PureC Try.prog 33 [.agg [.d (.int .i64 a0.Name), .d (.int .i64 a0.Peer), .d (slD HelloKey.enc a0.Keys), .d (.int .i64 a0.Boot), .d (slD HelloEntry.enc a0.Want), .d (.int .i64 a0.Turn), .d (.int .i64 a0.PeerBoot), .d (.int .i64 a0.PeerTurn), .d (.bool a0.Up), .d (.int .i64 a0.Left), .d (.int .i64 a0.Num), .d (.int .i64 a0.Under.Kind), .d (.int .i64 a0.Under.Entry.Addr), .d (.int .i64 a0.Under.Entry.Len), .d (.int .i64 a0.Under.Entry.Cost), .d (.int .i64 a0.Under.Entry.Label), .d (slD HelloEntry.enc a0.Told), .d (.bool a0.All), .d (.int .i64 a0.Got), .d (.bool a0.Full), .d (slD HelloRoute.enc a0.Heard), .d (.int .i64 a0.Keep)]] (.agg [.d (.int .i64 r.Name), .d (.int .i64 r.Peer), .osl 5001 0 r.Keys.length, .d (.int .i64 r.Boot), .osl 5002 0 r.Want.length, .d (.int .i64 r.Turn), .d (.int .i64 r.PeerBoot), .d (.int .i64 r.PeerTurn), .d (.bool r.Up), .d (.int .i64 r.Left), .d (.int .i64 r.Num), .d (.int .i64 r.Under.Kind), .d (.int .i64 r.Under.Entry.Addr), .d (.int .i64 r.Under.Entry.Len), .d (.int .i64 r.Under.Entry.Cost), .d (.int .i64 r.Under.Entry.Label), .osl 5003 0 r.Told.length, .d (.bool r.All), .d (.int .i64 r.Got), .d (.bool r.Full), .osl 5004 0 r.Heard.length, .d (.int .i64 r.Keep)]) [⟨5001, 113, 2, r.Keys.length, rows HelloKey.enc r.Keys⟩, ⟨5002, 34, 4, r.Want.length, rows HelloEntry.enc r.Want⟩, ⟨5003, 34, 4, r.Told.length, rows HelloEntry.enc r.Told⟩, ⟨5004, 111, 5, r.Heard.length, rows HelloRoute.enc r.Heard⟩] := by
  refine pureC_x tOk (fn := Try.f33) (c := codeOf Try.f33) rfl rfl ?_
  unfold impl_copyEnd_m at h
  conv => whnf
  obtain ⟨x1, hx1, h⟩ := bd_some h
  obtain ⟨x2, hx2, h⟩ := bd_some h
  obtain ⟨x3, hx3, h⟩ := bd_some h
  obtain ⟨x4, hx4, h⟩ := bd_some h
  refine draw_u tOk [.u 2 1000 (.osl 5001 0 x1.length) [⟨5001, 113, 2, x1.length, rows HelloKey.enc x1⟩], .u 5 2000 (.osl 5001 0 x2.length) [⟨5001, 34, 4, x2.length, rows HelloEntry.enc x2⟩], .u 8 3000 (.osl 5001 0 x3.length) [⟨5001, 34, 4, x3.length, rows HelloEntry.enc x3⟩], .u 11 4000 (.osl 5001 0 x4.length) [⟨5001, 111, 5, x4.length, rows HelloRoute.enc x4⟩]] 13 [] [0, 1, 3, 0, 8, 31, 0, 64, 255, 0, 512, 2047, 1759] [8191, 16383, 32767, 65535, 131071, 262143, 524287] ?_
  conv => whnf
  refine And.intro (callD_any (impl_clone_HelloKey_c hx1) (by kernel_rfl)) ?_
  conv => whnf
  refine And.intro (callD_any (impl_clone_HelloEntry_c hx2) (by kernel_rfl)) ?_
  conv => whnf
  refine And.intro (callD_any (impl_clone_HelloEntry_c hx3) (by kernel_rfl)) ?_
  conv => whnf
  refine And.intro (callD_any (impl_clone_HelloRoute_c hx4) (by kernel_rfl)) ?_
  conv => whnf
  refine And.intro (by kernel_rfl) ?_
  conv => whnf
  obtain rfl := Option.some.inj h
  exact lfP [.s [(5001, 6001), (5002, 7001), (5003, 8001), (5004, 9001), (6001, 5001), (7001, 5002), (8001, 5003), (9001, 5004)]]

noncomputable def impl_HelloEnd_dropStale_1_m (a0 : HelloRoute) : Option (Bool) :=
 some a0.Stale

theorem impl_HelloEnd_dropStale_1_c {a0 : HelloRoute} {r : Bool} (h : impl_HelloEnd_dropStale_1_m a0 = some r) : PureC Try.prog 135 [.agg [.d (.int .i64 a0.Entry.Addr), .d (.int .i64 a0.Entry.Len), .d (.int .i64 a0.Entry.Cost), .d (.int .i64 a0.Entry.Label), .d (.bool a0.Stale)]] (.d (.bool r)) [] := by
  refine pureC_x tOk (fn := Try.f135) (c := codeOf Try.f135) rfl rfl ?_
  unfold impl_HelloEnd_dropStale_1_m at h
  conv => whnf
  obtain rfl := Option.some.inj h
  exact lfP []

noncomputable def slices_IndexFunc_HelloRoute_HelloRoute_impl_HelloEnd_dropStale_1_m (a0 : (List HelloRoute)) : Option (Int) :=
 bd (lp (σ := Int) (β := (Int ⊕ Unit)) (fun s1 =>
(if (decide (s1 < ((a0.length : Nat) : Int))) = true then
 gd ((0 : Int) ≤ s1 ∧ s1 < ((a0.length : Nat) : Int)) <|
 bd (impl_HelloEnd_dropStale_1_m (⟨((a0.getD s1.toNat default).Entry), (a0.getD s1.toNat default).Stale⟩ : HelloRoute)) fun x6 =>
(if x6 = true then
 some (.inr (.inl s1))
else
 some (.inl (IntKind.i64.wrap (s1 + 1))))
else
 some (.inr (.inr ())))) 0) fun x4 =>
(match x4 with
| .inl d7 =>
 some d7
| .inr d8 =>
 some (-1))

theorem slices_IndexFunc_HelloRoute_HelloRoute_impl_HelloEnd_dropStale_1_c {a0 : (List HelloRoute)} {r : Int} (h : slices_IndexFunc_HelloRoute_HelloRoute_impl_HelloEnd_dropStale_1_m a0 = some r) : PureC Try.prog 156 [.d (slD HelloRoute.enc a0), .fn 135 []] (.d (.int .i64 r)) [] := by
  refine pureC_x tOk (fn := Try.f156) (c := codeOf Try.f156) rfl rfl ?_
  unfold slices_IndexFunc_HelloRoute_HelloRoute_impl_HelloEnd_dropStale_1_m at h
  conv => whnf
  refine seq_in tOk ?_
  conv => whnf
  obtain ⟨x4, hx4, h⟩ := bd_some h
  refine loop_m tOk hx4 (fun s1 => ⟨0, 19, [(0, .d (slD HelloRoute.enc a0)), (1, .fn 135 []), (7, .d (.int .i64 ((a0.length : Nat) : Int))), (8, .d (.int .i64 s1))], [], [], []⟩) ?_ ?_
  · exact leX []
  · clear hx4
    intro s1 y2 g3 hy2
    conv => whnf
    refine seq_in tOk ?_
    conv => whnf
    refine andI g3 (fun _ g3 => ?_) (fun _ g3 => ?_)
    · conv => whnf
      refine seq_in tOk ?_
      conv => whnf
      refine gdI g3 (fun g3 => ?_)
      conv => whnf
      obtain ⟨x6, hx6, g3⟩ := bd_some g3
      refine cC 0 (impl_HelloEnd_dropStale_1_c hx6) ?_
      clear hx6
      conv => whnf
      refine andI g3 (fun _ g3 => ?_) (fun _ g3 => ?_)
      · conv => whnf
        obtain rfl := Option.some.inj g3
        obtain rfl := hy2 _ rfl
        obtain rfl := Option.some.inj h
        exact lfP []
      · conv => whnf
        obtain rfl := Option.some.inj g3
        exact ⟨_, rfl, leX []⟩
    · conv => whnf
      obtain rfl := Option.some.inj g3
      obtain rfl := hy2 _ rfl
      obtain rfl := Option.some.inj h
      exact lfP []

noncomputable def slices_DeleteFunc_HelloRoute_HelloRoute_impl_HelloEnd_dropStale_1_o00_m (a0 : (List HelloRoute)) : Option ((List HelloRoute)) :=
 bd (slices_IndexFunc_HelloRoute_HelloRoute_impl_HelloEnd_dropStale_1_m a0) fun x1 =>
(if (x1 == (-1)) = true then
 some a0
else
 bd (lp (σ := List HelloRoute × Int × Int) (β := (Nat × Int × (List HelloRoute))) (fun s2 =>
(if (decide (s2.2.2 < ((s2.1.length : Nat) : Int))) = true then
 gd ((0 : Int) ≤ s2.2.2 ∧ s2.2.2 < ((s2.1.length : Nat) : Int)) <|
 bd (impl_HelloEnd_dropStale_1_m (⟨((s2.1.getD s2.2.2.toNat default).Entry), (s2.1.getD s2.2.2.toNat default).Stale⟩ : HelloRoute)) fun x7 =>
(if (!x7) = true then
 gd ((0 : Int) ≤ s2.2.1 ∧ s2.2.1 < ((s2.1.length : Nat) : Int)) <|
 bd (some (s2.1.set s2.2.1.toNat (⟨((s2.1.getD s2.2.2.toNat default).Entry), (s2.1.getD s2.2.2.toNat default).Stale⟩ : HelloRoute))) fun x9 =>
 some (.inl (x9, IntKind.i64.wrap (s2.2.1 + 1), IntKind.i64.wrap (s2.2.2 + 1)))
else
 some (.inl (s2.1, s2.2.1, IntKind.i64.wrap (s2.2.2 + 1))))
else
 some (.inr (s2.1.length, s2.2.1, s2.1)))) (a0, x1, IntKind.i64.wrap (x1 + 1))) fun x5 =>
 gd ((0 : Int) ≤ x5.2.1 ∧ x5.2.1 ≤ ((x5.1 : Nat) : Int) ∧ ((x5.1 : Nat) : Int) ≤ ((x5.1 : Nat) : Int)) <|
 gd ((0 : Int) ≤ (0 : Int) ∧ (0 : Int) ≤ x5.2.1 ∧ x5.2.1 ≤ ((x5.1 : Nat) : Int)) <|
 some ((clrL x5.2.2 x5.2.1.toNat (dsub ((x5.1 : Nat) : Int) x5.2.1)).take x5.2.1.toNat))

theorem slices_DeleteFunc_HelloRoute_HelloRoute_impl_HelloEnd_dropStale_1_o00_c {a0 : (List HelloRoute)} {r : (List HelloRoute)} (h : slices_DeleteFunc_HelloRoute_HelloRoute_impl_HelloEnd_dropStale_1_o00_m a0 = some r) : EffC Try.prog 134 [.osl 9000 0 a0.length, .fn 135 []] [(9000, .arr 111 5 a0.length (rows HelloRoute.enc a0))] (.osl 5001 0 r.length) [(5001, .arr 111 5 r.length (rows HelloRoute.enc r))] := by
  refine effC_x tOk (fn := Try.f134) (c := codeOf Try.f134) rfl rfl ?_
  unfold slices_DeleteFunc_HelloRoute_HelloRoute_impl_HelloEnd_dropStale_1_o00_m at h
  conv => whnf
  obtain ⟨x1, hx1, h⟩ := bd_some h
  refine cC 0 (slices_IndexFunc_HelloRoute_HelloRoute_impl_HelloEnd_dropStale_1_c hx1) ?_
  clear hx1
  conv => whnf
  refine seq_in tOk ?_
  conv => whnf
  refine andI h (fun _ h => ?_) (fun _ h => ?_)
  · conv => whnf
    obtain rfl := Option.some.inj h
    exact lfE [.s [(5001, 9000), (9000, 5001)]]
  · conv => whnf
    refine seq_in tOk ?_
    conv => whnf
    obtain ⟨x5, hx5, h⟩ := bd_some h
    refine loop_m tOk hx5 (fun s2 => ⟨0, 42, [(0, .osl 9000 0 s2.1.length), (1, .fn 135 []), (5, .d (.int .i64 s2.2.1)), (6, .d (.int .i64 s2.2.2))], [], [(9000, .arr 111 5 s2.1.length (rows HelloRoute.enc s2.1))], [⟨[], []⟩]⟩) ?_ ?_
    · exact leX []
    · clear hx5
      intro s2 y3 g4 hy3
      conv => whnf
      refine seq_in tOk ?_
      conv => whnf
      refine andI g4 (fun _ g4 => ?_) (fun _ g4 => ?_)
      · conv => whnf
        refine seq_in tOk ?_
        conv => whnf
        refine gdI g4 (fun g4 => ?_)
        conv => whnf
        obtain ⟨x7, hx7, g4⟩ := bd_some g4
        refine cC 0 (impl_HelloEnd_dropStale_1_c hx7) ?_
        clear hx7
        conv => whnf
        refine andI g4 (fun _ g4 => ?_) (fun _ g4 => ?_)
        · conv => whnf
          refine gdI g4 (fun g4 => ?_)
          conv => whnf
          obtain ⟨x9, hx9, hlx9, g4⟩ := bd_set g4
          refine setS (enc := HelloRoute.enc) hx9 ?_
          conv => whnf
          obtain rfl := Option.some.inj g4
          exact ⟨_, rfl, leX []⟩
        · conv => whnf
          obtain rfl := Option.some.inj g4
          exact ⟨_, rfl, leX []⟩
      · conv => whnf
        obtain rfl := Option.some.inj g4
        obtain rfl := hy3 _ rfl
        dsimp only at h
        obtain ⟨g11, h⟩ := gd_some h
        refine And.intro g11 ?_
        conv => whnf
        refine ⟨rows HelloRoute.enc (clrL (s2.1.length, s2.2.1, s2.1).2.2 (s2.1.length, s2.2.1, s2.1).2.1.toNat (dsub (((s2.1.length, s2.2.1, s2.1).1 : Nat) : Int) (s2.1.length, s2.2.1, s2.1).2.1)), clr_rows lenA rfl, ?_⟩
        conv => whnf
        obtain ⟨g12, h⟩ := gd_some h
        refine And.intro g12 ?_
        conv => whnf
        obtain rfl := Option.some.inj h
        exact lfE [.c 4, .s [(5001, 9000), (9000, 5001)]]

noncomputable def impl_HelloEnd_beginAnew_r02_04_k016_m (a0 : HelloEnd) : Option (HelloEnd) :=
 bd (lp (σ := List HelloRoute × Int) (β := (Nat × (List HelloRoute))) (fun s1 =>
(if (decide (s1.2 < ((a0.Heard.length : Nat) : Int))) = true then
 gd ((0 : Int) ≤ s1.2 ∧ s1.2 < ((s1.1.length : Nat) : Int)) <|
 some (.inl (s1.1.set s1.2.toNat (⟨((s1.1.getD s1.2.toNat default).Entry), true⟩ : HelloRoute), IntKind.i64.wrap (s1.2 + 1)))
else
 some (.inr (s1.1.length, s1.1)))) (a0.Heard, 0)) fun x4 =>
(if ((decide (((x4.1 : Nat) : Int) > 0)) && (a0.Keep == 0)) = true then
 some ({ a0 with Up := false, Num := 0, Under := (⟨0, (⟨0, 0, 0, 0⟩ : HelloEntry)⟩ : HelloChange), Told := [], All := false, Got := 0, Full := false, Heard := x4.2, Keep := 6 })
else
 some ({ a0 with Up := false, Num := 0, Under := (⟨0, (⟨0, 0, 0, 0⟩ : HelloEntry)⟩ : HelloChange), Told := [], All := false, Got := 0, Full := false, Heard := x4.2 }))

theorem impl_HelloEnd_beginAnew_r02_04_k016_c {a0 : HelloEnd} {r : HelloEnd} (h : impl_HelloEnd_beginAnew_r02_04_k016_m a0 = some r) : EffC Try.prog 136 [.ref 9000 0 0] [(9000, .box 39 [.d (.int .i64 a0.Name), .d (.int .i64 a0.Peer), .osl 9001 0 a0.Keys.length, .d (.int .i64 a0.Boot), .osl 9002 0 a0.Want.length, .d (.int .i64 a0.Turn), .d (.int .i64 a0.PeerBoot), .d (.int .i64 a0.PeerTurn), .d (.bool a0.Up), .d (.int .i64 a0.Left), .d (.int .i64 a0.Num), .d (.int .i64 a0.Under.Kind), .d (.int .i64 a0.Under.Entry.Addr), .d (.int .i64 a0.Under.Entry.Len), .d (.int .i64 a0.Under.Entry.Cost), .d (.int .i64 a0.Under.Entry.Label), .d (slD HelloEntry.enc a0.Told), .d (.bool a0.All), .d (.int .i64 a0.Got), .d (.bool a0.Full), .osl 9003 0 a0.Heard.length, .d (.int .i64 a0.Keep)]), (9001, .arr 113 2 a0.Keys.length (rows HelloKey.enc a0.Keys)), (9002, .arr 34 4 a0.Want.length (rows HelloEntry.enc a0.Want)), (9003, .arr 111 5 a0.Heard.length (rows HelloRoute.enc a0.Heard))] (.tup []) [(9000, .box 39 [.d (.int .i64 a0.Name), .d (.int .i64 a0.Peer), .osl 5001 0 r.Keys.length, .d (.int .i64 a0.Boot), .osl 5002 0 r.Want.length, .d (.int .i64 a0.Turn), .d (.int .i64 a0.PeerBoot), .d (.int .i64 a0.PeerTurn), .d (.bool r.Up), .d (.int .i64 a0.Left), .d (.int .i64 r.Num), .d (.int .i64 r.Under.Kind), .d (.int .i64 r.Under.Entry.Addr), .d (.int .i64 r.Under.Entry.Len), .d (.int .i64 r.Under.Entry.Cost), .d (.int .i64 r.Under.Entry.Label), .osl 5003 0 r.Told.length, .d (.bool r.All), .d (.int .i64 r.Got), .d (.bool r.Full), .osl 5004 0 r.Heard.length, .d (.int .i64 r.Keep)]), (5001, .arr 113 2 r.Keys.length (rows HelloKey.enc r.Keys)), (5002, .arr 34 4 r.Want.length (rows HelloEntry.enc r.Want)), (5003, .arr 34 4 r.Told.length (rows HelloEntry.enc r.Told)), (5004, .arr 111 5 r.Heard.length (rows HelloRoute.enc r.Heard))] := by
  refine effC_x tOk (fn := Try.f136) (c := codeOf Try.f136) rfl rfl ?_
  unfold impl_HelloEnd_beginAnew_r02_04_k016_m at h
  conv => whnf
  refine seq_in tOk ?_
  conv => whnf
  obtain ⟨x4, hx4, h⟩ := bd_some h
  refine loop_m tOk hx4 (fun s1 => ⟨0, 57, [(0, .ref 9000 0 0), (29, .d (.int .i64 ((a0.Heard.length : Nat) : Int))), (30, .d (.int .i64 s1.2))], [], [(9000, .box 39 [.d (.int .i64 a0.Name), .d (.int .i64 a0.Peer), .osl 9001 0 a0.Keys.length, .d (.int .i64 a0.Boot), .osl 9002 0 a0.Want.length, .d (.int .i64 a0.Turn), .d (.int .i64 a0.PeerBoot), .d (.int .i64 a0.PeerTurn), .d (.bool false), .d (.int .i64 a0.Left), .d (.int .i64 0), .d (.int .i64 0), .d (.int .i64 0), .d (.int .i64 0), .d (.int .i64 0), .d (.int .i64 0), .d (.nil), .d (.bool false), .d (.int .i64 0), .d (.bool false), .osl 9003 0 s1.1.length, .d (.int .i64 a0.Keep)]), (9001, .arr 113 2 a0.Keys.length (rows HelloKey.enc a0.Keys)), (9002, .arr 34 4 a0.Want.length (rows HelloEntry.enc a0.Want)), (9003, .arr 111 5 s1.1.length (rows HelloRoute.enc s1.1))], [⟨[(0, .ref 9000 0 0)], []⟩]⟩) ?_ ?_
  · exact leX []
  · clear hx4
    intro s1 y2 g3 hy2
    conv => whnf
    refine seq_in tOk ?_
    conv => whnf
    refine andI g3 (fun _ g3 => ?_) (fun _ g3 => ?_)
    · conv => whnf
      refine seq_in tOk ?_
      conv => whnf
      refine gdI g3 (fun g3 => ?_)
      conv => whnf
      refine ⟨rows HelloRoute.enc (s1.1.set s1.2.toNat (⟨((s1.1.getD s1.2.toNat default).Entry), true⟩ : HelloRoute)), store_rows' lenA rfl, ?_⟩
      conv => whnf
      obtain rfl := Option.some.inj g3
      exact ⟨_, rfl, leX []⟩
    · conv => whnf
      obtain rfl := Option.some.inj g3
      obtain rfl := hy2 _ rfl
      refine andI h (fun _ h => ?_) (fun _ h => ?_)
      · conv => whnf
        obtain rfl := Option.some.inj h
        exact lfE [.s [(5001, 9001), (5002, 9002), (5004, 9003), (9001, 5001), (9002, 5002), (9003, 5004)], .p 5003 34 4 (rows HelloEntry.enc ([] : List HelloEntry))]
      · conv => whnf
        obtain rfl := Option.some.inj h
        exact lfE [.s [(5001, 9001), (5002, 9002), (5004, 9003), (9001, 5001), (9002, 5002), (9003, 5004)], .p 5003 34 4 (rows HelloEntry.enc ([] : List HelloEntry))]

noncomputable def impl_HelloEnd_nextLife_r02_04_k02_04_016_m (a0 : HelloEnd) : Option (HelloEnd) :=
 bd (impl_HelloEnd_beginAnew_r02_04_k016_m ({ a0 with Boot := (if 1000 < (IntKind.i64.wrap (a0.Boot + 1)) then 1000 else IntKind.i64.wrap (a0.Boot + 1)), Turn := 0, Left := 0 })) fun x1 =>
 some ({ x1 with Name := a0.Name, Peer := a0.Peer, Boot := (if 1000 < (IntKind.i64.wrap (a0.Boot + 1)) then 1000 else IntKind.i64.wrap (a0.Boot + 1)), Turn := 0, PeerBoot := a0.PeerBoot, PeerTurn := a0.PeerTurn, Left := 0 })

theorem impl_HelloEnd_nextLife_r02_04_k02_04_016_c {a0 : HelloEnd} {r : HelloEnd} (h : impl_HelloEnd_nextLife_r02_04_k02_04_016_m a0 = some r) : EffC Try.prog 92 [.ref 9000 0 0] [(9000, .box 39 [.d (.int .i64 a0.Name), .d (.int .i64 a0.Peer), .osl 9001 0 a0.Keys.length, .d (.int .i64 a0.Boot), .osl 9002 0 a0.Want.length, .d (.int .i64 a0.Turn), .d (.int .i64 a0.PeerBoot), .d (.int .i64 a0.PeerTurn), .d (.bool a0.Up), .d (.int .i64 a0.Left), .d (.int .i64 a0.Num), .d (.int .i64 a0.Under.Kind), .d (.int .i64 a0.Under.Entry.Addr), .d (.int .i64 a0.Under.Entry.Len), .d (.int .i64 a0.Under.Entry.Cost), .d (.int .i64 a0.Under.Entry.Label), .d (slD HelloEntry.enc a0.Told), .d (.bool a0.All), .d (.int .i64 a0.Got), .d (.bool a0.Full), .osl 9003 0 a0.Heard.length, .d (.int .i64 a0.Keep)]), (9001, .arr 113 2 a0.Keys.length (rows HelloKey.enc a0.Keys)), (9002, .arr 34 4 a0.Want.length (rows HelloEntry.enc a0.Want)), (9003, .arr 111 5 a0.Heard.length (rows HelloRoute.enc a0.Heard))] (.tup []) [(9000, .box 39 [.d (.int .i64 a0.Name), .d (.int .i64 a0.Peer), .osl 5001 0 r.Keys.length, .d (.int .i64 r.Boot), .osl 5002 0 r.Want.length, .d (.int .i64 r.Turn), .d (.int .i64 a0.PeerBoot), .d (.int .i64 a0.PeerTurn), .d (.bool r.Up), .d (.int .i64 r.Left), .d (.int .i64 r.Num), .d (.int .i64 r.Under.Kind), .d (.int .i64 r.Under.Entry.Addr), .d (.int .i64 r.Under.Entry.Len), .d (.int .i64 r.Under.Entry.Cost), .d (.int .i64 r.Under.Entry.Label), .osl 5003 0 r.Told.length, .d (.bool r.All), .d (.int .i64 r.Got), .d (.bool r.Full), .osl 5004 0 r.Heard.length, .d (.int .i64 r.Keep)]), (5001, .arr 113 2 r.Keys.length (rows HelloKey.enc r.Keys)), (5002, .arr 34 4 r.Want.length (rows HelloEntry.enc r.Want)), (5003, .arr 34 4 r.Told.length (rows HelloEntry.enc r.Told)), (5004, .arr 111 5 r.Heard.length (rows HelloRoute.enc r.Heard))] := by
  refine effC_x tOk (fn := Try.f92) (c := codeOf Try.f92) rfl rfl ?_
  unfold impl_HelloEnd_nextLife_r02_04_k02_04_016_m at h
  conv => whnf
  obtain ⟨x1, hx1, h⟩ := bd_some h
  refine cE2 [(9000, 9000), (9001, 9001), (9002, 9002), (9003, 9003)] 1000 (impl_HelloEnd_beginAnew_r02_04_k016_c hx1) ?_
  conv => whnf
  obtain rfl := Option.some.inj h
  exact lfE [.s [(5001, 6001), (5002, 6002), (5003, 6003), (5004, 6004), (6001, 5001), (6002, 5002), (6003, 5003), (6004, 5004)]]

noncomputable def impl_HelloEnd_dropStale_r02_04_016_k020_m (a0 : HelloEnd) : Option (HelloEnd) :=
 bd (slices_DeleteFunc_HelloRoute_HelloRoute_impl_HelloEnd_dropStale_1_o00_m a0.Heard) fun x1 =>
 some ({ a0 with Heard := x1 })

theorem impl_HelloEnd_dropStale_r02_04_016_k020_c {a0 : HelloEnd} {r : HelloEnd} (h : impl_HelloEnd_dropStale_r02_04_016_k020_m a0 = some r) : EffC Try.prog 91 [.ref 9000 0 0] [(9000, .box 39 [.d (.int .i64 a0.Name), .d (.int .i64 a0.Peer), .osl 9001 0 a0.Keys.length, .d (.int .i64 a0.Boot), .osl 9002 0 a0.Want.length, .d (.int .i64 a0.Turn), .d (.int .i64 a0.PeerBoot), .d (.int .i64 a0.PeerTurn), .d (.bool a0.Up), .d (.int .i64 a0.Left), .d (.int .i64 a0.Num), .d (.int .i64 a0.Under.Kind), .d (.int .i64 a0.Under.Entry.Addr), .d (.int .i64 a0.Under.Entry.Len), .d (.int .i64 a0.Under.Entry.Cost), .d (.int .i64 a0.Under.Entry.Label), .osl 9003 0 a0.Told.length, .d (.bool a0.All), .d (.int .i64 a0.Got), .d (.bool a0.Full), .osl 9004 0 a0.Heard.length, .d (.int .i64 a0.Keep)]), (9001, .arr 113 2 a0.Keys.length (rows HelloKey.enc a0.Keys)), (9002, .arr 34 4 a0.Want.length (rows HelloEntry.enc a0.Want)), (9003, .arr 34 4 a0.Told.length (rows HelloEntry.enc a0.Told)), (9004, .arr 111 5 a0.Heard.length (rows HelloRoute.enc a0.Heard))] (.tup []) [(9000, .box 39 [.d (.int .i64 a0.Name), .d (.int .i64 a0.Peer), .osl 5001 0 r.Keys.length, .d (.int .i64 a0.Boot), .osl 5002 0 r.Want.length, .d (.int .i64 a0.Turn), .d (.int .i64 a0.PeerBoot), .d (.int .i64 a0.PeerTurn), .d (.bool a0.Up), .d (.int .i64 a0.Left), .d (.int .i64 a0.Num), .d (.int .i64 a0.Under.Kind), .d (.int .i64 a0.Under.Entry.Addr), .d (.int .i64 a0.Under.Entry.Len), .d (.int .i64 a0.Under.Entry.Cost), .d (.int .i64 a0.Under.Entry.Label), .osl 5003 0 r.Told.length, .d (.bool a0.All), .d (.int .i64 a0.Got), .d (.bool a0.Full), .osl 5004 0 r.Heard.length, .d (.int .i64 a0.Keep)]), (5001, .arr 113 2 r.Keys.length (rows HelloKey.enc r.Keys)), (5002, .arr 34 4 r.Want.length (rows HelloEntry.enc r.Want)), (5003, .arr 34 4 r.Told.length (rows HelloEntry.enc r.Told)), (5004, .arr 111 5 r.Heard.length (rows HelloRoute.enc r.Heard))] := by
  refine effC_x tOk (fn := Try.f91) (c := codeOf Try.f91) rfl rfl ?_
  unfold impl_HelloEnd_dropStale_r02_04_016_k020_m at h
  conv => whnf
  obtain ⟨x1, hx1, h⟩ := bd_some h
  refine cE [(9000, 9004)] 1000 (slices_DeleteFunc_HelloRoute_HelloRoute_impl_HelloEnd_dropStale_1_o00_c hx1) ?_
  conv => whnf
  obtain rfl := Option.some.inj h
  exact lfE [.s [(5001, 9001), (5002, 9002), (5003, 9003), (5004, 6001), (6001, 5004), (9001, 5001), (9002, 5002), (9003, 5003)]]

noncomputable def impl_HelloEnd_tick_r02_04_k02_04_016_m (a0 : HelloEnd) : Option (HelloEnd) :=
 bd (α := List HelloKey × List HelloEntry × List HelloEntry × List HelloRoute × Int) ((if (decide (a0.Keep > 0)) = true then
(if ((IntKind.i64.wrap (a0.Keep - 1)) == 0) = true then
 bd (impl_HelloEnd_dropStale_r02_04_016_k020_m ({ a0 with Keep := IntKind.i64.wrap (a0.Keep - 1) })) fun x4 =>
 some (x4.Keys, x4.Want, x4.Told, x4.Heard, IntKind.i64.wrap (a0.Keep - 1))
else
 some (a0.Keys, a0.Want, a0.Told, a0.Heard, IntKind.i64.wrap (a0.Keep - 1)))
else
 some (a0.Keys, a0.Want, a0.Told, a0.Heard, a0.Keep))) fun x1 =>
(if (decide (a0.Left > 0)) = true then
(if ((IntKind.i64.wrap (a0.Left - 1)) == 0) = true then
 bd (impl_HelloEnd_nextLife_r02_04_k02_04_016_m ({ a0 with Keys := x1.1, Want := x1.2.1, Left := IntKind.i64.wrap (a0.Left - 1), Told := x1.2.2.1, Heard := x1.2.2.2.1, Keep := x1.2.2.2.2 })) fun x5 =>
 some ({ x5 with Name := a0.Name, Peer := a0.Peer, PeerBoot := a0.PeerBoot, PeerTurn := a0.PeerTurn })
else
 some ({ a0 with Keys := x1.1, Want := x1.2.1, Left := IntKind.i64.wrap (a0.Left - 1), Told := x1.2.2.1, Heard := x1.2.2.2.1, Keep := x1.2.2.2.2 }))
else
 some ({ a0 with Keys := x1.1, Want := x1.2.1, Told := x1.2.2.1, Heard := x1.2.2.2.1, Keep := x1.2.2.2.2 }))

theorem impl_HelloEnd_tick_r02_04_k02_04_016_c {a0 : HelloEnd} {r : HelloEnd} (h : impl_HelloEnd_tick_r02_04_k02_04_016_m a0 = some r) : EffC Try.prog 34 [.ref 9000 0 0] [(9000, .box 39 [.d (.int .i64 a0.Name), .d (.int .i64 a0.Peer), .osl 9001 0 a0.Keys.length, .d (.int .i64 a0.Boot), .osl 9002 0 a0.Want.length, .d (.int .i64 a0.Turn), .d (.int .i64 a0.PeerBoot), .d (.int .i64 a0.PeerTurn), .d (.bool a0.Up), .d (.int .i64 a0.Left), .d (.int .i64 a0.Num), .d (.int .i64 a0.Under.Kind), .d (.int .i64 a0.Under.Entry.Addr), .d (.int .i64 a0.Under.Entry.Len), .d (.int .i64 a0.Under.Entry.Cost), .d (.int .i64 a0.Under.Entry.Label), .osl 9003 0 a0.Told.length, .d (.bool a0.All), .d (.int .i64 a0.Got), .d (.bool a0.Full), .osl 9004 0 a0.Heard.length, .d (.int .i64 a0.Keep)]), (9001, .arr 113 2 a0.Keys.length (rows HelloKey.enc a0.Keys)), (9002, .arr 34 4 a0.Want.length (rows HelloEntry.enc a0.Want)), (9003, .arr 34 4 a0.Told.length (rows HelloEntry.enc a0.Told)), (9004, .arr 111 5 a0.Heard.length (rows HelloRoute.enc a0.Heard))] (.tup []) [(9000, .box 39 [.d (.int .i64 a0.Name), .d (.int .i64 a0.Peer), .osl 5001 0 r.Keys.length, .d (.int .i64 r.Boot), .osl 5002 0 r.Want.length, .d (.int .i64 r.Turn), .d (.int .i64 a0.PeerBoot), .d (.int .i64 a0.PeerTurn), .d (.bool r.Up), .d (.int .i64 r.Left), .d (.int .i64 r.Num), .d (.int .i64 r.Under.Kind), .d (.int .i64 r.Under.Entry.Addr), .d (.int .i64 r.Under.Entry.Len), .d (.int .i64 r.Under.Entry.Cost), .d (.int .i64 r.Under.Entry.Label), .osl 5003 0 r.Told.length, .d (.bool r.All), .d (.int .i64 r.Got), .d (.bool r.Full), .osl 5004 0 r.Heard.length, .d (.int .i64 r.Keep)]), (5001, .arr 113 2 r.Keys.length (rows HelloKey.enc r.Keys)), (5002, .arr 34 4 r.Want.length (rows HelloEntry.enc r.Want)), (5003, .arr 34 4 r.Told.length (rows HelloEntry.enc r.Told)), (5004, .arr 111 5 r.Heard.length (rows HelloRoute.enc r.Heard))] := by
  refine effC_x tOk (fn := Try.f34) (c := codeOf Try.f34) rfl rfl ?_
  unfold impl_HelloEnd_tick_r02_04_k02_04_016_m at h
  conv => whnf
  obtain ⟨x1, hx1, h⟩ := bd_some h
  refine seq_join tOk (fun s2 => ⟨0, 40, [(0, .ref 9000 0 0)], [], [(6001, .arr 113 2 s2.1.length (rows HelloKey.enc s2.1)), (6002, .arr 34 4 s2.2.1.length (rows HelloEntry.enc s2.2.1)), (6003, .arr 34 4 s2.2.2.1.length (rows HelloEntry.enc s2.2.2.1)), (6004, .arr 111 5 s2.2.2.2.1.length (rows HelloRoute.enc s2.2.2.2.1)), (9000, .box 39 [.d (.int .i64 a0.Name), .d (.int .i64 a0.Peer), .osl 6001 0 s2.1.length, .d (.int .i64 a0.Boot), .osl 6002 0 s2.2.1.length, .d (.int .i64 a0.Turn), .d (.int .i64 a0.PeerBoot), .d (.int .i64 a0.PeerTurn), .d (.bool a0.Up), .d (.int .i64 a0.Left), .d (.int .i64 a0.Num), .d (.int .i64 a0.Under.Kind), .d (.int .i64 a0.Under.Entry.Addr), .d (.int .i64 a0.Under.Entry.Len), .d (.int .i64 a0.Under.Entry.Cost), .d (.int .i64 a0.Under.Entry.Label), .osl 6003 0 s2.2.2.1.length, .d (.bool a0.All), .d (.int .i64 a0.Got), .d (.bool a0.Full), .osl 6004 0 s2.2.2.2.1.length, .d (.int .i64 s2.2.2.2.2)])], [⟨[(0, .ref 9000 0 0)], []⟩]⟩) (fun s2 => x1 = s2) ?_ ?_
  · conv => whnf
    refine andI hx1 (fun _ hx1 => ?_) (fun _ hx1 => ?_)
    · conv => whnf
      refine andI hx1 (fun _ hx1 => ?_) (fun _ hx1 => ?_)
      · conv => whnf
        obtain ⟨x4, hx4, hx1⟩ := bd_some hx1
        refine cE2 [(9000, 9000), (9001, 9001), (9002, 9002), (9003, 9003), (9004, 9004)] 1000 (impl_HelloEnd_dropStale_r02_04_016_k020_c hx4) ?_
        conv => whnf
        obtain rfl := Option.some.inj hx1
        exact ⟨_, rfl, leX []⟩
      · conv => whnf
        obtain rfl := Option.some.inj hx1
        exact ⟨_, rfl, leX [.s [(6001, 9001), (6002, 9002), (6003, 9003), (6004, 9004), (9001, 6001), (9002, 6002), (9003, 6003), (9004, 6004)]]⟩
    · conv => whnf
      obtain rfl := Option.some.inj hx1
      exact ⟨_, rfl, leX [.s [(6001, 9001), (6002, 9002), (6003, 9003), (6004, 9004), (9001, 6001), (9002, 6002), (9003, 6003), (9004, 6004)]]⟩
  · rintro _ rfl
    conv => whnf
    refine andI h (fun _ h => ?_) (fun _ h => ?_)
    · conv => whnf
      refine andI h (fun _ h => ?_) (fun _ h => ?_)
      · conv => whnf
        obtain ⟨x5, hx5, h⟩ := bd_some h
        refine callFz [6003] ?_
        conv => whnf
        refine cE2 [(9000, 9000), (9001, 6001), (9002, 6002), (9003, 6004)] 2000 (impl_HelloEnd_nextLife_r02_04_k02_04_016_c hx5) ?_
        conv => whnf
        obtain rfl := Option.some.inj h
        exact lfE [.s [(5001, 7001), (5002, 7002), (5003, 7003), (5004, 7004), (7001, 5001), (7002, 5002), (7003, 5003), (7004, 5004)]]
      · conv => whnf
        obtain rfl := Option.some.inj h
        exact lfE [.s [(5001, 6001), (5002, 6002), (5003, 6003), (5004, 6004), (6001, 5001), (6002, 5002), (6003, 5003), (6004, 5004)]]
    · conv => whnf
      obtain rfl := Option.some.inj h
      exact lfE [.s [(5001, 6001), (5002, 6002), (5003, 6003), (5004, 6004), (6001, 5001), (6002, 5002), (6003, 5003), (6004, 5004)]]

noncomputable def impl_HelloTick_pu_o02_04_016_020_m (a0 : HelloEnd) : Option (HelloEnd) :=
 bd (impl_HelloEndOk_m a0) fun x1 =>
(if (!x1) = true then
 some (⟨0, 0, [], 0, [], 0, 0, 0, false, 0, 0, (⟨0, (⟨0, 0, 0, 0⟩ : HelloEntry)⟩ : HelloChange), [], false, 0, false, [], 0⟩ : HelloEnd)
else
 bd (impl_copyEnd_m a0) fun x2 =>
 bd (impl_HelloEnd_tick_r02_04_k02_04_016_m x2) fun x3 =>
 some ({ x3 with Name := x2.Name, Peer := x2.Peer, PeerBoot := x2.PeerBoot, PeerTurn := x2.PeerTurn }))

theorem impl_HelloTick_pu_o02_04_016_020_c {a0 : HelloEnd} {r : HelloEnd} (h : impl_HelloTick_pu_o02_04_016_020_m a0 = some r) : PureC Try.prog 8 [.agg [.d (.int .i64 a0.Name), .d (.int .i64 a0.Peer), .d (slD HelloKey.enc a0.Keys), .d (.int .i64 a0.Boot), .d (slD HelloEntry.enc a0.Want), .d (.int .i64 a0.Turn), .d (.int .i64 a0.PeerBoot), .d (.int .i64 a0.PeerTurn), .d (.bool a0.Up), .d (.int .i64 a0.Left), .d (.int .i64 a0.Num), .d (.int .i64 a0.Under.Kind), .d (.int .i64 a0.Under.Entry.Addr), .d (.int .i64 a0.Under.Entry.Len), .d (.int .i64 a0.Under.Entry.Cost), .d (.int .i64 a0.Under.Entry.Label), .d (slD HelloEntry.enc a0.Told), .d (.bool a0.All), .d (.int .i64 a0.Got), .d (.bool a0.Full), .d (slD HelloRoute.enc a0.Heard), .d (.int .i64 a0.Keep)]] (.agg [.d (.int .i64 r.Name), .d (.int .i64 r.Peer), .osl 5001 0 r.Keys.length, .d (.int .i64 r.Boot), .osl 5002 0 r.Want.length, .d (.int .i64 r.Turn), .d (.int .i64 r.PeerBoot), .d (.int .i64 r.PeerTurn), .d (.bool r.Up), .d (.int .i64 r.Left), .d (.int .i64 r.Num), .d (.int .i64 r.Under.Kind), .d (.int .i64 r.Under.Entry.Addr), .d (.int .i64 r.Under.Entry.Len), .d (.int .i64 r.Under.Entry.Cost), .d (.int .i64 r.Under.Entry.Label), .osl 5003 0 r.Told.length, .d (.bool r.All), .d (.int .i64 r.Got), .d (.bool r.Full), .osl 5004 0 r.Heard.length, .d (.int .i64 r.Keep)]) [⟨5001, 113, 2, r.Keys.length, rows HelloKey.enc r.Keys⟩, ⟨5002, 34, 4, r.Want.length, rows HelloEntry.enc r.Want⟩, ⟨5003, 34, 4, r.Told.length, rows HelloEntry.enc r.Told⟩, ⟨5004, 111, 5, r.Heard.length, rows HelloRoute.enc r.Heard⟩] := by
  refine EffC.pure (M := [(5001, .arr 113 2 r.Keys.length (rows HelloKey.enc r.Keys)), (5002, .arr 34 4 r.Want.length (rows HelloEntry.enc r.Want)), (5003, .arr 34 4 r.Told.length (rows HelloEntry.enc r.Told)), (5004, .arr 111 5 r.Heard.length (rows HelloRoute.enc r.Heard))]) ?_
  refine effC_x tOk (fn := Try.f8) (c := codeOf Try.f8) rfl rfl ?_
  unfold impl_HelloTick_pu_o02_04_016_020_m at h
  conv => whnf
  refine seq_in tOk ?_
  conv => whnf
  obtain ⟨x1, hx1, h⟩ := bd_some h
  refine cC 0 (impl_HelloEndOk_c hx1) ?_
  clear hx1
  conv => whnf
  refine andI h (fun _ h => ?_) (fun _ h => ?_)
  · conv => whnf
    obtain rfl := Option.some.inj h
    exact lfE [.k [1], .p 5001 113 2 (rows HelloKey.enc ([] : List HelloKey)), .p 5002 34 4 (rows HelloEntry.enc ([] : List HelloEntry)), .p 5003 34 4 (rows HelloEntry.enc ([] : List HelloEntry)), .p 5004 111 5 (rows HelloRoute.enc ([] : List HelloRoute))]
  · conv => whnf
    obtain ⟨x2, hx2, h⟩ := bd_some h
    refine cC 1000 (impl_copyEnd_c hx2) ?_
    clear hx2
    conv => whnf
    obtain ⟨x3, hx3, h⟩ := bd_some h
    refine cE2 [(9000, 3), (9001, 6001), (9002, 6002), (9003, 6003), (9004, 6004)] 2000 (impl_HelloEnd_tick_r02_04_k02_04_016_c hx3) ?_
    conv => whnf
    obtain rfl := Option.some.inj h
    exact lfE [.s [(5001, 7001), (5002, 7002), (5003, 7003), (5004, 7004), (7001, 5001), (7002, 5002), (7003, 5003), (7004, 5004)]]

noncomputable def laws_eqHelloKey_m (a0 : HelloKey) (a1 : HelloKey) : Option (Bool) :=
(if (a0.Id != a1.Id) = true then
 some false
else
(if (a0.Secret != a1.Secret) = true then
 some false
else
 some true))

theorem laws_eqHelloKey_c {a0 : HelloKey} {a1 : HelloKey} {r : Bool} (h : laws_eqHelloKey_m a0 a1 = some r) : PureC Try.prog 93 [.agg [.d (.int .i64 a0.Id), .d (.int .i64 a0.Secret)], .agg [.d (.int .i64 a1.Id), .d (.int .i64 a1.Secret)]] (.d (.bool r)) [] := by
  refine pureC_x tOk (fn := Try.f93) (c := codeOf Try.f93) rfl rfl ?_
  unfold laws_eqHelloKey_m at h
  conv => whnf
  refine seq_in tOk ?_
  conv => whnf
  refine andI h (fun _ h => ?_) (fun _ h => ?_)
  · conv => whnf
    obtain rfl := Option.some.inj h
    exact lfP []
  · conv => whnf
    refine seq_in tOk ?_
    conv => whnf
    refine andI h (fun _ h => ?_) (fun _ h => ?_)
    · conv => whnf
      obtain rfl := Option.some.inj h
      exact lfP []
    · conv => whnf
      obtain rfl := Option.some.inj h
      exact lfP []

noncomputable def laws_eqHelloKeyS_m (a0 : (List HelloKey)) (a1 : (List HelloKey)) : Option (Bool) :=
(if (((a0.length : Nat) : Int) != ((a1.length : Nat) : Int)) = true then
 some false
else
 bd (lp (σ := Int) (β := (Unit ⊕ Unit)) (fun s1 =>
(if (decide (s1 < ((a0.length : Nat) : Int))) = true then
 gd ((0 : Int) ≤ s1 ∧ s1 < ((a0.length : Nat) : Int)) <|
 gd ((0 : Int) ≤ s1 ∧ s1 < ((a1.length : Nat) : Int)) <|
 bd (laws_eqHelloKey_m (a0.getD s1.toNat default) (a1.getD s1.toNat default)) fun x7 =>
(if (!x7) = true then
 some (.inr (.inl ()))
else
 some (.inl (IntKind.i64.wrap (s1 + 1))))
else
 some (.inr (.inr ())))) 0) fun x4 =>
(match x4 with
| .inl d8 =>
 some false
| .inr d9 =>
 some true))

theorem laws_eqHelloKeyS_c {a0 : (List HelloKey)} {a1 : (List HelloKey)} {r : Bool} (h : laws_eqHelloKeyS_m a0 a1 = some r) : PureC Try.prog 35 [.d (slD HelloKey.enc a0), .d (slD HelloKey.enc a1)] (.d (.bool r)) [] := by
  refine pureC_x tOk (fn := Try.f35) (c := codeOf Try.f35) rfl rfl ?_
  unfold laws_eqHelloKeyS_m at h
  conv => whnf
  refine seq_in tOk ?_
  conv => whnf
  refine andI h (fun _ h => ?_) (fun _ h => ?_)
  · conv => whnf
    obtain rfl := Option.some.inj h
    exact lfP []
  · conv => whnf
    refine seq_in tOk ?_
    conv => whnf
    obtain ⟨x4, hx4, h⟩ := bd_some h
    refine loop_m tOk hx4 (fun s1 => ⟨0, 27, [(0, .d (slD HelloKey.enc a0)), (1, .d (slD HelloKey.enc a1)), (5, .d (.int .i64 s1))], [], [], []⟩) ?_ ?_
    · exact leX []
    · clear hx4
      intro s1 y2 g3 hy2
      conv => whnf
      refine seq_in tOk ?_
      conv => whnf
      refine andI g3 (fun _ g3 => ?_) (fun _ g3 => ?_)
      · conv => whnf
        refine seq_in tOk ?_
        conv => whnf
        obtain ⟨g5, g3⟩ := gd_some g3
        obtain ⟨g6, g3⟩ := gd_some g3
        obtain ⟨x7, hx7, g3⟩ := bd_some g3
        refine draw_u tOk [.u 8 0 (.d (.bool x7)) []] 10 [] [0, 0, 3, 7, 0, 0, 48, 112, 255, 511] [] ?_
        conv => whnf
        refine And.intro g5 ?_
        clear g5
        conv => whnf
        refine And.intro g6 ?_
        clear g6
        conv => whnf
        refine And.intro (callD_any (laws_eqHelloKey_c hx7) (by kernel_rfl)) ?_
        conv => whnf
        refine And.intro (by kernel_rfl) ?_
        conv => whnf
        refine andI g3 (fun _ g3 => ?_) (fun _ g3 => ?_)
        · conv => whnf
          obtain rfl := Option.some.inj g3
          obtain rfl := hy2 _ rfl
          obtain rfl := Option.some.inj h
          exact lfP []
        · conv => whnf
          obtain rfl := Option.some.inj g3
          exact ⟨_, rfl, leX []⟩
      · conv => whnf
        obtain rfl := Option.some.inj g3
        obtain rfl := hy2 _ rfl
        obtain rfl := Option.some.inj h
        exact lfP []

noncomputable def laws_eqHelloEntry_m (a0 : HelloEntry) (a1 : HelloEntry) : Option (Bool) :=
(if (a0.Addr != a1.Addr) = true then
 some false
else
(if (a0.Len != a1.Len) = true then
 some false
else
(if (a0.Cost != a1.Cost) = true then
 some false
else
(if (a0.Label != a1.Label) = true then
 some false
else
 some true))))

theorem laws_eqHelloEntry_c {a0 : HelloEntry} {a1 : HelloEntry} {r : Bool} (h : laws_eqHelloEntry_m a0 a1 = some r) : PureC Try.prog 94 [.agg [.d (.int .i64 a0.Addr), .d (.int .i64 a0.Len), .d (.int .i64 a0.Cost), .d (.int .i64 a0.Label)], .agg [.d (.int .i64 a1.Addr), .d (.int .i64 a1.Len), .d (.int .i64 a1.Cost), .d (.int .i64 a1.Label)]] (.d (.bool r)) [] := by
  refine pureC_x tOk (fn := Try.f94) (c := codeOf Try.f94) rfl rfl ?_
  unfold laws_eqHelloEntry_m at h
  conv => whnf
  refine seq_in tOk ?_
  conv => whnf
  refine andI h (fun _ h => ?_) (fun _ h => ?_)
  · conv => whnf
    obtain rfl := Option.some.inj h
    exact lfP []
  · conv => whnf
    refine seq_in tOk ?_
    conv => whnf
    refine andI h (fun _ h => ?_) (fun _ h => ?_)
    · conv => whnf
      obtain rfl := Option.some.inj h
      exact lfP []
    · conv => whnf
      refine seq_in tOk ?_
      conv => whnf
      refine andI h (fun _ h => ?_) (fun _ h => ?_)
      · conv => whnf
        obtain rfl := Option.some.inj h
        exact lfP []
      · conv => whnf
        refine seq_in tOk ?_
        conv => whnf
        refine andI h (fun _ h => ?_) (fun _ h => ?_)
        · conv => whnf
          obtain rfl := Option.some.inj h
          exact lfP []
        · conv => whnf
          obtain rfl := Option.some.inj h
          exact lfP []

noncomputable def laws_eqHelloEntryS_m (a0 : (List HelloEntry)) (a1 : (List HelloEntry)) : Option (Bool) :=
(if (((a0.length : Nat) : Int) != ((a1.length : Nat) : Int)) = true then
 some false
else
 bd (lp (σ := Int) (β := (Unit ⊕ Unit)) (fun s1 =>
(if (decide (s1 < ((a0.length : Nat) : Int))) = true then
 gd ((0 : Int) ≤ s1 ∧ s1 < ((a0.length : Nat) : Int)) <|
 gd ((0 : Int) ≤ s1 ∧ s1 < ((a1.length : Nat) : Int)) <|
 bd (laws_eqHelloEntry_m (a0.getD s1.toNat default) (a1.getD s1.toNat default)) fun x7 =>
(if (!x7) = true then
 some (.inr (.inl ()))
else
 some (.inl (IntKind.i64.wrap (s1 + 1))))
else
 some (.inr (.inr ())))) 0) fun x4 =>
(match x4 with
| .inl d8 =>
 some false
| .inr d9 =>
 some true))

theorem laws_eqHelloEntryS_c {a0 : (List HelloEntry)} {a1 : (List HelloEntry)} {r : Bool} (h : laws_eqHelloEntryS_m a0 a1 = some r) : PureC Try.prog 36 [.d (slD HelloEntry.enc a0), .d (slD HelloEntry.enc a1)] (.d (.bool r)) [] := by
  refine pureC_x tOk (fn := Try.f36) (c := codeOf Try.f36) rfl rfl ?_
  unfold laws_eqHelloEntryS_m at h
  conv => whnf
  refine seq_in tOk ?_
  conv => whnf
  refine andI h (fun _ h => ?_) (fun _ h => ?_)
  · conv => whnf
    obtain rfl := Option.some.inj h
    exact lfP []
  · conv => whnf
    refine seq_in tOk ?_
    conv => whnf
    obtain ⟨x4, hx4, h⟩ := bd_some h
    refine loop_m tOk hx4 (fun s1 => ⟨0, 27, [(0, .d (slD HelloEntry.enc a0)), (1, .d (slD HelloEntry.enc a1)), (5, .d (.int .i64 s1))], [], [], []⟩) ?_ ?_
    · exact leX []
    · clear hx4
      intro s1 y2 g3 hy2
      conv => whnf
      refine seq_in tOk ?_
      conv => whnf
      refine andI g3 (fun _ g3 => ?_) (fun _ g3 => ?_)
      · conv => whnf
        refine seq_in tOk ?_
        conv => whnf
        obtain ⟨g5, g3⟩ := gd_some g3
        obtain ⟨g6, g3⟩ := gd_some g3
        obtain ⟨x7, hx7, g3⟩ := bd_some g3
        refine draw_u tOk [.u 8 0 (.d (.bool x7)) []] 10 [] [0, 0, 3, 7, 0, 0, 48, 112, 255, 511] [] ?_
        conv => whnf
        refine And.intro g5 ?_
        clear g5
        conv => whnf
        refine And.intro g6 ?_
        clear g6
        conv => whnf
        refine And.intro (callD_any (laws_eqHelloEntry_c hx7) (by kernel_rfl)) ?_
        conv => whnf
        refine And.intro (by kernel_rfl) ?_
        conv => whnf
        refine andI g3 (fun _ g3 => ?_) (fun _ g3 => ?_)
        · conv => whnf
          obtain rfl := Option.some.inj g3
          obtain rfl := hy2 _ rfl
          obtain rfl := Option.some.inj h
          exact lfP []
        · conv => whnf
          obtain rfl := Option.some.inj g3
          exact ⟨_, rfl, leX []⟩
      · conv => whnf
        obtain rfl := Option.some.inj g3
        obtain rfl := hy2 _ rfl
        obtain rfl := Option.some.inj h
        exact lfP []

noncomputable def laws_eqHelloChange_m (a0 : HelloChange) (a1 : HelloChange) : Option (Bool) :=
(if (a0.Kind != a1.Kind) = true then
 some false
else
 bd (laws_eqHelloEntry_m a0.Entry a1.Entry) fun x1 =>
(if (!x1) = true then
 some false
else
 some true))

theorem laws_eqHelloChange_c {a0 : HelloChange} {a1 : HelloChange} {r : Bool} (h : laws_eqHelloChange_m a0 a1 = some r) : PureC Try.prog 37 [.agg [.d (.int .i64 a0.Kind), .d (.int .i64 a0.Entry.Addr), .d (.int .i64 a0.Entry.Len), .d (.int .i64 a0.Entry.Cost), .d (.int .i64 a0.Entry.Label)], .agg [.d (.int .i64 a1.Kind), .d (.int .i64 a1.Entry.Addr), .d (.int .i64 a1.Entry.Len), .d (.int .i64 a1.Entry.Cost), .d (.int .i64 a1.Entry.Label)]] (.d (.bool r)) [] := by
  refine pureC_x tOk (fn := Try.f37) (c := codeOf Try.f37) rfl rfl ?_
  unfold laws_eqHelloChange_m at h
  conv => whnf
  refine seq_in tOk ?_
  conv => whnf
  refine andI h (fun _ h => ?_) (fun _ h => ?_)
  · conv => whnf
    obtain rfl := Option.some.inj h
    exact lfP []
  · conv => whnf
    refine seq_in tOk ?_
    conv => whnf
    obtain ⟨x1, hx1, h⟩ := bd_some h
    refine cC 0 (laws_eqHelloEntry_c hx1) ?_
    clear hx1
    conv => whnf
    refine andI h (fun _ h => ?_) (fun _ h => ?_)
    · conv => whnf
      obtain rfl := Option.some.inj h
      exact lfP []
    · conv => whnf
      obtain rfl := Option.some.inj h
      exact lfP []

noncomputable def laws_eqHelloRoute_m (a0 : HelloRoute) (a1 : HelloRoute) : Option (Bool) :=
 bd (laws_eqHelloEntry_m a0.Entry a1.Entry) fun x1 =>
(if (!x1) = true then
 some false
else
(if (!(a0.Stale == a1.Stale)) = true then
 some false
else
 some true))

theorem laws_eqHelloRoute_c {a0 : HelloRoute} {a1 : HelloRoute} {r : Bool} (h : laws_eqHelloRoute_m a0 a1 = some r) : PureC Try.prog 95 [.agg [.d (.int .i64 a0.Entry.Addr), .d (.int .i64 a0.Entry.Len), .d (.int .i64 a0.Entry.Cost), .d (.int .i64 a0.Entry.Label), .d (.bool a0.Stale)], .agg [.d (.int .i64 a1.Entry.Addr), .d (.int .i64 a1.Entry.Len), .d (.int .i64 a1.Entry.Cost), .d (.int .i64 a1.Entry.Label), .d (.bool a1.Stale)]] (.d (.bool r)) [] := by
  refine pureC_x tOk (fn := Try.f95) (c := codeOf Try.f95) rfl rfl ?_
  unfold laws_eqHelloRoute_m at h
  conv => whnf
  refine seq_in tOk ?_
  conv => whnf
  obtain ⟨x1, hx1, h⟩ := bd_some h
  refine cC 0 (laws_eqHelloEntry_c hx1) ?_
  clear hx1
  conv => whnf
  refine andI h (fun _ h => ?_) (fun _ h => ?_)
  · conv => whnf
    obtain rfl := Option.some.inj h
    exact lfP []
  · conv => whnf
    refine seq_in tOk ?_
    conv => whnf
    refine andI h (fun _ h => ?_) (fun _ h => ?_)
    · conv => whnf
      obtain rfl := Option.some.inj h
      exact lfP []
    · conv => whnf
      obtain rfl := Option.some.inj h
      exact lfP []

noncomputable def laws_eqHelloRouteS_m (a0 : (List HelloRoute)) (a1 : (List HelloRoute)) : Option (Bool) :=
(if (((a0.length : Nat) : Int) != ((a1.length : Nat) : Int)) = true then
 some false
else
 bd (lp (σ := Int) (β := (Unit ⊕ Unit)) (fun s1 =>
(if (decide (s1 < ((a0.length : Nat) : Int))) = true then
 gd ((0 : Int) ≤ s1 ∧ s1 < ((a0.length : Nat) : Int)) <|
 gd ((0 : Int) ≤ s1 ∧ s1 < ((a1.length : Nat) : Int)) <|
 bd (laws_eqHelloRoute_m (⟨((a0.getD s1.toNat default).Entry), (a0.getD s1.toNat default).Stale⟩ : HelloRoute) (⟨((a1.getD s1.toNat default).Entry), (a1.getD s1.toNat default).Stale⟩ : HelloRoute)) fun x7 =>
(if (!x7) = true then
 some (.inr (.inl ()))
else
 some (.inl (IntKind.i64.wrap (s1 + 1))))
else
 some (.inr (.inr ())))) 0) fun x4 =>
(match x4 with
| .inl d8 =>
 some false
| .inr d9 =>
 some true))

theorem laws_eqHelloRouteS_c {a0 : (List HelloRoute)} {a1 : (List HelloRoute)} {r : Bool} (h : laws_eqHelloRouteS_m a0 a1 = some r) : PureC Try.prog 38 [.d (slD HelloRoute.enc a0), .d (slD HelloRoute.enc a1)] (.d (.bool r)) [] := by
  refine pureC_x tOk (fn := Try.f38) (c := codeOf Try.f38) rfl rfl ?_
  unfold laws_eqHelloRouteS_m at h
  conv => whnf
  refine seq_in tOk ?_
  conv => whnf
  refine andI h (fun _ h => ?_) (fun _ h => ?_)
  · conv => whnf
    obtain rfl := Option.some.inj h
    exact lfP []
  · conv => whnf
    refine seq_in tOk ?_
    conv => whnf
    obtain ⟨x4, hx4, h⟩ := bd_some h
    refine loop_m tOk hx4 (fun s1 => ⟨0, 27, [(0, .d (slD HelloRoute.enc a0)), (1, .d (slD HelloRoute.enc a1)), (5, .d (.int .i64 s1))], [], [], []⟩) ?_ ?_
    · exact leX []
    · clear hx4
      intro s1 y2 g3 hy2
      conv => whnf
      refine seq_in tOk ?_
      conv => whnf
      refine andI g3 (fun _ g3 => ?_) (fun _ g3 => ?_)
      · conv => whnf
        refine seq_in tOk ?_
        conv => whnf
        obtain ⟨g5, g3⟩ := gd_some g3
        obtain ⟨g6, g3⟩ := gd_some g3
        obtain ⟨x7, hx7, g3⟩ := bd_some g3
        refine draw_u tOk [.u 8 0 (.d (.bool x7)) []] 10 [] [0, 0, 3, 7, 0, 0, 48, 112, 255, 511] [] ?_
        conv => whnf
        refine And.intro g5 ?_
        clear g5
        conv => whnf
        refine And.intro g6 ?_
        clear g6
        conv => whnf
        refine And.intro (callD_any (laws_eqHelloRoute_c hx7) (by kernel_rfl)) ?_
        conv => whnf
        refine And.intro (by kernel_rfl) ?_
        conv => whnf
        refine andI g3 (fun _ g3 => ?_) (fun _ g3 => ?_)
        · conv => whnf
          obtain rfl := Option.some.inj g3
          obtain rfl := hy2 _ rfl
          obtain rfl := Option.some.inj h
          exact lfP []
        · conv => whnf
          obtain rfl := Option.some.inj g3
          exact ⟨_, rfl, leX []⟩
      · conv => whnf
        obtain rfl := Option.some.inj g3
        obtain rfl := hy2 _ rfl
        obtain rfl := Option.some.inj h
        exact lfP []

noncomputable def laws_eqHelloEnd_m (a0 : HelloEnd) (a1 : HelloEnd) : Option (Bool) :=
(if (a0.Name != a1.Name) = true then
 some false
else
(if (a0.Peer != a1.Peer) = true then
 some false
else
 bd (laws_eqHelloKeyS_m a0.Keys a1.Keys) fun x1 =>
(if (!x1) = true then
 some false
else
(if (a0.Boot != a1.Boot) = true then
 some false
else
 bd (laws_eqHelloEntryS_m a0.Want a1.Want) fun x2 =>
(if (!x2) = true then
 some false
else
(if (a0.Turn != a1.Turn) = true then
 some false
else
(if (a0.PeerBoot != a1.PeerBoot) = true then
 some false
else
(if (a0.PeerTurn != a1.PeerTurn) = true then
 some false
else
(if (!(a0.Up == a1.Up)) = true then
 some false
else
(if (a0.Left != a1.Left) = true then
 some false
else
(if (a0.Num != a1.Num) = true then
 some false
else
 bd (laws_eqHelloChange_m a0.Under a1.Under) fun x3 =>
(if (!x3) = true then
 some false
else
 bd (laws_eqHelloEntryS_m a0.Told a1.Told) fun x4 =>
(if (!x4) = true then
 some false
else
(if (!(a0.All == a1.All)) = true then
 some false
else
(if (a0.Got != a1.Got) = true then
 some false
else
(if (!(a0.Full == a1.Full)) = true then
 some false
else
 bd (laws_eqHelloRouteS_m a0.Heard a1.Heard) fun x5 =>
(if (!x5) = true then
 some false
else
(if (a0.Keep != a1.Keep) = true then
 some false
else
 some true))))))))))))))))))

theorem laws_eqHelloEnd_c {a0 : HelloEnd} {a1 : HelloEnd} {r : Bool} (h : laws_eqHelloEnd_m a0 a1 = some r) : PureC Try.prog 9 [.agg [.d (.int .i64 a0.Name), .d (.int .i64 a0.Peer), .d (slD HelloKey.enc a0.Keys), .d (.int .i64 a0.Boot), .d (slD HelloEntry.enc a0.Want), .d (.int .i64 a0.Turn), .d (.int .i64 a0.PeerBoot), .d (.int .i64 a0.PeerTurn), .d (.bool a0.Up), .d (.int .i64 a0.Left), .d (.int .i64 a0.Num), .d (.int .i64 a0.Under.Kind), .d (.int .i64 a0.Under.Entry.Addr), .d (.int .i64 a0.Under.Entry.Len), .d (.int .i64 a0.Under.Entry.Cost), .d (.int .i64 a0.Under.Entry.Label), .d (slD HelloEntry.enc a0.Told), .d (.bool a0.All), .d (.int .i64 a0.Got), .d (.bool a0.Full), .d (slD HelloRoute.enc a0.Heard), .d (.int .i64 a0.Keep)], .agg [.d (.int .i64 a1.Name), .d (.int .i64 a1.Peer), .d (slD HelloKey.enc a1.Keys), .d (.int .i64 a1.Boot), .d (slD HelloEntry.enc a1.Want), .d (.int .i64 a1.Turn), .d (.int .i64 a1.PeerBoot), .d (.int .i64 a1.PeerTurn), .d (.bool a1.Up), .d (.int .i64 a1.Left), .d (.int .i64 a1.Num), .d (.int .i64 a1.Under.Kind), .d (.int .i64 a1.Under.Entry.Addr), .d (.int .i64 a1.Under.Entry.Len), .d (.int .i64 a1.Under.Entry.Cost), .d (.int .i64 a1.Under.Entry.Label), .d (slD HelloEntry.enc a1.Told), .d (.bool a1.All), .d (.int .i64 a1.Got), .d (.bool a1.Full), .d (slD HelloRoute.enc a1.Heard), .d (.int .i64 a1.Keep)]] (.d (.bool r)) [] := by
  refine pureC_x tOk (fn := Try.f9) (c := codeOf Try.f9) rfl rfl ?_
  unfold laws_eqHelloEnd_m at h
  conv => whnf
  refine seq_in tOk ?_
  conv => whnf
  refine andI h (fun _ h => ?_) (fun _ h => ?_)
  · conv => whnf
    obtain rfl := Option.some.inj h
    exact lfP []
  · conv => whnf
    refine seq_in tOk ?_
    conv => whnf
    refine andI h (fun _ h => ?_) (fun _ h => ?_)
    · conv => whnf
      obtain rfl := Option.some.inj h
      exact lfP []
    · conv => whnf
      refine seq_in tOk ?_
      conv => whnf
      obtain ⟨x1, hx1, h⟩ := bd_some h
      refine cC 0 (laws_eqHelloKeyS_c hx1) ?_
      clear hx1
      conv => whnf
      refine andI h (fun _ h => ?_) (fun _ h => ?_)
      · conv => whnf
        obtain rfl := Option.some.inj h
        exact lfP []
      · conv => whnf
        refine seq_in tOk ?_
        conv => whnf
        refine andI h (fun _ h => ?_) (fun _ h => ?_)
        · conv => whnf
          obtain rfl := Option.some.inj h
          exact lfP []
        · conv => whnf
          refine seq_in tOk ?_
          conv => whnf
          obtain ⟨x2, hx2, h⟩ := bd_some h
          refine cC 0 (laws_eqHelloEntryS_c hx2) ?_
          clear hx2
          conv => whnf
          refine andI h (fun _ h => ?_) (fun _ h => ?_)
          · conv => whnf
            obtain rfl := Option.some.inj h
            exact lfP []
          · conv => whnf
            refine seq_in tOk ?_
            conv => whnf
            refine andI h (fun _ h => ?_) (fun _ h => ?_)
            · conv => whnf
              obtain rfl := Option.some.inj h
              exact lfP []
            · conv => whnf
              refine seq_in tOk ?_
              conv => whnf
              refine andI h (fun _ h => ?_) (fun _ h => ?_)
              · conv => whnf
                obtain rfl := Option.some.inj h
                exact lfP []
              · conv => whnf
                refine seq_in tOk ?_
                conv => whnf
                refine andI h (fun _ h => ?_) (fun _ h => ?_)
                · conv => whnf
                  obtain rfl := Option.some.inj h
                  exact lfP []
                · conv => whnf
                  refine seq_in tOk ?_
                  conv => whnf
                  refine andI h (fun _ h => ?_) (fun _ h => ?_)
                  · conv => whnf
                    obtain rfl := Option.some.inj h
                    exact lfP []
                  · conv => whnf
                    refine seq_in tOk ?_
                    conv => whnf
                    refine andI h (fun _ h => ?_) (fun _ h => ?_)
                    · conv => whnf
                      obtain rfl := Option.some.inj h
                      exact lfP []
                    · conv => whnf
                      refine seq_in tOk ?_
                      conv => whnf
                      refine andI h (fun _ h => ?_) (fun _ h => ?_)
                      · conv => whnf
                        obtain rfl := Option.some.inj h
                        exact lfP []
                      · conv => whnf
                        refine seq_in tOk ?_
                        conv => whnf
                        obtain ⟨x3, hx3, h⟩ := bd_some h
                        refine cC 0 (laws_eqHelloChange_c hx3) ?_
                        clear hx3
                        conv => whnf
                        refine andI h (fun _ h => ?_) (fun _ h => ?_)
                        · conv => whnf
                          obtain rfl := Option.some.inj h
                          exact lfP []
                        · conv => whnf
                          refine seq_in tOk ?_
                          conv => whnf
                          obtain ⟨x4, hx4, h⟩ := bd_some h
                          refine cC 0 (laws_eqHelloEntryS_c hx4) ?_
                          clear hx4
                          conv => whnf
                          refine andI h (fun _ h => ?_) (fun _ h => ?_)
                          · conv => whnf
                            obtain rfl := Option.some.inj h
                            exact lfP []
                          · conv => whnf
                            refine seq_in tOk ?_
                            conv => whnf
                            refine andI h (fun _ h => ?_) (fun _ h => ?_)
                            · conv => whnf
                              obtain rfl := Option.some.inj h
                              exact lfP []
                            · conv => whnf
                              refine seq_in tOk ?_
                              conv => whnf
                              refine andI h (fun _ h => ?_) (fun _ h => ?_)
                              · conv => whnf
                                obtain rfl := Option.some.inj h
                                exact lfP []
                              · conv => whnf
                                refine seq_in tOk ?_
                                conv => whnf
                                refine andI h (fun _ h => ?_) (fun _ h => ?_)
                                · conv => whnf
                                  obtain rfl := Option.some.inj h
                                  exact lfP []
                                · conv => whnf
                                  refine seq_in tOk ?_
                                  conv => whnf
                                  obtain ⟨x5, hx5, h⟩ := bd_some h
                                  refine cC 0 (laws_eqHelloRouteS_c hx5) ?_
                                  clear hx5
                                  conv => whnf
                                  refine andI h (fun _ h => ?_) (fun _ h => ?_)
                                  · conv => whnf
                                    obtain rfl := Option.some.inj h
                                    exact lfP []
                                  · conv => whnf
                                    refine seq_in tOk ?_
                                    conv => whnf
                                    refine andI h (fun _ h => ?_) (fun _ h => ?_)
                                    · conv => whnf
                                      obtain rfl := Option.some.inj h
                                      exact lfP []
                                    · conv => whnf
                                      obtain rfl := Option.some.inj h
                                      exact lfP []

noncomputable def laws_markHelloKeyS_m (a0 : (List HelloKey)) (a1 : Int) : Option (Int × (List HelloKey)) :=
 bd (lp (σ := List HelloKey × Int × Int) (β := (Int × (List HelloKey) × Nat)) (fun s1 =>
(if (decide (s1.2.2 < ((s1.1.length : Nat) : Int))) = true then
 gd ((0 : Int) ≤ s1.2.2 ∧ s1.2.2 < ((s1.1.length : Nat) : Int)) <|
 gd ((0 : Int) ≤ s1.2.2 ∧ s1.2.2 < ((s1.1.length : Nat) : Int)) <|
 bd (some ((s1.1.set s1.2.2.toNat (⟨s1.2.1, (s1.1.getD s1.2.2.toNat default).Secret⟩ : HelloKey)).set s1.2.2.toNat (⟨((s1.1.set s1.2.2.toNat (⟨s1.2.1, (s1.1.getD s1.2.2.toNat default).Secret⟩ : HelloKey)).getD s1.2.2.toNat default).Id, IntKind.i64.wrap (s1.2.1 + 1)⟩ : HelloKey))) fun x7 =>
 some (.inl (x7, IntKind.i64.wrap ((IntKind.i64.wrap (s1.2.1 + 1)) + 1), IntKind.i64.wrap (s1.2.2 + 1)))
else
 some (.inr (s1.2.1, s1.1, s1.1.length)))) (a0, a1, 0)) fun x4 =>
 gd (x4.2.2 = a0.length) <|
 some (x4.1, x4.2.1)

theorem laws_markHelloKeyS_c {a0 : (List HelloKey)} {a1 : Int} {r : Int × (List HelloKey)} (h : laws_markHelloKeyS_m a0 a1 = some r) : EffC Try.prog 39 [.osl 9000 0 a0.length, .d (.int .i64 a1)] [(9000, .arr 113 2 a0.length (rows HelloKey.enc a0))] (.d (.int .i64 r.1)) [(9000, .arr 113 2 a0.length (rows HelloKey.enc r.2))] := by
  refine effC_x tOk (fn := Try.f39) (c := codeOf Try.f39) rfl rfl ?_
  unfold laws_markHelloKeyS_m at h
  conv => whnf
  refine seq_in tOk ?_
  conv => whnf
  obtain ⟨x4, hx4, h⟩ := bd_some h
  refine loop_m tOk hx4 (fun s1 => ⟨0, 27, [(0, .osl 9000 0 s1.1.length), (1, .d (.int .i64 s1.2.1)), (5, .d (.int .i64 s1.2.2))], [], [(9000, .arr 113 2 s1.1.length (rows HelloKey.enc s1.1))], [⟨[(0, .osl 9000 0 s1.1.length)], []⟩]⟩) ?_ ?_
  · exact leX []
  · clear hx4
    intro s1 y2 g3 hy2
    conv => whnf
    refine seq_in tOk ?_
    conv => whnf
    refine andI g3 (fun _ g3 => ?_) (fun _ g3 => ?_)
    · conv => whnf
      refine seq_in tOk ?_
      conv => whnf
      refine gdI g3 (fun g3 => ?_)
      conv => whnf
      refine ⟨rows HelloKey.enc (s1.1.set s1.2.2.toNat (⟨s1.2.1, (s1.1.getD s1.2.2.toNat default).Secret⟩ : HelloKey)), store_rows' lenA rfl, ?_⟩
      conv => whnf
      refine gdI g3 (fun g3 => ?_)
      conv => whnf
      obtain ⟨x7, hx7, hlx7, g3⟩ := bd_set g3
      try simp only [List.length_set] at hlx7
      refine setS (enc := HelloKey.enc) hx7 ?_
      conv => whnf
      obtain rfl := Option.some.inj g3
      exact ⟨_, rfl, leX []⟩
    · conv => whnf
      obtain rfl := Option.some.inj g3
      obtain rfl := hy2 _ rfl
      obtain ⟨g9, h⟩ := gd_some h
      obtain rfl := Option.some.inj h
      exact lfE []

noncomputable def laws_markHelloEntryS_m (a0 : (List HelloEntry)) (a1 : Int) : Option (Int × (List HelloEntry)) :=
 bd (lp (σ := List HelloEntry × Int × Int) (β := (Int × (List HelloEntry) × Nat)) (fun s1 =>
(if (decide (s1.2.2 < ((s1.1.length : Nat) : Int))) = true then
 gd ((0 : Int) ≤ s1.2.2 ∧ s1.2.2 < ((s1.1.length : Nat) : Int)) <|
 gd ((0 : Int) ≤ s1.2.2 ∧ s1.2.2 < ((s1.1.length : Nat) : Int)) <|
 bd (some ((s1.1.set s1.2.2.toNat ({ (s1.1.getD s1.2.2.toNat default) with Addr := s1.2.1 })).set s1.2.2.toNat ({ ((s1.1.set s1.2.2.toNat ({ (s1.1.getD s1.2.2.toNat default) with Addr := s1.2.1 })).getD s1.2.2.toNat default) with Len := IntKind.i64.wrap (s1.2.1 + 1) }))) fun x7 =>
 gd ((0 : Int) ≤ s1.2.2 ∧ s1.2.2 < ((s1.1.length : Nat) : Int)) <|
 bd (some (x7.set s1.2.2.toNat ({ (x7.getD s1.2.2.toNat default) with Cost := IntKind.i64.wrap ((IntKind.i64.wrap (s1.2.1 + 1)) + 1) }))) fun x9 =>
 gd ((0 : Int) ≤ s1.2.2 ∧ s1.2.2 < ((s1.1.length : Nat) : Int)) <|
 bd (some (x9.set s1.2.2.toNat ({ (x9.getD s1.2.2.toNat default) with Label := IntKind.i64.wrap ((IntKind.i64.wrap ((IntKind.i64.wrap (s1.2.1 + 1)) + 1)) + 1) }))) fun x11 =>
 some (.inl (x11, IntKind.i64.wrap ((IntKind.i64.wrap ((IntKind.i64.wrap ((IntKind.i64.wrap (s1.2.1 + 1)) + 1)) + 1)) + 1), IntKind.i64.wrap (s1.2.2 + 1)))
else
 some (.inr (s1.2.1, s1.1, s1.1.length)))) (a0, a1, 0)) fun x4 =>
 gd (x4.2.2 = a0.length) <|
 some (x4.1, x4.2.1)

theorem laws_markHelloEntryS_c {a0 : (List HelloEntry)} {a1 : Int} {r : Int × (List HelloEntry)} (h : laws_markHelloEntryS_m a0 a1 = some r) : EffC Try.prog 40 [.osl 9000 0 a0.length, .d (.int .i64 a1)] [(9000, .arr 34 4 a0.length (rows HelloEntry.enc a0))] (.d (.int .i64 r.1)) [(9000, .arr 34 4 a0.length (rows HelloEntry.enc r.2))] := by
  refine effC_x tOk (fn := Try.f40) (c := codeOf Try.f40) rfl rfl ?_
  unfold laws_markHelloEntryS_m at h
  conv => whnf
  refine seq_in tOk ?_
  conv => whnf
  obtain ⟨x4, hx4, h⟩ := bd_some h
  refine loop_m tOk hx4 (fun s1 => ⟨0, 41, [(0, .osl 9000 0 s1.1.length), (1, .d (.int .i64 s1.2.1)), (5, .d (.int .i64 s1.2.2))], [], [(9000, .arr 34 4 s1.1.length (rows HelloEntry.enc s1.1))], [⟨[(0, .osl 9000 0 s1.1.length)], []⟩]⟩) ?_ ?_
  · exact leX []
  · clear hx4
    intro s1 y2 g3 hy2
    conv => whnf
    refine seq_in tOk ?_
    conv => whnf
    refine andI g3 (fun _ g3 => ?_) (fun _ g3 => ?_)
    · conv => whnf
      refine seq_in tOk ?_
      conv => whnf
      refine gdI g3 (fun g3 => ?_)
      conv => whnf
      refine ⟨rows HelloEntry.enc (s1.1.set s1.2.2.toNat ({ (s1.1.getD s1.2.2.toNat default) with Addr := s1.2.1 })), store_rows' lenA rfl, ?_⟩
      conv => whnf
      refine gdI g3 (fun g3 => ?_)
      conv => whnf
      obtain ⟨x7, hx7, hlx7, g3⟩ := bd_set g3
      try simp only [List.length_set] at hlx7
      refine setS (enc := HelloEntry.enc) hx7 ?_
      conv => whnf
      refine gdI g3 (fun g3 => ?_)
      conv => whnf
      obtain ⟨x9, hx9, hlx9, g3⟩ := bd_set g3
      refine setS (enc := HelloEntry.enc) hx9 ?_
      conv => whnf
      refine gdI g3 (fun g3 => ?_)
      conv => whnf
      obtain ⟨x11, hx11, hlx11, g3⟩ := bd_set g3
      refine setS (enc := HelloEntry.enc) hx11 ?_
      conv => whnf
      obtain rfl := Option.some.inj g3
      exact ⟨_, rfl, leX []⟩
    · conv => whnf
      obtain rfl := Option.some.inj g3
      obtain rfl := hy2 _ rfl
      obtain ⟨g13, h⟩ := gd_some h
      obtain rfl := Option.some.inj h
      exact lfE []

noncomputable def laws_markHelloRouteS_m (a0 : (List HelloRoute)) (a1 : Int) : Option (Int × (List HelloRoute)) :=
 bd (lp (σ := List HelloRoute × Int × Int) (β := (Int × (List HelloRoute) × Nat)) (fun s1 =>
(if (decide (s1.2.2 < ((s1.1.length : Nat) : Int))) = true then
 gd ((0 : Int) ≤ s1.2.2 ∧ s1.2.2 < ((s1.1.length : Nat) : Int)) <|
 bd (some (s1.1.set s1.2.2.toNat (⟨{ ((s1.1.getD s1.2.2.toNat default).Entry) with Addr := s1.2.1 }, (s1.1.getD s1.2.2.toNat default).Stale⟩ : HelloRoute))) fun x6 =>
 gd ((0 : Int) ≤ s1.2.2 ∧ s1.2.2 < ((s1.1.length : Nat) : Int)) <|
 bd (some (x6.set s1.2.2.toNat (⟨{ ((x6.getD s1.2.2.toNat default).Entry) with Len := IntKind.i64.wrap (s1.2.1 + 1) }, (x6.getD s1.2.2.toNat default).Stale⟩ : HelloRoute))) fun x8 =>
 gd ((0 : Int) ≤ s1.2.2 ∧ s1.2.2 < ((s1.1.length : Nat) : Int)) <|
 bd (some (x8.set s1.2.2.toNat (⟨{ ((x8.getD s1.2.2.toNat default).Entry) with Cost := IntKind.i64.wrap ((IntKind.i64.wrap (s1.2.1 + 1)) + 1) }, (x8.getD s1.2.2.toNat default).Stale⟩ : HelloRoute))) fun x10 =>
 gd ((0 : Int) ≤ s1.2.2 ∧ s1.2.2 < ((s1.1.length : Nat) : Int)) <|
 bd (some (x10.set s1.2.2.toNat (⟨{ ((x10.getD s1.2.2.toNat default).Entry) with Label := IntKind.i64.wrap ((IntKind.i64.wrap ((IntKind.i64.wrap (s1.2.1 + 1)) + 1)) + 1) }, (x10.getD s1.2.2.toNat default).Stale⟩ : HelloRoute))) fun x12 =>
 gd ((3 : Int) ≠ 0) <|
 gd ((0 : Int) ≤ s1.2.2 ∧ s1.2.2 < ((s1.1.length : Nat) : Int)) <|
 bd (some (x12.set s1.2.2.toNat (⟨((x12.getD s1.2.2.toNat default).Entry), (((IntKind.i64.wrap ((IntKind.i64.wrap ((IntKind.i64.wrap ((IntKind.i64.wrap (s1.2.1 + 1)) + 1)) + 1)) + 1) : Int).tmod 3) == 0)⟩ : HelloRoute))) fun x15 =>
 some (.inl (x15, IntKind.i64.wrap ((IntKind.i64.wrap ((IntKind.i64.wrap ((IntKind.i64.wrap ((IntKind.i64.wrap (s1.2.1 + 1)) + 1)) + 1)) + 1)) + 1), IntKind.i64.wrap (s1.2.2 + 1)))
else
 some (.inr (s1.2.1, s1.1, s1.1.length)))) (a0, a1, 0)) fun x4 =>
 gd (x4.2.2 = a0.length) <|
 some (x4.1, x4.2.1)

theorem laws_markHelloRouteS_c {a0 : (List HelloRoute)} {a1 : Int} {r : Int × (List HelloRoute)} (h : laws_markHelloRouteS_m a0 a1 = some r) : EffC Try.prog 41 [.osl 9000 0 a0.length, .d (.int .i64 a1)] [(9000, .arr 111 5 a0.length (rows HelloRoute.enc a0))] (.d (.int .i64 r.1)) [(9000, .arr 111 5 a0.length (rows HelloRoute.enc r.2))] := by
  refine effC_x tOk (fn := Try.f41) (c := codeOf Try.f41) rfl rfl ?_
  unfold laws_markHelloRouteS_m at h
  conv => whnf
  refine seq_in tOk ?_
  conv => whnf
  obtain ⟨x4, hx4, h⟩ := bd_some h
  refine loop_m tOk hx4 (fun s1 => ⟨0, 54, [(0, .osl 9000 0 s1.1.length), (1, .d (.int .i64 s1.2.1)), (5, .d (.int .i64 s1.2.2))], [], [(9000, .arr 111 5 s1.1.length (rows HelloRoute.enc s1.1))], [⟨[(0, .osl 9000 0 s1.1.length)], []⟩]⟩) ?_ ?_
  · exact leX []
  · clear hx4
    intro s1 y2 g3 hy2
    conv => whnf
    refine seq_in tOk ?_
    conv => whnf
    refine andI g3 (fun _ g3 => ?_) (fun _ g3 => ?_)
    · conv => whnf
      refine seq_in tOk ?_
      conv => whnf
      refine gdI g3 (fun g3 => ?_)
      conv => whnf
      obtain ⟨x6, hx6, hlx6, g3⟩ := bd_set g3
      refine setS (enc := HelloRoute.enc) hx6 ?_
      conv => whnf
      refine gdI g3 (fun g3 => ?_)
      conv => whnf
      obtain ⟨x8, hx8, hlx8, g3⟩ := bd_set g3
      refine setS (enc := HelloRoute.enc) hx8 ?_
      conv => whnf
      refine gdI g3 (fun g3 => ?_)
      conv => whnf
      obtain ⟨x10, hx10, hlx10, g3⟩ := bd_set g3
      refine setS (enc := HelloRoute.enc) hx10 ?_
      conv => whnf
      refine gdI g3 (fun g3 => ?_)
      conv => whnf
      obtain ⟨x12, hx12, hlx12, g3⟩ := bd_set g3
      refine setS (enc := HelloRoute.enc) hx12 ?_
      conv => whnf
      refine gdI g3 (fun g3 => ?_)
      conv => whnf
      refine gdI g3 (fun g3 => ?_)
      conv => whnf
      obtain ⟨x15, hx15, hlx15, g3⟩ := bd_set g3
      refine setS (enc := HelloRoute.enc) hx15 ?_
      conv => whnf
      obtain rfl := Option.some.inj g3
      exact ⟨_, rfl, leX []⟩
    · conv => whnf
      obtain rfl := Option.some.inj g3
      obtain rfl := hy2 _ rfl
      obtain ⟨g17, h⟩ := gd_some h
      obtain rfl := Option.some.inj h
      exact lfE []

noncomputable def laws_markHelloEnd_m (a0 : HelloEnd) (a1 : Int) : Option (Int × HelloEnd) :=
 bd (laws_markHelloKeyS_m a0.Keys a1) fun x1 =>
 gd (x1.2.length = a0.Keys.length) <|
 bd (laws_markHelloEntryS_m a0.Want x1.1) fun x2 =>
 gd (x2.2.length = a0.Want.length) <|
 bd (laws_markHelloEntryS_m a0.Told x2.1) fun x3 =>
 gd (x3.2.length = a0.Told.length) <|
 bd (laws_markHelloRouteS_m a0.Heard x3.1) fun x4 =>
 gd (x4.2.length = a0.Heard.length) <|
 some (x4.1, { a0 with Keys := x1.2, Want := x2.2, Told := x3.2, Heard := x4.2 })

theorem laws_markHelloEnd_c {a0 : HelloEnd} {a1 : Int} {r : Int × HelloEnd} (h : laws_markHelloEnd_m a0 a1 = some r) : EffC Try.prog 10 [.agg [.d (.int .i64 a0.Name), .d (.int .i64 a0.Peer), .osl 9000 0 a0.Keys.length, .d (.int .i64 a0.Boot), .osl 9001 0 a0.Want.length, .d (.int .i64 a0.Turn), .d (.int .i64 a0.PeerBoot), .d (.int .i64 a0.PeerTurn), .d (.bool a0.Up), .d (.int .i64 a0.Left), .d (.int .i64 a0.Num), .d (.int .i64 a0.Under.Kind), .d (.int .i64 a0.Under.Entry.Addr), .d (.int .i64 a0.Under.Entry.Len), .d (.int .i64 a0.Under.Entry.Cost), .d (.int .i64 a0.Under.Entry.Label), .osl 9002 0 a0.Told.length, .d (.bool a0.All), .d (.int .i64 a0.Got), .d (.bool a0.Full), .osl 9003 0 a0.Heard.length, .d (.int .i64 a0.Keep)], .d (.int .i64 a1)] [(9000, .arr 113 2 a0.Keys.length (rows HelloKey.enc a0.Keys)), (9001, .arr 34 4 a0.Want.length (rows HelloEntry.enc a0.Want)), (9002, .arr 34 4 a0.Told.length (rows HelloEntry.enc a0.Told)), (9003, .arr 111 5 a0.Heard.length (rows HelloRoute.enc a0.Heard))] (.d (.int .i64 r.1)) [(9000, .arr 113 2 a0.Keys.length (rows HelloKey.enc r.2.Keys)), (9001, .arr 34 4 a0.Want.length (rows HelloEntry.enc r.2.Want)), (9002, .arr 34 4 a0.Told.length (rows HelloEntry.enc r.2.Told)), (9003, .arr 111 5 a0.Heard.length (rows HelloRoute.enc r.2.Heard))] := by
  refine effC_x tOk (fn := Try.f10) (c := codeOf Try.f10) rfl rfl ?_
  unfold laws_markHelloEnd_m at h
  conv => whnf
  obtain ⟨x1, hx1, h⟩ := bd_some h
  obtain ⟨g8, h⟩ := gd_some h
  refine cE [(9000, 9000)] 0 (laws_markHelloKeyS_c hx1) ?_
  conv => whnf
  obtain ⟨x2, hx2, h⟩ := bd_some h
  obtain ⟨g7, h⟩ := gd_some h
  refine cE [(9000, 9001)] 0 (laws_markHelloEntryS_c hx2) ?_
  conv => whnf
  obtain ⟨x3, hx3, h⟩ := bd_some h
  obtain ⟨g6, h⟩ := gd_some h
  refine cE [(9000, 9002)] 0 (laws_markHelloEntryS_c hx3) ?_
  conv => whnf
  obtain ⟨x4, hx4, h⟩ := bd_some h
  obtain ⟨g5, h⟩ := gd_some h
  refine cE [(9000, 9003)] 0 (laws_markHelloRouteS_c hx4) ?_
  conv => whnf
  obtain rfl := Option.some.inj h
  exact lfE []

noncomputable def laws_heldHelloKeyS_m (a0 : (List HelloKey)) (a1 : Int) : Option (Int) :=
 bd (lp (σ := Int × Int) (β := (Unit ⊕ Int)) (fun s1 =>
(if (decide (s1.2 < ((a0.length : Nat) : Int))) = true then
 gd ((0 : Int) ≤ s1.2 ∧ s1.2 < ((a0.length : Nat) : Int)) <|
(if (((a0.getD s1.2.toNat default).Id) != s1.1) = true then
 some (.inr (.inl ()))
else
 gd ((0 : Int) ≤ s1.2 ∧ s1.2 < ((a0.length : Nat) : Int)) <|
(if (((a0.getD s1.2.toNat default).Secret) != (IntKind.i64.wrap (s1.1 + 1))) = true then
 some (.inr (.inl ()))
else
 some (.inl (IntKind.i64.wrap ((IntKind.i64.wrap (s1.1 + 1)) + 1), IntKind.i64.wrap (s1.2 + 1)))))
else
 some (.inr (.inr s1.1)))) (a1, 0)) fun x4 =>
(match x4 with
| .inl d7 =>
 some (-1)
| .inr d8 =>
 some d8)

theorem laws_heldHelloKeyS_c {a0 : (List HelloKey)} {a1 : Int} {r : Int} (h : laws_heldHelloKeyS_m a0 a1 = some r) : PureC Try.prog 42 [.d (slD HelloKey.enc a0), .d (.int .i64 a1)] (.d (.int .i64 r)) [] := by
  refine pureC_x tOk (fn := Try.f42) (c := codeOf Try.f42) rfl rfl ?_
  unfold laws_heldHelloKeyS_m at h
  conv => whnf
  refine seq_in tOk ?_
  conv => whnf
  obtain ⟨x4, hx4, h⟩ := bd_some h
  refine loop_m tOk hx4 (fun s1 => ⟨0, 31, [(0, .d (slD HelloKey.enc a0)), (1, .d (.int .i64 s1.1)), (5, .d (.int .i64 s1.2))], [], [], []⟩) ?_ ?_
  · exact leX []
  · clear hx4
    intro s1 y2 g3 hy2
    conv => whnf
    refine seq_in tOk ?_
    conv => whnf
    refine andI g3 (fun _ g3 => ?_) (fun _ g3 => ?_)
    · conv => whnf
      refine seq_in tOk ?_
      conv => whnf
      refine seq_in tOk ?_
      conv => whnf
      refine gdI g3 (fun g3 => ?_)
      conv => whnf
      refine andI g3 (fun _ g3 => ?_) (fun _ g3 => ?_)
      · conv => whnf
        obtain rfl := Option.some.inj g3
        obtain rfl := hy2 _ rfl
        obtain rfl := Option.some.inj h
        exact lfP []
      · conv => whnf
        refine seq_in tOk ?_
        conv => whnf
        refine gdI g3 (fun g3 => ?_)
        conv => whnf
        refine andI g3 (fun _ g3 => ?_) (fun _ g3 => ?_)
        · conv => whnf
          obtain rfl := Option.some.inj g3
          obtain rfl := hy2 _ rfl
          obtain rfl := Option.some.inj h
          exact lfP []
        · conv => whnf
          obtain rfl := Option.some.inj g3
          exact ⟨_, rfl, leX []⟩
    · conv => whnf
      obtain rfl := Option.some.inj g3
      obtain rfl := hy2 _ rfl
      obtain rfl := Option.some.inj h
      exact lfP []

noncomputable def laws_heldHelloEntryS_m (a0 : (List HelloEntry)) (a1 : Int) : Option (Int) :=
 bd (lp (σ := Int × Int) (β := (Unit ⊕ Int)) (fun s1 =>
(if (decide (s1.2 < ((a0.length : Nat) : Int))) = true then
 gd ((0 : Int) ≤ s1.2 ∧ s1.2 < ((a0.length : Nat) : Int)) <|
(if (((a0.getD s1.2.toNat default).Addr) != s1.1) = true then
 some (.inr (.inl ()))
else
 gd ((0 : Int) ≤ s1.2 ∧ s1.2 < ((a0.length : Nat) : Int)) <|
(if (((a0.getD s1.2.toNat default).Len) != (IntKind.i64.wrap (s1.1 + 1))) = true then
 some (.inr (.inl ()))
else
 gd ((0 : Int) ≤ s1.2 ∧ s1.2 < ((a0.length : Nat) : Int)) <|
(if (((a0.getD s1.2.toNat default).Cost) != (IntKind.i64.wrap ((IntKind.i64.wrap (s1.1 + 1)) + 1))) = true then
 some (.inr (.inl ()))
else
 gd ((0 : Int) ≤ s1.2 ∧ s1.2 < ((a0.length : Nat) : Int)) <|
(if (((a0.getD s1.2.toNat default).Label) != (IntKind.i64.wrap ((IntKind.i64.wrap ((IntKind.i64.wrap (s1.1 + 1)) + 1)) + 1))) = true then
 some (.inr (.inl ()))
else
 some (.inl (IntKind.i64.wrap ((IntKind.i64.wrap ((IntKind.i64.wrap ((IntKind.i64.wrap (s1.1 + 1)) + 1)) + 1)) + 1), IntKind.i64.wrap (s1.2 + 1)))))))
else
 some (.inr (.inr s1.1)))) (a1, 0)) fun x4 =>
(match x4 with
| .inl d9 =>
 some (-1)
| .inr d10 =>
 some d10)

theorem laws_heldHelloEntryS_c {a0 : (List HelloEntry)} {a1 : Int} {r : Int} (h : laws_heldHelloEntryS_m a0 a1 = some r) : PureC Try.prog 43 [.d (slD HelloEntry.enc a0), .d (.int .i64 a1)] (.d (.int .i64 r)) [] := by
  refine pureC_x tOk (fn := Try.f43) (c := codeOf Try.f43) rfl rfl ?_
  unfold laws_heldHelloEntryS_m at h
  conv => whnf
  refine seq_in tOk ?_
  conv => whnf
  obtain ⟨x4, hx4, h⟩ := bd_some h
  refine loop_m tOk hx4 (fun s1 => ⟨0, 49, [(0, .d (slD HelloEntry.enc a0)), (1, .d (.int .i64 s1.1)), (5, .d (.int .i64 s1.2))], [], [], []⟩) ?_ ?_
  · exact leX []
  · clear hx4
    intro s1 y2 g3 hy2
    conv => whnf
    refine seq_in tOk ?_
    conv => whnf
    refine andI g3 (fun _ g3 => ?_) (fun _ g3 => ?_)
    · conv => whnf
      refine seq_in tOk ?_
      conv => whnf
      refine seq_in tOk ?_
      conv => whnf
      refine gdI g3 (fun g3 => ?_)
      conv => whnf
      refine andI g3 (fun _ g3 => ?_) (fun _ g3 => ?_)
      · conv => whnf
        obtain rfl := Option.some.inj g3
        obtain rfl := hy2 _ rfl
        obtain rfl := Option.some.inj h
        exact lfP []
      · conv => whnf
        refine seq_in tOk ?_
        conv => whnf
        refine gdI g3 (fun g3 => ?_)
        conv => whnf
        refine andI g3 (fun _ g3 => ?_) (fun _ g3 => ?_)
        · conv => whnf
          obtain rfl := Option.some.inj g3
          obtain rfl := hy2 _ rfl
          obtain rfl := Option.some.inj h
          exact lfP []
        · conv => whnf
          refine seq_in tOk ?_
          conv => whnf
          refine gdI g3 (fun g3 => ?_)
          conv => whnf
          refine andI g3 (fun _ g3 => ?_) (fun _ g3 => ?_)
          · conv => whnf
            obtain rfl := Option.some.inj g3
            obtain rfl := hy2 _ rfl
            obtain rfl := Option.some.inj h
            exact lfP []
          · conv => whnf
            refine seq_in tOk ?_
            conv => whnf
            refine gdI g3 (fun g3 => ?_)
            conv => whnf
            refine andI g3 (fun _ g3 => ?_) (fun _ g3 => ?_)
            · conv => whnf
              obtain rfl := Option.some.inj g3
              obtain rfl := hy2 _ rfl
              obtain rfl := Option.some.inj h
              exact lfP []
            · conv => whnf
              obtain rfl := Option.some.inj g3
              exact ⟨_, rfl, leX []⟩
    · conv => whnf
      obtain rfl := Option.some.inj g3
      obtain rfl := hy2 _ rfl
      obtain rfl := Option.some.inj h
      exact lfP []

noncomputable def laws_heldHelloRouteS_m (a0 : (List HelloRoute)) (a1 : Int) : Option (Int) :=
 bd (lp (σ := Int × Int) (β := (Unit ⊕ Int)) (fun s1 =>
(if (decide (s1.2 < ((a0.length : Nat) : Int))) = true then
 gd ((0 : Int) ≤ s1.2 ∧ s1.2 < ((a0.length : Nat) : Int)) <|
(if ((((a0.getD s1.2.toNat default).Entry).Addr) != s1.1) = true then
 some (.inr (.inl ()))
else
 gd ((0 : Int) ≤ s1.2 ∧ s1.2 < ((a0.length : Nat) : Int)) <|
(if ((((a0.getD s1.2.toNat default).Entry).Len) != (IntKind.i64.wrap (s1.1 + 1))) = true then
 some (.inr (.inl ()))
else
 gd ((0 : Int) ≤ s1.2 ∧ s1.2 < ((a0.length : Nat) : Int)) <|
(if ((((a0.getD s1.2.toNat default).Entry).Cost) != (IntKind.i64.wrap ((IntKind.i64.wrap (s1.1 + 1)) + 1))) = true then
 some (.inr (.inl ()))
else
 gd ((0 : Int) ≤ s1.2 ∧ s1.2 < ((a0.length : Nat) : Int)) <|
(if ((((a0.getD s1.2.toNat default).Entry).Label) != (IntKind.i64.wrap ((IntKind.i64.wrap ((IntKind.i64.wrap (s1.1 + 1)) + 1)) + 1))) = true then
 some (.inr (.inl ()))
else
 gd ((0 : Int) ≤ s1.2 ∧ s1.2 < ((a0.length : Nat) : Int)) <|
 gd ((3 : Int) ≠ 0) <|
(if (!(((a0.getD s1.2.toNat default).Stale) == (((IntKind.i64.wrap ((IntKind.i64.wrap ((IntKind.i64.wrap ((IntKind.i64.wrap (s1.1 + 1)) + 1)) + 1)) + 1) : Int).tmod 3) == 0))) = true then
 some (.inr (.inl ()))
else
 some (.inl (IntKind.i64.wrap ((IntKind.i64.wrap ((IntKind.i64.wrap ((IntKind.i64.wrap ((IntKind.i64.wrap (s1.1 + 1)) + 1)) + 1)) + 1)) + 1), IntKind.i64.wrap (s1.2 + 1))))))))
else
 some (.inr (.inr s1.1)))) (a1, 0)) fun x4 =>
(match x4 with
| .inl d11 =>
 some (-1)
| .inr d12 =>
 some d12)

theorem laws_heldHelloRouteS_c {a0 : (List HelloRoute)} {a1 : Int} {r : Int} (h : laws_heldHelloRouteS_m a0 a1 = some r) : PureC Try.prog 44 [.d (slD HelloRoute.enc a0), .d (.int .i64 a1)] (.d (.int .i64 r)) [] := by
  refine pureC_x tOk (fn := Try.f44) (c := codeOf Try.f44) rfl rfl ?_
  unfold laws_heldHelloRouteS_m at h
  conv => whnf
  refine seq_in tOk ?_
  conv => whnf
  obtain ⟨x4, hx4, h⟩ := bd_some h
  refine loop_m tOk hx4 (fun s1 => ⟨0, 64, [(0, .d (slD HelloRoute.enc a0)), (1, .d (.int .i64 s1.1)), (5, .d (.int .i64 s1.2))], [], [], []⟩) ?_ ?_
  · exact leX []
  · clear hx4
    intro s1 y2 g3 hy2
    conv => whnf
    refine seq_in tOk ?_
    conv => whnf
    refine andI g3 (fun _ g3 => ?_) (fun _ g3 => ?_)
    · conv => whnf
      refine seq_in tOk ?_
      conv => whnf
      refine seq_in tOk ?_
      conv => whnf
      refine gdI g3 (fun g3 => ?_)
      conv => whnf
      refine andI g3 (fun _ g3 => ?_) (fun _ g3 => ?_)
      · conv => whnf
        obtain rfl := Option.some.inj g3
        obtain rfl := hy2 _ rfl
        obtain rfl := Option.some.inj h
        exact lfP []
      · conv => whnf
        refine seq_in tOk ?_
        conv => whnf
        refine gdI g3 (fun g3 => ?_)
        conv => whnf
        refine andI g3 (fun _ g3 => ?_) (fun _ g3 => ?_)
        · conv => whnf
          obtain rfl := Option.some.inj g3
          obtain rfl := hy2 _ rfl
          obtain rfl := Option.some.inj h
          exact lfP []
        · conv => whnf
          refine seq_in tOk ?_
          conv => whnf
          refine gdI g3 (fun g3 => ?_)
          conv => whnf
          refine andI g3 (fun _ g3 => ?_) (fun _ g3 => ?_)
          · conv => whnf
            obtain rfl := Option.some.inj g3
            obtain rfl := hy2 _ rfl
            obtain rfl := Option.some.inj h
            exact lfP []
          · conv => whnf
            refine seq_in tOk ?_
            conv => whnf
            refine gdI g3 (fun g3 => ?_)
            conv => whnf
            refine andI g3 (fun _ g3 => ?_) (fun _ g3 => ?_)
            · conv => whnf
              obtain rfl := Option.some.inj g3
              obtain rfl := hy2 _ rfl
              obtain rfl := Option.some.inj h
              exact lfP []
            · conv => whnf
              refine seq_in tOk ?_
              conv => whnf
              refine gdI g3 (fun g3 => ?_)
              conv => whnf
              refine gdI g3 (fun g3 => ?_)
              conv => whnf
              refine andI g3 (fun _ g3 => ?_) (fun _ g3 => ?_)
              · conv => whnf
                obtain rfl := Option.some.inj g3
                obtain rfl := hy2 _ rfl
                obtain rfl := Option.some.inj h
                exact lfP []
              · conv => whnf
                obtain rfl := Option.some.inj g3
                exact ⟨_, rfl, leX []⟩
    · conv => whnf
      obtain rfl := Option.some.inj g3
      obtain rfl := hy2 _ rfl
      obtain rfl := Option.some.inj h
      exact lfP []

noncomputable def laws_heldHelloEnd_m (a0 : HelloEnd) (a1 : Int) : Option (Int) :=
 bd (laws_heldHelloKeyS_m a0.Keys a1) fun x1 =>
(if (decide (x1 < 0)) = true then
 some (-1)
else
 bd (laws_heldHelloEntryS_m a0.Want x1) fun x2 =>
(if (decide (x2 < 0)) = true then
 some (-1)
else
 bd (laws_heldHelloEntryS_m a0.Told x2) fun x3 =>
(if (decide (x3 < 0)) = true then
 some (-1)
else
 bd (laws_heldHelloRouteS_m a0.Heard x3) fun x4 =>
(if (decide (x4 < 0)) = true then
 some (-1)
else
 some x4))))

theorem laws_heldHelloEnd_c {a0 : HelloEnd} {a1 : Int} {r : Int} (h : laws_heldHelloEnd_m a0 a1 = some r) : PureC Try.prog 11 [.agg [.d (.int .i64 a0.Name), .d (.int .i64 a0.Peer), .d (slD HelloKey.enc a0.Keys), .d (.int .i64 a0.Boot), .d (slD HelloEntry.enc a0.Want), .d (.int .i64 a0.Turn), .d (.int .i64 a0.PeerBoot), .d (.int .i64 a0.PeerTurn), .d (.bool a0.Up), .d (.int .i64 a0.Left), .d (.int .i64 a0.Num), .d (.int .i64 a0.Under.Kind), .d (.int .i64 a0.Under.Entry.Addr), .d (.int .i64 a0.Under.Entry.Len), .d (.int .i64 a0.Under.Entry.Cost), .d (.int .i64 a0.Under.Entry.Label), .d (slD HelloEntry.enc a0.Told), .d (.bool a0.All), .d (.int .i64 a0.Got), .d (.bool a0.Full), .d (slD HelloRoute.enc a0.Heard), .d (.int .i64 a0.Keep)], .d (.int .i64 a1)] (.d (.int .i64 r)) [] := by
  refine pureC_x tOk (fn := Try.f11) (c := codeOf Try.f11) rfl rfl ?_
  unfold laws_heldHelloEnd_m at h
  conv => whnf
  obtain ⟨x1, hx1, h⟩ := bd_some h
  refine cC 0 (laws_heldHelloKeyS_c hx1) ?_
  clear hx1
  conv => whnf
  refine seq_in tOk ?_
  conv => whnf
  refine andI h (fun _ h => ?_) (fun _ h => ?_)
  · conv => whnf
    obtain rfl := Option.some.inj h
    exact lfP []
  · conv => whnf
    obtain ⟨x2, hx2, h⟩ := bd_some h
    refine cC 0 (laws_heldHelloEntryS_c hx2) ?_
    clear hx2
    conv => whnf
    refine seq_in tOk ?_
    conv => whnf
    refine andI h (fun _ h => ?_) (fun _ h => ?_)
    · conv => whnf
      obtain rfl := Option.some.inj h
      exact lfP []
    · conv => whnf
      obtain ⟨x3, hx3, h⟩ := bd_some h
      refine cC 0 (laws_heldHelloEntryS_c hx3) ?_
      clear hx3
      conv => whnf
      refine seq_in tOk ?_
      conv => whnf
      refine andI h (fun _ h => ?_) (fun _ h => ?_)
      · conv => whnf
        obtain rfl := Option.some.inj h
        exact lfP []
      · conv => whnf
        obtain ⟨x4, hx4, h⟩ := bd_some h
        refine cC 0 (laws_heldHelloRouteS_c hx4) ?_
        clear hx4
        conv => whnf
        refine seq_in tOk ?_
        conv => whnf
        refine andI h (fun _ h => ?_) (fun _ h => ?_)
        · conv => whnf
          obtain rfl := Option.some.inj h
          exact lfP []
        · conv => whnf
          obtain rfl := Option.some.inj h
          exact lfP []

noncomputable def laws_FnExactHelloTick_m (a0 : HelloEnd) : Option (Bool) :=
 bd (laws_szHelloEnd_m a0 1048576) fun x1 =>
(if (decide (x1 < 0)) = true then
 some true
else
 bd (laws_toHelloEnd_m a0) fun x2 =>
 bd (spec_HelloTick_m x2) fun x3 =>
 bd (laws_toHelloEnd_m a0) fun x4 =>
 bd (impl_HelloTick_pu_o02_04_016_020_m x4) fun x5 =>
 bd (laws_eqHelloEnd_m x5 x3) fun x6 =>
(if (!x6) = true then
 some false
else
 bd (laws_toHelloEnd_m a0) fun x7 =>
 bd (laws_eqHelloEnd_m x4 x7) fun x8 =>
(if (!x8) = true then
 some false
else
 bd (laws_markHelloEnd_m x4 1) fun x9 =>
 gd (x9.2.Keys.length = x4.Keys.length) <|
 gd (x9.2.Want.length = x4.Want.length) <|
 gd (x9.2.Told.length = x4.Told.length) <|
 gd (x9.2.Heard.length = x4.Heard.length) <|
 bd (gcall ((decide (x9.1 < 0)) = false) (laws_eqHelloEnd_m x5 x3)) fun x10 =>
(if ((decide (x9.1 < 0)) || (!x10)) = true then
 some false
else
 bd (laws_markHelloEnd_m x5 1) fun x11 =>
 gd (x11.2.Keys.length = x5.Keys.length) <|
 gd (x11.2.Want.length = x5.Want.length) <|
 gd (x11.2.Told.length = x5.Told.length) <|
 gd (x11.2.Heard.length = x5.Heard.length) <|
 bd (laws_heldHelloEnd_m ({ x5 with Keys := x11.2.Keys, Want := x11.2.Want, Told := x11.2.Told, Heard := x11.2.Heard }) 1) fun x12 =>
(if (decide (x12 < 0)) = true then
 some false
else
(if (x12 != x11.1) = true then
 some false
else
 bd (laws_toHelloEnd_m a0) fun x13 =>
 bd (impl_HelloTick_pu_o02_04_016_020_m x13) fun x14 =>
 bd (laws_eqHelloEnd_m x14 x3) fun x15 =>
(if (!x15) = true then
 some false
else
 bd (laws_heldHelloEnd_m ({ x5 with Keys := x11.2.Keys, Want := x11.2.Want, Told := x11.2.Told, Heard := x11.2.Heard }) 1) fun x16 =>
(if (decide (x16 < 0)) = true then
 some false
else
(if (x16 != x11.1) = true then
 some false
else
 some true)))))))))

theorem laws_FnExactHelloTick_c {a0 : HelloEnd} {r : Bool} (h : laws_FnExactHelloTick_m a0 = some r) : PureC Try.prog 3 [.agg [.d (.int .i64 a0.Name), .d (.int .i64 a0.Peer), .d (slD HelloKey.enc a0.Keys), .d (.int .i64 a0.Boot), .d (slD HelloEntry.enc a0.Want), .d (.int .i64 a0.Turn), .d (.int .i64 a0.PeerBoot), .d (.int .i64 a0.PeerTurn), .d (.bool a0.Up), .d (.int .i64 a0.Left), .d (.int .i64 a0.Num), .d (.int .i64 a0.Under.Kind), .d (.int .i64 a0.Under.Entry.Addr), .d (.int .i64 a0.Under.Entry.Len), .d (.int .i64 a0.Under.Entry.Cost), .d (.int .i64 a0.Under.Entry.Label), .d (slD HelloEntry.enc a0.Told), .d (.bool a0.All), .d (.int .i64 a0.Got), .d (.bool a0.Full), .d (slD HelloRoute.enc a0.Heard), .d (.int .i64 a0.Keep)]] (.d (.bool r)) [] := by
  refine pureC_x tOk (fn := Try.f3) (c := codeOf Try.f3) rfl rfl ?_
  unfold laws_FnExactHelloTick_m at h
  conv => whnf
  obtain ⟨x1, hx1, h⟩ := bd_some h
  refine cC 0 (laws_szHelloEnd_c hx1) ?_
  clear hx1
  conv => whnf
  refine seq_in tOk ?_
  conv => whnf
  refine andI h (fun _ h => ?_) (fun _ h => ?_)
  · conv => whnf
    obtain rfl := Option.some.inj h
    exact lfP []
  · conv => whnf
    obtain ⟨x2, hx2, h⟩ := bd_some h
    refine cC 1000 (laws_toHelloEnd_c hx2) ?_
    clear hx2
    conv => whnf
    obtain ⟨x3, hx3, h⟩ := bd_some h
    refine cC 2000 (spec_HelloTick_c hx3) ?_
    clear hx3
    conv => whnf
    obtain ⟨x4, hx4, h⟩ := bd_some h
    refine cC 3000 (laws_toHelloEnd_c hx4) ?_
    clear hx4
    conv => whnf
    obtain ⟨x5, hx5, h⟩ := bd_some h
    refine cC 4000 (impl_HelloTick_pu_o02_04_016_020_c hx5) ?_
    clear hx5
    conv => whnf
    refine seq_in tOk ?_
    conv => whnf
    obtain ⟨x6, hx6, h⟩ := bd_some h
    refine cC 0 (laws_eqHelloEnd_c hx6) ?_
    clear hx6
    conv => whnf
    refine andI h (fun _ h => ?_) (fun _ h => ?_)
    · conv => whnf
      obtain rfl := Option.some.inj h
      exact lfP []
    · conv => whnf
      refine seq_in tOk ?_
      conv => whnf
      obtain ⟨x7, hx7, h⟩ := bd_some h
      obtain ⟨x8, hx8, h⟩ := bd_some h
      refine draw_u tOk [.u 2 5000 (.agg [.d (.int .i64 x7.Name), .d (.int .i64 x7.Peer), .osl 5001 0 x7.Keys.length, .d (.int .i64 x7.Boot), .osl 5002 0 x7.Want.length, .d (.int .i64 x7.Turn), .d (.int .i64 x7.PeerBoot), .d (.int .i64 x7.PeerTurn), .d (.bool x7.Up), .d (.int .i64 x7.Left), .d (.int .i64 x7.Num), .d (.int .i64 x7.Under.Kind), .d (.int .i64 x7.Under.Entry.Addr), .d (.int .i64 x7.Under.Entry.Len), .d (.int .i64 x7.Under.Entry.Cost), .d (.int .i64 x7.Under.Entry.Label), .osl 5003 0 x7.Told.length, .d (.bool x7.All), .d (.int .i64 x7.Got), .d (.bool x7.Full), .osl 5004 0 x7.Heard.length, .d (.int .i64 x7.Keep)]) [⟨5001, 113, 2, x7.Keys.length, rows HelloKey.enc x7.Keys⟩, ⟨5002, 34, 4, x7.Want.length, rows HelloEntry.enc x7.Want⟩, ⟨5003, 34, 4, x7.Told.length, rows HelloEntry.enc x7.Told⟩, ⟨5004, 111, 5, x7.Heard.length, rows HelloRoute.enc x7.Heard⟩], .u 3 0 (.d (.bool x8)) []] 5 [] [0, 0, 2, 7, 15] [] ?_
      conv => whnf
      refine And.intro (callD_any (laws_toHelloEnd_c hx7) (by kernel_rfl)) ?_
      conv => whnf
      refine And.intro (callD_any (laws_eqHelloEnd_c hx8) (by kernel_rfl)) ?_
      conv => whnf
      refine And.intro (by kernel_rfl) ?_
      conv => whnf
      refine andI h (fun _ h => ?_) (fun _ h => ?_)
      · conv => whnf
        obtain rfl := Option.some.inj h
        exact lfP []
      · conv => whnf
        obtain ⟨x9, hx9, h⟩ := bd_some h
        obtain ⟨g21, h⟩ := gd_some h
        obtain ⟨g22, h⟩ := gd_some h
        obtain ⟨g23, h⟩ := gd_some h
        obtain ⟨g24, h⟩ := gd_some h
        refine cE2 [(9000, 8001), (9001, 8002), (9002, 8003), (9003, 8004)] 0 (laws_markHelloEnd_c hx9) ?_
        conv => whnf
        refine seq_in tOk ?_
        conv => whnf
        obtain ⟨x10, hx10, h⟩ := bd_some h
        refine cG (fun c0 => laws_eqHelloEnd_c (gcall_some hx10 c0)) ?_
        conv => whnf
        refine andI h (fun _ h => ?_) (fun _ h => ?_)
        · conv => whnf
          obtain rfl := Option.some.inj h
          exact lfP []
        · conv => whnf
          obtain ⟨x11, hx11, h⟩ := bd_some h
          obtain ⟨g17, h⟩ := gd_some h
          obtain ⟨g18, h⟩ := gd_some h
          obtain ⟨g19, h⟩ := gd_some h
          obtain ⟨g20, h⟩ := gd_some h
          refine cE2 [(9000, 9001), (9001, 9002), (9002, 9003), (9003, 9004)] 0 (laws_markHelloEnd_c hx11) ?_
          conv => whnf
          obtain ⟨x12, hx12, h⟩ := bd_some h
          refine callW (args1 := [.agg [.d (.int .i64 x5.Name), .d (.int .i64 x5.Peer), .d (.sl x5.Keys.length (rows HelloKey.enc x11.2.Keys)), .d (.int .i64 x5.Boot), .d (.sl x5.Want.length (rows HelloEntry.enc x11.2.Want)), .d (.int .i64 x5.Turn), .d (.int .i64 x5.PeerBoot), .d (.int .i64 x5.PeerTurn), .d (.bool x5.Up), .d (.int .i64 x5.Left), .d (.int .i64 x5.Num), .d (.int .i64 x5.Under.Kind), .d (.int .i64 x5.Under.Entry.Addr), .d (.int .i64 x5.Under.Entry.Len), .d (.int .i64 x5.Under.Entry.Cost), .d (.int .i64 x5.Under.Entry.Label), .d (.sl x5.Told.length (rows HelloEntry.enc x11.2.Told)), .d (.bool x5.All), .d (.int .i64 x5.Got), .d (.bool x5.Full), .d (.sl x5.Heard.length (rows HelloRoute.enc x11.2.Heard)), .d (.int .i64 x5.Keep)], .d (.int .i64 1)]) 0 (laws_heldHelloEnd_c hx12) (by kernel_rfl) argA (by kernel_rfl) ?_
          conv => whnf
          refine seq_in tOk ?_
          conv => whnf
          refine andI h (fun _ h => ?_) (fun _ h => ?_)
          · conv => whnf
            obtain rfl := Option.some.inj h
            exact lfP []
          · conv => whnf
            refine seq_in tOk ?_
            conv => whnf
            refine andI h (fun _ h => ?_) (fun _ h => ?_)
            · conv => whnf
              obtain rfl := Option.some.inj h
              exact lfP []
            · conv => whnf
              obtain ⟨x13, hx13, h⟩ := bd_some h
              refine cC 6000 (laws_toHelloEnd_c hx13) ?_
              clear hx13
              conv => whnf
              obtain ⟨x14, hx14, h⟩ := bd_some h
              refine cC 7000 (impl_HelloTick_pu_o02_04_016_020_c hx14) ?_
              clear hx14
              conv => whnf
              refine seq_in tOk ?_
              conv => whnf
              obtain ⟨x15, hx15, h⟩ := bd_some h
              refine cC 0 (laws_eqHelloEnd_c hx15) ?_
              clear hx15
              conv => whnf
              refine andI h (fun _ h => ?_) (fun _ h => ?_)
              · conv => whnf
                obtain rfl := Option.some.inj h
                exact lfP []
              · conv => whnf
                obtain ⟨x16, hx16, h⟩ := bd_some h
                refine callW (args1 := [.agg [.d (.int .i64 x5.Name), .d (.int .i64 x5.Peer), .d (.sl x5.Keys.length (rows HelloKey.enc x11.2.Keys)), .d (.int .i64 x5.Boot), .d (.sl x5.Want.length (rows HelloEntry.enc x11.2.Want)), .d (.int .i64 x5.Turn), .d (.int .i64 x5.PeerBoot), .d (.int .i64 x5.PeerTurn), .d (.bool x5.Up), .d (.int .i64 x5.Left), .d (.int .i64 x5.Num), .d (.int .i64 x5.Under.Kind), .d (.int .i64 x5.Under.Entry.Addr), .d (.int .i64 x5.Under.Entry.Len), .d (.int .i64 x5.Under.Entry.Cost), .d (.int .i64 x5.Under.Entry.Label), .d (.sl x5.Told.length (rows HelloEntry.enc x11.2.Told)), .d (.bool x5.All), .d (.int .i64 x5.Got), .d (.bool x5.Full), .d (.sl x5.Heard.length (rows HelloRoute.enc x11.2.Heard)), .d (.int .i64 x5.Keep)], .d (.int .i64 1)]) 0 (laws_heldHelloEnd_c hx16) (by kernel_rfl) argA (by kernel_rfl) ?_
                conv => whnf
                refine seq_in tOk ?_
                conv => whnf
                refine andI h (fun _ h => ?_) (fun _ h => ?_)
                · conv => whnf
                  obtain rfl := Option.some.inj h
                  exact lfP []
                · conv => whnf
                  refine seq_in tOk ?_
                  conv => whnf
                  refine andI h (fun _ h => ?_) (fun _ h => ?_)
                  · conv => whnf
                    obtain rfl := Option.some.inj h
                    exact lfP []
                  · conv => whnf
                    obtain rfl := Option.some.inj h
                    exact lfP []

end Go.Proofs.Ytaoeomoepefojaa
