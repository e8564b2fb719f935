/-
  What some of the program's functions compute: their models, and that the functions compute these; no condition.
-/
import Derived.Test.YtaoeomoepefojaaTyz
import Derived.Test.YtaoeomoepefojaaTbz
import Derived.Test.YtaoeomoepefojaaAbz7
set_option linter.all false
namespace Go.Proofs.Ytaoeomoepefojaa
open Go Go.Ab
set_option maxRecDepth 100000
set_option maxHeartbeats 40000000
noncomputable def laws_szHelloKeyS_m (a0 : (List HelloKey)) (a1 : Int) : Option (Int) :=
(if (decide ((IntKind.i64.wrap (a1 - ((a0.length : Nat) : Int))) < 0)) = true then
 some (-1)
else
 some (IntKind.i64.wrap (a1 - ((a0.length : Nat) : Int))))

theorem laws_szHelloKeyS_c {a0 : (List HelloKey)} {a1 : Int} {r : Int} (h : laws_szHelloKeyS_m a0 a1 = some r) : PureC Try.prog 21 [.d (slD HelloKey.enc a0), .d (.int .i64 a1)] (.d (.int .i64 r)) [] := by
  refine pureC_x tOk (fn := Try.f21) (c := codeOf Try.f21) rfl rfl ?_
  unfold laws_szHelloKeyS_m at h
  conv => whnf
  refine seq_in tOk ?_
  conv => whnf
  refine andI h (fun _ h => ?_) (fun _ h => ?_)
  · conv => whnf
    obtain rfl := Option.some.inj h
    exact lfP []
  · conv => whnf
    obtain rfl := Option.some.inj h
    exact lfP []

noncomputable def laws_szHelloEntryS_m (a0 : (List HelloEntry)) (a1 : Int) : Option (Int) :=
(if (decide ((IntKind.i64.wrap (a1 - ((a0.length : Nat) : Int))) < 0)) = true then
 some (-1)
else
 some (IntKind.i64.wrap (a1 - ((a0.length : Nat) : Int))))

theorem laws_szHelloEntryS_c {a0 : (List HelloEntry)} {a1 : Int} {r : Int} (h : laws_szHelloEntryS_m a0 a1 = some r) : PureC Try.prog 22 [.d (slD HelloEntry.enc a0), .d (.int .i64 a1)] (.d (.int .i64 r)) [] := by
  refine pureC_x tOk (fn := Try.f22) (c := codeOf Try.f22) rfl rfl ?_
  unfold laws_szHelloEntryS_m at h
  conv => whnf
  refine seq_in tOk ?_
  conv => whnf
  refine andI h (fun _ h => ?_) (fun _ h => ?_)
  · conv => whnf
    obtain rfl := Option.some.inj h
    exact lfP []
  · conv => whnf
    obtain rfl := Option.some.inj h
    exact lfP []

noncomputable def laws_szHelloRouteS_m (a0 : (List HelloRoute)) (a1 : Int) : Option (Int) :=
(if (decide ((IntKind.i64.wrap (a1 - ((a0.length : Nat) : Int))) < 0)) = true then
 some (-1)
else
 some (IntKind.i64.wrap (a1 - ((a0.length : Nat) : Int))))

theorem laws_szHelloRouteS_c {a0 : (List HelloRoute)} {a1 : Int} {r : Int} (h : laws_szHelloRouteS_m a0 a1 = some r) : PureC Try.prog 23 [.d (slD HelloRoute.enc a0), .d (.int .i64 a1)] (.d (.int .i64 r)) [] := by
  refine pureC_x tOk (fn := Try.f23) (c := codeOf Try.f23) rfl rfl ?_
  unfold laws_szHelloRouteS_m at h
  conv => whnf
  refine seq_in tOk ?_
  conv => whnf
  refine andI h (fun _ h => ?_) (fun _ h => ?_)
  · conv => whnf
    obtain rfl := Option.some.inj h
    exact lfP []
  · conv => whnf
    obtain rfl := Option.some.inj h
    exact lfP []

noncomputable def laws_szHelloEnd_m (a0 : HelloEnd) (a1 : Int) : Option (Int) :=
 bd (laws_szHelloKeyS_m a0.Keys a1) fun x1 =>
(if (decide (x1 < 0)) = true then
 some (-1)
else
 bd (laws_szHelloEntryS_m a0.Want x1) fun x2 =>
(if (decide (x2 < 0)) = true then
 some (-1)
else
 bd (laws_szHelloEntryS_m a0.Told x2) fun x3 =>
(if (decide (x3 < 0)) = true then
 some (-1)
else
 bd (laws_szHelloRouteS_m a0.Heard x3) fun x4 =>
(if (decide (x4 < 0)) = true then
 some (-1)
else
 some x4))))

theorem laws_szHelloEnd_c {a0 : HelloEnd} {a1 : Int} {r : Int} (h : laws_szHelloEnd_m a0 a1 = some r) : PureC Try.prog 5 [.agg [.d (.int .i64 a0.Name), .d (.int .i64 a0.Peer), .d (slD HelloKey.enc a0.Keys), .d (.int .i64 a0.Boot), .d (slD HelloEntry.enc a0.Want), .d (.int .i64 a0.Turn), .d (.int .i64 a0.PeerBoot), .d (.int .i64 a0.PeerTurn), .d (.bool a0.Up), .d (.int .i64 a0.Left), .d (.int .i64 a0.Num), .d (.int .i64 a0.Under.Kind), .d (.int .i64 a0.Under.Entry.Addr), .d (.int .i64 a0.Under.Entry.Len), .d (.int .i64 a0.Under.Entry.Cost), .d (.int .i64 a0.Under.Entry.Label), .d (slD HelloEntry.enc a0.Told), .d (.bool a0.All), .d (.int .i64 a0.Got), .d (.bool a0.Full), .d (slD HelloRoute.enc a0.Heard), .d (.int .i64 a0.Keep)], .d (.int .i64 a1)] (.d (.int .i64 r)) [] := by
  refine pureC_x tOk (fn := Try.f5) (c := codeOf Try.f5) rfl rfl ?_
  unfold laws_szHelloEnd_m at h
  conv => whnf
  obtain ⟨x1, hx1, h⟩ := bd_some h
  refine cC 0 (laws_szHelloKeyS_c hx1) ?_
  clear hx1
  conv => whnf
  refine seq_in tOk ?_
  conv => whnf
  refine andI h (fun _ h => ?_) (fun _ h => ?_)
  · conv => whnf
    obtain rfl := Option.some.inj h
    exact lfP []
  · conv => whnf
    obtain ⟨x2, hx2, h⟩ := bd_some h
    refine cC 0 (laws_szHelloEntryS_c hx2) ?_
    clear hx2
    conv => whnf
    refine seq_in tOk ?_
    conv => whnf
    refine andI h (fun _ h => ?_) (fun _ h => ?_)
    · conv => whnf
      obtain rfl := Option.some.inj h
      exact lfP []
    · conv => whnf
      obtain ⟨x3, hx3, h⟩ := bd_some h
      refine cC 0 (laws_szHelloEntryS_c hx3) ?_
      clear hx3
      conv => whnf
      refine seq_in tOk ?_
      conv => whnf
      refine andI h (fun _ h => ?_) (fun _ h => ?_)
      · conv => whnf
        obtain rfl := Option.some.inj h
        exact lfP []
      · conv => whnf
        obtain ⟨x4, hx4, h⟩ := bd_some h
        refine cC 0 (laws_szHelloRouteS_c hx4) ?_
        clear hx4
        conv => whnf
        refine seq_in tOk ?_
        conv => whnf
        refine andI h (fun _ h => ?_) (fun _ h => ?_)
        · conv => whnf
          obtain rfl := Option.some.inj h
          exact lfP []
        · conv => whnf
          obtain rfl := Option.some.inj h
          exact lfP []

noncomputable def laws_toHelloKey_m (a0 : HelloKey) : Option (HelloKey) :=
 some a0

theorem laws_toHelloKey_c {a0 : HelloKey} {r : HelloKey} (h : laws_toHelloKey_m a0 = some r) : PureC Try.prog 79 [.agg [.d (.int .i64 a0.Id), .d (.int .i64 a0.Secret)]] (.agg [.d (.int .i64 r.Id), .d (.int .i64 r.Secret)]) [] := by
  refine pureC_x tOk (fn := Try.f79) (c := codeOf Try.f79) rfl rfl ?_
  unfold laws_toHelloKey_m at h
  conv => whnf
  obtain rfl := Option.some.inj h
  exact lfP []

noncomputable def laws_toHelloKeyS_m (a0 : (List HelloKey)) : Option ((List HelloKey)) :=
 gd ((0 : Int) ≤ ((a0.length : Nat) : Int) ∧ ((a0.length : Nat) : Int) ≤ ((a0.length : Nat) : Int) ∧ ((a0.length : Nat) : Int) * 16 ≤ 140737488355328 ∧ ((a0.length : Nat) : Int) ≤ 140737488355328) <|
 bd (lp (σ := List HelloKey × Int) (β := (Nat × (List HelloKey))) (fun s1 =>
(if (decide (s1.2 < ((a0.length : Nat) : Int))) = true then
 gd ((0 : Int) ≤ s1.2 ∧ s1.2 < ((a0.length : Nat) : Int)) <|
 bd (laws_toHelloKey_m (a0.getD s1.2.toNat default)) fun x6 =>
 gd ((0 : Int) ≤ s1.2 ∧ s1.2 < ((s1.1.length : Nat) : Int)) <|
 some (.inl (s1.1.set s1.2.toNat x6, IntKind.i64.wrap (s1.2 + 1)))
else
 some (.inr (s1.1.length, s1.1)))) ((List.replicate (((a0.length : Nat) : Int) : Int).toNat (default : HelloKey)), 0)) fun x4 =>
 some x4.2

theorem laws_toHelloKeyS_c {a0 : (List HelloKey)} {r : (List HelloKey)} (h : laws_toHelloKeyS_m a0 = some r) : PureC Try.prog 28 [.d (slD HelloKey.enc a0)] (.osl 5001 0 r.length) [⟨5001, 113, 2, r.length, rows HelloKey.enc r⟩] := by
  refine pureC_x tOk (fn := Try.f28) (c := codeOf Try.f28) rfl rfl ?_
  unfold laws_toHelloKeyS_m at h
  conv => whnf
  obtain ⟨g9, h⟩ := gd_some h
  refine And.intro g9 ?_
  clear g9
  refine ⟨(List.replicate (((a0.length : Nat) : Int) : Int).toNat (default : HelloKey)).length, rows HelloKey.enc (List.replicate (((a0.length : Nat) : Int) : Int).toNat (default : HelloKey)), by simp, make_rows rfl, ?_⟩
  conv => whnf
  refine seq_in tOk ?_
  conv => whnf
  obtain ⟨x4, hx4, h⟩ := bd_some h
  refine loop_m tOk hx4 (fun s1 => ⟨0, 23, [(0, .d (slD HelloKey.enc a0)), (3, .osl 7 0 s1.1.length), (4, .d (.int .i64 s1.2))], [], [(7, .arr 113 2 s1.1.length (rows HelloKey.enc s1.1))], []⟩) ?_ ?_
  · exact leX []
  · clear hx4
    intro s1 y2 g3 hy2
    conv => whnf
    refine seq_in tOk ?_
    conv => whnf
    refine andI g3 (fun _ g3 => ?_) (fun _ g3 => ?_)
    · conv => whnf
      refine seq_in tOk ?_
      conv => whnf
      refine gdI g3 (fun g3 => ?_)
      conv => whnf
      obtain ⟨x6, hx6, g3⟩ := bd_some g3
      refine cC 0 (laws_toHelloKey_c hx6) ?_
      clear hx6
      conv => whnf
      refine gdI g3 (fun g3 => ?_)
      conv => whnf
      refine ⟨rows HelloKey.enc (s1.1.set s1.2.toNat x6), store_rows' lenA rfl, ?_⟩
      conv => whnf
      obtain rfl := Option.some.inj g3
      exact ⟨_, rfl, leX []⟩
    · conv => whnf
      obtain rfl := Option.some.inj g3
      obtain rfl := hy2 _ rfl
      obtain rfl := Option.some.inj h
      exact lfP [.s [(7, 5001), (5001, 7)]]

noncomputable def laws_toHelloEntry_m (a0 : HelloEntry) : Option (HelloEntry) :=
 some a0

theorem laws_toHelloEntry_c {a0 : HelloEntry} {r : HelloEntry} (h : laws_toHelloEntry_m a0 = some r) : PureC Try.prog 80 [.agg [.d (.int .i64 a0.Addr), .d (.int .i64 a0.Len), .d (.int .i64 a0.Cost), .d (.int .i64 a0.Label)]] (.agg [.d (.int .i64 r.Addr), .d (.int .i64 r.Len), .d (.int .i64 r.Cost), .d (.int .i64 r.Label)]) [] := by
  refine pureC_x tOk (fn := Try.f80) (c := codeOf Try.f80) rfl rfl ?_
  unfold laws_toHelloEntry_m at h
  conv => whnf
  obtain rfl := Option.some.inj h
  exact lfP []

noncomputable def laws_toHelloEntryS_m (a0 : (List HelloEntry)) : Option ((List HelloEntry)) :=
 gd ((0 : Int) ≤ ((a0.length : Nat) : Int) ∧ ((a0.length : Nat) : Int) ≤ ((a0.length : Nat) : Int) ∧ ((a0.length : Nat) : Int) * 32 ≤ 140737488355328 ∧ ((a0.length : Nat) : Int) ≤ 140737488355328) <|
 bd (lp (σ := List HelloEntry × Int) (β := (Nat × (List HelloEntry))) (fun s1 =>
(if (decide (s1.2 < ((a0.length : Nat) : Int))) = true then
 gd ((0 : Int) ≤ s1.2 ∧ s1.2 < ((a0.length : Nat) : Int)) <|
 bd (laws_toHelloEntry_m (a0.getD s1.2.toNat default)) fun x6 =>
 gd ((0 : Int) ≤ s1.2 ∧ s1.2 < ((s1.1.length : Nat) : Int)) <|
 some (.inl (s1.1.set s1.2.toNat x6, IntKind.i64.wrap (s1.2 + 1)))
else
 some (.inr (s1.1.length, s1.1)))) ((List.replicate (((a0.length : Nat) : Int) : Int).toNat (default : HelloEntry)), 0)) fun x4 =>
 some x4.2

theorem laws_toHelloEntryS_c {a0 : (List HelloEntry)} {r : (List HelloEntry)} (h : laws_toHelloEntryS_m a0 = some r) : PureC Try.prog 29 [.d (slD HelloEntry.enc a0)] (.osl 5001 0 r.length) [⟨5001, 34, 4, r.length, rows HelloEntry.enc r⟩] := by
  refine pureC_x tOk (fn := Try.f29) (c := codeOf Try.f29) rfl rfl ?_
  unfold laws_toHelloEntryS_m at h
  conv => whnf
  obtain ⟨g9, h⟩ := gd_some h
  refine And.intro g9 ?_
  clear g9
  refine ⟨(List.replicate (((a0.length : Nat) : Int) : Int).toNat (default : HelloEntry)).length, rows HelloEntry.enc (List.replicate (((a0.length : Nat) : Int) : Int).toNat (default : HelloEntry)), by simp, make_rows rfl, ?_⟩
  conv => whnf
  refine seq_in tOk ?_
  conv => whnf
  obtain ⟨x4, hx4, h⟩ := bd_some h
  refine loop_m tOk hx4 (fun s1 => ⟨0, 23, [(0, .d (slD HelloEntry.enc a0)), (3, .osl 7 0 s1.1.length), (4, .d (.int .i64 s1.2))], [], [(7, .arr 34 4 s1.1.length (rows HelloEntry.enc s1.1))], []⟩) ?_ ?_
  · exact leX []
  · clear hx4
    intro s1 y2 g3 hy2
    conv => whnf
    refine seq_in tOk ?_
    conv => whnf
    refine andI g3 (fun _ g3 => ?_) (fun _ g3 => ?_)
    · conv => whnf
      refine seq_in tOk ?_
      conv => whnf
      refine gdI g3 (fun g3 => ?_)
      conv => whnf
      obtain ⟨x6, hx6, g3⟩ := bd_some g3
      refine cC 0 (laws_toHelloEntry_c hx6) ?_
      clear hx6
      conv => whnf
      refine gdI g3 (fun g3 => ?_)
      conv => whnf
      refine ⟨rows HelloEntry.enc (s1.1.set s1.2.toNat x6), store_rows' lenA rfl, ?_⟩
      conv => whnf
      obtain rfl := Option.some.inj g3
      exact ⟨_, rfl, leX []⟩
    · conv => whnf
      obtain rfl := Option.some.inj g3
      obtain rfl := hy2 _ rfl
      obtain rfl := Option.some.inj h
      exact lfP [.s [(7, 5001), (5001, 7)]]

noncomputable def laws_toHelloChange_m (a0 : HelloChange) : Option (HelloChange) :=
 bd (laws_toHelloEntry_m a0.Entry) fun x1 =>
 some (⟨a0.Kind, x1⟩ : HelloChange)

theorem laws_toHelloChange_c {a0 : HelloChange} {r : HelloChange} (h : laws_toHelloChange_m a0 = some r) : PureC Try.prog 30 [.agg [.d (.int .i64 a0.Kind), .d (.int .i64 a0.Entry.Addr), .d (.int .i64 a0.Entry.Len), .d (.int .i64 a0.Entry.Cost), .d (.int .i64 a0.Entry.Label)]] (.agg [.d (.int .i64 r.Kind), .d (.int .i64 r.Entry.Addr), .d (.int .i64 r.Entry.Len), .d (.int .i64 r.Entry.Cost), .d (.int .i64 r.Entry.Label)]) [] := by
  refine pureC_x tOk (fn := Try.f30) (c := codeOf Try.f30) rfl rfl ?_
  unfold laws_toHelloChange_m at h
  conv => whnf
  obtain ⟨x1, hx1, h⟩ := bd_some h
  refine cC 0 (laws_toHelloEntry_c hx1) ?_
  clear hx1
  conv => whnf
  obtain rfl := Option.some.inj h
  exact lfP []

noncomputable def laws_toHelloRoute_m (a0 : HelloRoute) : Option (HelloRoute) :=
 bd (laws_toHelloEntry_m a0.Entry) fun x1 =>
 some (⟨x1, a0.Stale⟩ : HelloRoute)

theorem laws_toHelloRoute_c {a0 : HelloRoute} {r : HelloRoute} (h : laws_toHelloRoute_m a0 = some r) : PureC Try.prog 81 [.agg [.d (.int .i64 a0.Entry.Addr), .d (.int .i64 a0.Entry.Len), .d (.int .i64 a0.Entry.Cost), .d (.int .i64 a0.Entry.Label), .d (.bool a0.Stale)]] (.agg [.d (.int .i64 r.Entry.Addr), .d (.int .i64 r.Entry.Len), .d (.int .i64 r.Entry.Cost), .d (.int .i64 r.Entry.Label), .d (.bool r.Stale)]) [] := by
  refine pureC_x tOk (fn := Try.f81) (c := codeOf Try.f81) rfl rfl ?_
  unfold laws_toHelloRoute_m at h
  conv => whnf
  obtain ⟨x1, hx1, h⟩ := bd_some h
  refine cC 0 (laws_toHelloEntry_c hx1) ?_
  clear hx1
  conv => whnf
  obtain rfl := Option.some.inj h
  exact lfP []

noncomputable def laws_toHelloRouteS_m (a0 : (List HelloRoute)) : Option ((List HelloRoute)) :=
 gd ((0 : Int) ≤ ((a0.length : Nat) : Int) ∧ ((a0.length : Nat) : Int) ≤ ((a0.length : Nat) : Int) ∧ ((a0.length : Nat) : Int) * 40 ≤ 140737488355328 ∧ ((a0.length : Nat) : Int) ≤ 140737488355328) <|
 bd (lp (σ := List HelloRoute × Int) (β := (Nat × (List HelloRoute))) (fun s1 =>
(if (decide (s1.2 < ((a0.length : Nat) : Int))) = true then
 gd ((0 : Int) ≤ s1.2 ∧ s1.2 < ((a0.length : Nat) : Int)) <|
 bd (laws_toHelloRoute_m (⟨((a0.getD s1.2.toNat default).Entry), (a0.getD s1.2.toNat default).Stale⟩ : HelloRoute)) fun x6 =>
 gd ((0 : Int) ≤ s1.2 ∧ s1.2 < ((s1.1.length : Nat) : Int)) <|
 some (.inl (s1.1.set s1.2.toNat x6, IntKind.i64.wrap (s1.2 + 1)))
else
 some (.inr (s1.1.length, s1.1)))) ((List.replicate (((a0.length : Nat) : Int) : Int).toNat (default : HelloRoute)), 0)) fun x4 =>
 some x4.2

theorem laws_toHelloRouteS_c {a0 : (List HelloRoute)} {r : (List HelloRoute)} (h : laws_toHelloRouteS_m a0 = some r) : PureC Try.prog 31 [.d (slD HelloRoute.enc a0)] (.osl 5001 0 r.length) [⟨5001, 111, 5, r.length, rows HelloRoute.enc r⟩] := by
  refine pureC_x tOk (fn := Try.f31) (c := codeOf Try.f31) rfl rfl ?_
  unfold laws_toHelloRouteS_m at h
  conv => whnf
  obtain ⟨g9, h⟩ := gd_some h
  refine And.intro g9 ?_
  clear g9
  refine ⟨(List.replicate (((a0.length : Nat) : Int) : Int).toNat (default : HelloRoute)).length, rows HelloRoute.enc (List.replicate (((a0.length : Nat) : Int) : Int).toNat (default : HelloRoute)), by simp, make_rows rfl, ?_⟩
  conv => whnf
  refine seq_in tOk ?_
  conv => whnf
  obtain ⟨x4, hx4, h⟩ := bd_some h
  refine loop_m tOk hx4 (fun s1 => ⟨0, 23, [(0, .d (slD HelloRoute.enc a0)), (3, .osl 7 0 s1.1.length), (4, .d (.int .i64 s1.2))], [], [(7, .arr 111 5 s1.1.length (rows HelloRoute.enc s1.1))], []⟩) ?_ ?_
  · exact leX []
  · clear hx4
    intro s1 y2 g3 hy2
    conv => whnf
    refine seq_in tOk ?_
    conv => whnf
    refine andI g3 (fun _ g3 => ?_) (fun _ g3 => ?_)
    · conv => whnf
      refine seq_in tOk ?_
      conv => whnf
      refine gdI g3 (fun g3 => ?_)
      conv => whnf
      obtain ⟨x6, hx6, g3⟩ := bd_some g3
      refine cC 0 (laws_toHelloRoute_c hx6) ?_
      clear hx6
      conv => whnf
      refine gdI g3 (fun g3 => ?_)
      conv => whnf
      refine ⟨rows HelloRoute.enc (s1.1.set s1.2.toNat x6), store_rows' lenA rfl, ?_⟩
      conv => whnf
      obtain rfl := Option.some.inj g3
      exact ⟨_, rfl, leX []⟩
    · conv => whnf
      obtain rfl := Option.some.inj g3
      obtain rfl := hy2 _ rfl
      obtain rfl := Option.some.inj h
      exact lfP [.s [(7, 5001), (5001, 7)]]

noncomputable def laws_toHelloEnd_m (a0 : HelloEnd) : Option (HelloEnd) :=
 bd (laws_toHelloKeyS_m a0.Keys) fun x1 =>
 bd (laws_toHelloEntryS_m a0.Want) fun x2 =>
 bd (laws_toHelloChange_m a0.Under) fun x3 =>
 bd (laws_toHelloEntryS_m a0.Told) fun x4 =>
 bd (laws_toHelloRouteS_m a0.Heard) fun x5 =>
 some ({ a0 with Keys := x1, Want := x2, Under := x3, Told := x4, Heard := x5 })

theorem laws_toHelloEnd_c {a0 : HelloEnd} {r : HelloEnd} (h : laws_toHelloEnd_m a0 = some r) : PureC Try.prog 7 [.agg [.d (.int .i64 a0.Name), .d (.int .i64 a0.Peer), .d (slD HelloKey.enc a0.Keys), .d (.int .i64 a0.Boot), .d (slD HelloEntry.enc a0.Want), .d (.int .i64 a0.Turn), .d (.int .i64 a0.PeerBoot), .d (.int .i64 a0.PeerTurn), .d (.bool a0.Up), .d (.int .i64 a0.Left), .d (.int .i64 a0.Num), .d (.int .i64 a0.Under.Kind), .d (.int .i64 a0.Under.Entry.Addr), .d (.int .i64 a0.Under.Entry.Len), .d (.int .i64 a0.Under.Entry.Cost), .d (.int .i64 a0.Under.Entry.Label), .d (slD HelloEntry.enc a0.Told), .d (.bool a0.All), .d (.int .i64 a0.Got), .d (.bool a0.Full), .d (slD HelloRoute.enc a0.Heard), .d (.int .i64 a0.Keep)]] (.agg [.d (.int .i64 r.Name), .d (.int .i64 r.Peer), .osl 5001 0 r.Keys.length, .d (.int .i64 r.Boot), .osl 5002 0 r.Want.length, .d (.int .i64 r.Turn), .d (.int .i64 r.PeerBoot), .d (.int .i64 r.PeerTurn), .d (.bool r.Up), .d (.int .i64 r.Left), .d (.int .i64 r.Num), .d (.int .i64 r.Under.Kind), .d (.int .i64 r.Under.Entry.Addr), .d (.int .i64 r.Under.Entry.Len), .d (.int .i64 r.Under.Entry.Cost), .d (.int .i64 r.Under.Entry.Label), .osl 5003 0 r.Told.length, .d (.bool r.All), .d (.int .i64 r.Got), .d (.bool r.Full), .osl 5004 0 r.Heard.length, .d (.int .i64 r.Keep)]) [⟨5001, 113, 2, r.Keys.length, rows HelloKey.enc r.Keys⟩, ⟨5002, 34, 4, r.Want.length, rows HelloEntry.enc r.Want⟩, ⟨5003, 34, 4, r.Told.length, rows HelloEntry.enc r.Told⟩, ⟨5004, 111, 5, r.Heard.length, rows HelloRoute.enc r.Heard⟩] := by
  refine pureC_x tOk (fn := Try.f7) (c := codeOf Try.f7) rfl rfl ?_
  unfold laws_toHelloEnd_m at h
  conv => whnf
  obtain ⟨x1, hx1, h⟩ := bd_some h
  refine cC 1000 (laws_toHelloKeyS_c hx1) ?_
  clear hx1
  conv => whnf
  obtain ⟨x2, hx2, h⟩ := bd_some h
  refine cC 2000 (laws_toHelloEntryS_c hx2) ?_
  clear hx2
  conv => whnf
  obtain ⟨x3, hx3, h⟩ := bd_some h
  refine cC 0 (laws_toHelloChange_c hx3) ?_
  clear hx3
  conv => whnf
  obtain ⟨x4, hx4, h⟩ := bd_some h
  refine cC 3000 (laws_toHelloEntryS_c hx4) ?_
  clear hx4
  conv => whnf
  obtain ⟨x5, hx5, h⟩ := bd_some h
  refine cC 4000 (laws_toHelloRouteS_c hx5) ?_
  clear hx5
  conv => whnf
  obtain rfl := Option.some.inj h
  exact lfP [.s [(5001, 6001), (5002, 7001), (5003, 8001), (5004, 9001), (6001, 5001), (7001, 5002), (8001, 5003), (9001, 5004)]]

noncomputable def spec_l41In_m (a0 : Int) (a1 : Int) (a2 : Int) : Option (Bool) :=
 some ((decide (a0 ≥ a1)) && (decide (a0 ≤ a2)))

theorem spec_l41In_c {a0 : Int} {a1 : Int} {a2 : Int} {r : Bool} (h : spec_l41In_m a0 a1 a2 = some r) : PureC Try.prog 69 [.d (.int .i64 a0), .d (.int .i64 a1), .d (.int .i64 a2)] (.d (.bool r)) [] := by
  refine pureC_x tOk (fn := Try.f69) (c := codeOf Try.f69) rfl rfl ?_
  unfold spec_l41In_m at h
  conv => whnf
  obtain rfl := Option.some.inj h
  exact lfP []

noncomputable def spec_HelloKeysOk_m (a0 : (List HelloKey)) : Option (Bool) :=
 bd (spec_l41In_m ((a0.length : Nat) : Int) 1 3) fun x1 =>
(if (!x1) = true then
 some false
else
 bd (lp (σ := Int) (β := (Unit ⊕ Unit)) (fun s2 =>
(if (decide (s2 < ((a0.length : Nat) : Int))) = true then
 gd ((0 : Int) ≤ s2 ∧ s2 < ((a0.length : Nat) : Int)) <|
 bd (spec_l41In_m ((a0.getD s2.toNat default).Id) 1 9) fun x7 =>
 gd ((!x7) = false → ((0 : Int) ≤ s2 ∧ s2 < ((a0.length : Nat) : Int))) <|
 bd (gcall ((!x7) = false) (spec_l41In_m ((a0.getD s2.toNat default).Secret) 1 2147483646)) fun x9 =>
 gd ((decide (s2 > 0)) = true → (((!x7) || (!x9)) = false → ((0 : Int) ≤ IntKind.i64.wrap (s2 - 1) ∧ IntKind.i64.wrap (s2 - 1) < ((a0.length : Nat) : Int)))) <|
 gd ((decide (s2 > 0)) = true → (((!x7) || (!x9)) = false → ((0 : Int) ≤ s2 ∧ s2 < ((a0.length : Nat) : Int)))) <|
(if (((!x7) || (!x9)) || ((decide (s2 > 0)) && (decide (((a0.getD ((IntKind.i64.wrap (s2 - 1)).toNat) default).Id) ≥ ((a0.getD s2.toNat default).Id))))) = true then
 some (.inr (.inl ()))
else
 some (.inl (IntKind.i64.wrap (s2 + 1))))
else
 some (.inr (.inr ())))) 0) fun x5 =>
(match x5 with
| .inl d12 =>
 some false
| .inr d13 =>
 some true))

theorem spec_HelloKeysOk_c {a0 : (List HelloKey)} {r : Bool} (h : spec_HelloKeysOk_m a0 = some r) : PureC Try.prog 70 [.d (slD HelloKey.enc a0)] (.d (.bool r)) [] := by
  refine pureC_x tOk (fn := Try.f70) (c := codeOf Try.f70) rfl rfl ?_
  unfold spec_HelloKeysOk_m at h
  conv => whnf
  refine seq_in tOk ?_
  conv => whnf
  obtain ⟨x1, hx1, h⟩ := bd_some h
  refine cC 0 (spec_l41In_c hx1) ?_
  clear hx1
  conv => whnf
  refine andI h (fun _ h => ?_) (fun _ h => ?_)
  · conv => whnf
    obtain rfl := Option.some.inj h
    exact lfP []
  · conv => whnf
    refine seq_in tOk ?_
    conv => whnf
    obtain ⟨x5, hx5, h⟩ := bd_some h
    refine loop_m tOk hx5 (fun s2 => ⟨0, 48, [(0, .d (slD HelloKey.enc a0)), (3, .d (.int .i64 s2))], [], [], []⟩) ?_ ?_
    · exact leX []
    · clear hx5
      intro s2 y3 g4 hy3
      conv => whnf
      refine seq_in tOk ?_
      conv => whnf
      refine andI g4 (fun _ g4 => ?_) (fun _ g4 => ?_)
      · conv => whnf
        refine seq_in tOk ?_
        conv => whnf
        obtain ⟨g6, g4⟩ := gd_some g4
        obtain ⟨x7, hx7, g4⟩ := bd_some g4
        obtain ⟨g8, g4⟩ := gd_some g4
        obtain ⟨x9, hx9, g4⟩ := bd_some g4
        obtain ⟨g10, g4⟩ := gd_some g4
        obtain ⟨g11, g4⟩ := gd_some g4
        refine draw_u tOk [.u 5 0 (.d (.bool x7)) [], .u 13 0 (.d (.bool x9)) []] 34 [] [0, 0, 3, 7, 15, 31, 63, 127, 255, 255, 1023, 2047, 4095, 8191, 16383, 32767, 65535, 131071, 262143, 524287, 1048575, 1048575, 3145727, 8388607, 16777215, 33554431, 1048575, 1048575, 202375167, 470810623, 1007681535, 2147483647, 4294967295, 8589934591] [] ?_
        conv => whnf
        refine And.intro g6 ?_
        clear g6
        conv => whnf
        refine And.intro (callD_any (spec_l41In_c hx7) (by kernel_rfl)) ?_
        conv => whnf
        refine And.intro g8 ?_
        clear g8
        conv => whnf
        refine And.intro (callDG_if rfl rfl rfl rfl (by intro c0; exact spec_l41In_c (gcall_some hx9 c0))) ?_
        conv => whnf
        refine And.intro g10 ?_
        clear g10
        conv => whnf
        refine And.intro g11 ?_
        clear g11
        conv => whnf
        refine And.intro (by kernel_rfl) ?_
        conv => whnf
        refine andI g4 (fun _ g4 => ?_) (fun _ g4 => ?_)
        · conv => whnf
          obtain rfl := Option.some.inj g4
          obtain rfl := hy3 _ rfl
          obtain rfl := Option.some.inj h
          exact lfP []
        · conv => whnf
          obtain rfl := Option.some.inj g4
          exact ⟨_, rfl, leX []⟩
      · conv => whnf
        obtain rfl := Option.some.inj g4
        obtain rfl := hy3 _ rfl
        obtain rfl := Option.some.inj h
        exact lfP []

noncomputable def spec_l41Size_m (a0 : Int) : Option (Int) :=
 bd (lp (σ := Int × Int) (β := (Int)) (fun s1 =>
(if (decide (s1.2 < 16)) = true then
 some (.inl (IntKind.i64.wrap (s1.1 * 2), IntKind.i64.wrap (s1.2 + 1)))
else
 some (.inr s1.1))) (1, a0)) fun x4 =>
 some x4

theorem spec_l41Size_c {a0 : Int} {r : Int} (h : spec_l41Size_m a0 = some r) : PureC Try.prog 148 [.d (.int .i64 a0)] (.d (.int .i64 r)) [] := by
  refine pureC_x tOk (fn := Try.f148) (c := codeOf Try.f148) rfl rfl ?_
  unfold spec_l41Size_m at h
  conv => whnf
  refine seq_in tOk ?_
  conv => whnf
  obtain ⟨x4, hx4, h⟩ := bd_some h
  refine loop_m tOk hx4 (fun s1 => ⟨0, 13, [(3, .d (.int .i64 s1.1)), (4, .d (.int .i64 s1.2))], [], [], []⟩) ?_ ?_
  · exact leX []
  · clear hx4
    intro s1 y2 g3 hy2
    conv => whnf
    refine seq_in tOk ?_
    conv => whnf
    refine andI g3 (fun _ g3 => ?_) (fun _ g3 => ?_)
    · conv => whnf
      refine seq_in tOk ?_
      conv => whnf
      obtain rfl := Option.some.inj g3
      exact ⟨_, rfl, leX []⟩
    · conv => whnf
      obtain rfl := Option.some.inj g3
      obtain rfl := hy2 _ rfl
      obtain rfl := Option.some.inj h
      exact lfP []

noncomputable def spec_l41Prefix_m (a0 : HelloEntry) : Option (Bool) :=
 bd (spec_l41In_m a0.Len 0 16) fun x1 =>
 bd (gcall (x1 = true) (spec_l41In_m a0.Addr 0 65535)) fun x2 =>
 bd (gcall ((x1 && x2) = true) (spec_l41Size_m a0.Len)) fun x3 =>
 gd ((x1 && x2) = true → ((x3 : Int) ≠ 0)) <|
 some ((x1 && x2) && (((a0.Addr : Int).tmod x3) == 0))

theorem spec_l41Prefix_c {a0 : HelloEntry} {r : Bool} (h : spec_l41Prefix_m a0 = some r) : PureC Try.prog 123 [.agg [.d (.int .i64 a0.Addr), .d (.int .i64 a0.Len), .d (.int .i64 a0.Cost), .d (.int .i64 a0.Label)]] (.d (.bool r)) [] := by
  refine pureC_x tOk (fn := Try.f123) (c := codeOf Try.f123) rfl rfl ?_
  unfold spec_l41Prefix_m at h
  conv => whnf
  obtain ⟨x1, hx1, h⟩ := bd_some h
  obtain ⟨x2, hx2, h⟩ := bd_some h
  obtain ⟨x3, hx3, h⟩ := bd_some h
  obtain ⟨g4, h⟩ := gd_some h
  refine draw_u tOk [.u 2 0 (.d (.bool x1)) [], .u 6 0 (.d (.bool x2)) [], .u 13 0 (.d (.int .i64 x3)) []] 18 [] [0, 1, 3, 7, 15, 31, 63, 127, 255, 511, 1023, 511, 2559, 6655, 16383, 32767, 65535, 131071] [] ?_
  conv => whnf
  refine And.intro (callD_any (spec_l41In_c hx1) (by kernel_rfl)) ?_
  conv => whnf
  refine And.intro (callDG_if rfl rfl rfl rfl (by intro c0; exact spec_l41In_c (gcall_some hx2 c0))) ?_
  conv => whnf
  refine And.intro (callDG_if rfl rfl rfl rfl (by intro c0; exact spec_l41Size_c (gcall_some hx3 c0))) ?_
  conv => whnf
  refine And.intro g4 ?_
  clear g4
  conv => whnf
  refine And.intro (by kernel_rfl) ?_
  conv => whnf
  obtain rfl := Option.some.inj h
  exact lfP []

noncomputable def spec_l41EntryOk_m (a0 : HelloEntry) : Option (Bool) :=
 bd (spec_l41Prefix_m a0) fun x1 =>
 bd (gcall (x1 = true) (spec_l41In_m a0.Cost 1 255)) fun x2 =>
 bd (gcall ((x1 && x2) = true) (spec_l41In_m a0.Label 0 1000)) fun x3 =>
 some ((x1 && x2) && x3)

theorem spec_l41EntryOk_c {a0 : HelloEntry} {r : Bool} (h : spec_l41EntryOk_m a0 = some r) : PureC Try.prog 121 [.agg [.d (.int .i64 a0.Addr), .d (.int .i64 a0.Len), .d (.int .i64 a0.Cost), .d (.int .i64 a0.Label)]] (.d (.bool r)) [] := by
  refine pureC_x tOk (fn := Try.f121) (c := codeOf Try.f121) rfl rfl ?_
  unfold spec_l41EntryOk_m at h
  conv => whnf
  obtain ⟨x1, hx1, h⟩ := bd_some h
  refine cC 0 (spec_l41Prefix_c hx1) ?_
  clear hx1
  conv => whnf
  obtain ⟨x2, hx2, h⟩ := bd_some h
  refine cG (fun c0 => spec_l41In_c (gcall_some hx2 c0)) ?_
  conv => whnf
  obtain ⟨x3, hx3, h⟩ := bd_some h
  refine cG (fun c0 => spec_l41In_c (gcall_some hx3 c0)) ?_
  conv => whnf
  obtain rfl := Option.some.inj h
  exact lfP []

noncomputable def spec_l41Less_m (a0 : HelloEntry) (a1 : HelloEntry) : Option (Bool) :=
 some ((decide (a0.Addr < a1.Addr)) || ((a0.Addr == a1.Addr) && (decide (a0.Len < a1.Len))))

theorem spec_l41Less_c {a0 : HelloEntry} {a1 : HelloEntry} {r : Bool} (h : spec_l41Less_m a0 a1 = some r) : PureC Try.prog 122 [.agg [.d (.int .i64 a0.Addr), .d (.int .i64 a0.Len), .d (.int .i64 a0.Cost), .d (.int .i64 a0.Label)], .agg [.d (.int .i64 a1.Addr), .d (.int .i64 a1.Len), .d (.int .i64 a1.Cost), .d (.int .i64 a1.Label)]] (.d (.bool r)) [] := by
  refine pureC_x tOk (fn := Try.f122) (c := codeOf Try.f122) rfl rfl ?_
  unfold spec_l41Less_m at h
  conv => whnf
  obtain rfl := Option.some.inj h
  exact lfP []

noncomputable def spec_HelloTableOk_m (a0 : (List HelloEntry)) : Option (Bool) :=
(if (decide (((a0.length : Nat) : Int) > 8)) = true then
 some false
else
 bd (lp (σ := Int) (β := (Unit ⊕ Unit)) (fun s1 =>
(if (decide (s1 < ((a0.length : Nat) : Int))) = true then
 gd ((0 : Int) ≤ s1 ∧ s1 < ((a0.length : Nat) : Int)) <|
 bd (spec_l41EntryOk_m (a0.getD s1.toNat default)) fun x6 =>
 gd ((decide (s1 > 0)) = true → ((!x6) = false → ((0 : Int) ≤ IntKind.i64.wrap (s1 - 1) ∧ IntKind.i64.wrap (s1 - 1) < ((a0.length : Nat) : Int)))) <|
 gd ((decide (s1 > 0)) = true → ((!x6) = false → ((0 : Int) ≤ s1 ∧ s1 < ((a0.length : Nat) : Int)))) <|
 bd (gcall ((decide (s1 > 0)) = true ∧ (!x6) = false) (spec_l41Less_m (a0.getD ((IntKind.i64.wrap (s1 - 1)).toNat) default) (a0.getD s1.toNat default))) fun x9 =>
(if ((!x6) || ((decide (s1 > 0)) && (!x9))) = true then
 some (.inr (.inl ()))
else
 some (.inl (IntKind.i64.wrap (s1 + 1))))
else
 some (.inr (.inr ())))) 0) fun x4 =>
(match x4 with
| .inl d10 =>
 some false
| .inr d11 =>
 some true))

theorem spec_HelloTableOk_c {a0 : (List HelloEntry)} {r : Bool} (h : spec_HelloTableOk_m a0 = some r) : PureC Try.prog 71 [.d (slD HelloEntry.enc a0)] (.d (.bool r)) [] := by
  refine pureC_x tOk (fn := Try.f71) (c := codeOf Try.f71) rfl rfl ?_
  unfold spec_HelloTableOk_m at h
  conv => whnf
  refine seq_in tOk ?_
  conv => whnf
  refine andI h (fun _ h => ?_) (fun _ h => ?_)
  · conv => whnf
    obtain rfl := Option.some.inj h
    exact lfP []
  · conv => whnf
    refine seq_in tOk ?_
    conv => whnf
    obtain ⟨x4, hx4, h⟩ := bd_some h
    refine loop_m tOk hx4 (fun s1 => ⟨0, 36, [(0, .d (slD HelloEntry.enc a0)), (3, .d (.int .i64 s1))], [], [], []⟩) ?_ ?_
    · exact leX []
    · clear hx4
      intro s1 y2 g3 hy2
      conv => whnf
      refine seq_in tOk ?_
      conv => whnf
      refine andI g3 (fun _ g3 => ?_) (fun _ g3 => ?_)
      · conv => whnf
        refine seq_in tOk ?_
        conv => whnf
        obtain ⟨g5, g3⟩ := gd_some g3
        obtain ⟨x6, hx6, g3⟩ := bd_some g3
        obtain ⟨g7, g3⟩ := gd_some g3
        obtain ⟨g8, g3⟩ := gd_some g3
        obtain ⟨x9, hx9, g3⟩ := bd_some g3
        refine draw_u tOk [.u 4 0 (.d (.bool x6)) [], .u 19 0 (.d (.bool x9)) []] 23 [] [0, 0, 3, 7, 15, 31, 63, 127, 255, 511, 1023, 1023, 3071, 8191, 16383, 1023, 1023, 99327, 230399, 524287, 1048575, 2097151, 4194303] [] ?_
        conv => whnf
        refine And.intro g5 ?_
        clear g5
        conv => whnf
        refine And.intro (callD_any (spec_l41EntryOk_c hx6) (by kernel_rfl)) ?_
        conv => whnf
        refine And.intro g7 ?_
        clear g7
        conv => whnf
        refine And.intro g8 ?_
        clear g8
        conv => whnf
        refine And.intro (callDG_if rfl rfl rfl rfl (by intro c0 c1; exact spec_l41Less_c (gcall_some hx9 ⟨c0, c1⟩))) ?_
        conv => whnf
        refine And.intro (by kernel_rfl) ?_
        conv => whnf
        refine andI g3 (fun _ g3 => ?_) (fun _ g3 => ?_)
        · conv => whnf
          obtain rfl := Option.some.inj g3
          obtain rfl := hy2 _ rfl
          obtain rfl := Option.some.inj h
          exact lfP []
        · conv => whnf
          obtain rfl := Option.some.inj g3
          exact ⟨_, rfl, leX []⟩
      · conv => whnf
        obtain rfl := Option.some.inj g3
        obtain rfl := hy2 _ rfl
        obtain rfl := Option.some.inj h
        exact lfP []

noncomputable def spec_l41ChangeOk_m (a0 : HelloChange) : Option (Bool) :=
 bd (α := Bool) ((if (a0.Kind == 0) = true then
 some (a0.Kind == 0)
else
 some (a0.Kind == 3))) fun x1 =>
(if x1 = true then
 some ((a0.Entry.Addr == 0) && ((a0.Entry.Len == 0) && ((a0.Entry.Cost == 0) && ((a0.Entry.Label == 0) && true))))
else
(if (a0.Kind == 1) = true then
 bd (spec_l41EntryOk_m a0.Entry) fun x4 =>
 some x4
else
(if (a0.Kind == 2) = true then
 bd (spec_l41Prefix_m a0.Entry) fun x5 =>
 some ((x5 && (a0.Entry.Cost == 0)) && (a0.Entry.Label == 0))
else
 some false)))

theorem spec_l41ChangeOk_c {a0 : HelloChange} {r : Bool} (h : spec_l41ChangeOk_m a0 = some r) : PureC Try.prog 72 [.agg [.d (.int .i64 a0.Kind), .d (.int .i64 a0.Entry.Addr), .d (.int .i64 a0.Entry.Len), .d (.int .i64 a0.Entry.Cost), .d (.int .i64 a0.Entry.Label)]] (.d (.bool r)) [] := by
  refine pureC_x tOk (fn := Try.f72) (c := codeOf Try.f72) rfl rfl ?_
  unfold spec_l41ChangeOk_m at h
  conv => whnf
  refine seq_in tOk ?_
  conv => whnf
  obtain ⟨x1, hx1, h⟩ := bd_some h
  refine seq_join tOk (fun s2 => ⟨0, 34, [(1, .ref 1 0 0), (4, .d (.int .i64 a0.Kind)), (5, .d (.bool s2))], [], [(1, .box 36 [.d (.int .i64 a0.Kind), .d (.int .i64 a0.Entry.Addr), .d (.int .i64 a0.Entry.Len), .d (.int .i64 a0.Entry.Cost), .d (.int .i64 a0.Entry.Label)])], []⟩) (fun s2 => x1 = s2) ?_ ?_
  · conv => whnf
    refine andI hx1 (fun _ hx1 => ?_) (fun _ hx1 => ?_)
    · conv => whnf
      obtain rfl := Option.some.inj hx1
      exact ⟨_, rfl, leX []⟩
    · conv => whnf
      obtain rfl := Option.some.inj hx1
      exact ⟨_, rfl, leX []⟩
  · rintro _ rfl
    conv => whnf
    refine andI h (fun _ h => ?_) (fun _ h => ?_)
    · conv => whnf
      obtain rfl := Option.some.inj h
      exact lfP []
    · conv => whnf
      refine andI h (fun _ h => ?_) (fun _ h => ?_)
      · conv => whnf
        obtain ⟨x4, hx4, h⟩ := bd_some h
        refine cC 0 (spec_l41EntryOk_c hx4) ?_
        clear hx4
        conv => whnf
        obtain rfl := Option.some.inj h
        exact lfP []
      · conv => whnf
        refine andI h (fun _ h => ?_) (fun _ h => ?_)
        · conv => whnf
          obtain ⟨x5, hx5, h⟩ := bd_some h
          refine cC 0 (spec_l41Prefix_c hx5) ?_
          clear hx5
          conv => whnf
          obtain rfl := Option.some.inj h
          exact lfP []
        · conv => whnf
          obtain rfl := Option.some.inj h
          exact lfP []

noncomputable def spec_l42Table_m (a0 : (List HelloEntry)) : Option ((List HelloEntry)) :=
 gd (((0) + (a0.length)) * (32 + 1) ≤ 70368744177664) <|
 some a0

theorem spec_l42Table_c {a0 : (List HelloEntry)} {r : (List HelloEntry)} (h : spec_l42Table_m a0 = some r) : PureC Try.prog 76 [.d (slD HelloEntry.enc a0)] (.osl 5001 0 r.length) [⟨5001, 34, 4, r.length, rows HelloEntry.enc r⟩] := by
  refine pureC_x tOk (fn := Try.f76) (c := codeOf Try.f76) rfl rfl ?_
  unfold spec_l42Table_m at h
  conv => whnf
  refine gdI h (fun h => ?_)
  refine appN (enc := HelloEntry.enc) (ys := a0) ?_
  conv => whnf
  obtain rfl := Option.some.inj h
  exact lfP [.s [(5, 5001), (5001, 5)]]

noncomputable def spec_l43Put_m (a0 : (List HelloEntry)) (a1 : HelloEntry) : Option ((List HelloEntry)) :=
 bd (lp (σ := Int) (β := (Int)) (fun s1 =>
 gd ((decide (s1 < ((a0.length : Nat) : Int))) = true → ((0 : Int) ≤ s1 ∧ s1 < ((a0.length : Nat) : Int))) <|
 bd (gcall ((decide (s1 < ((a0.length : Nat) : Int))) = true) (spec_l41Less_m (a0.getD s1.toNat default) a1)) fun x6 =>
(if ((decide (s1 < ((a0.length : Nat) : Int))) && x6) = true then
 some (.inl (IntKind.i64.wrap (s1 + 1)))
else
 some (.inr s1))) 0) fun x4 =>
 gd ((decide (x4 < ((a0.length : Nat) : Int))) = true → ((0 : Int) ≤ x4 ∧ x4 < ((a0.length : Nat) : Int))) <|
 gd (((decide (x4 < ((a0.length : Nat) : Int))) && (((a0.getD x4.toNat default).Addr) == a1.Addr)) = true → ((0 : Int) ≤ x4 ∧ x4 < ((a0.length : Nat) : Int))) <|
(if (((decide (x4 < ((a0.length : Nat) : Int))) && (((a0.getD x4.toNat default).Addr) == a1.Addr)) && (((a0.getD x4.toNat default).Len) == a1.Len)) = true then
 bd (spec_l42Table_m a0) fun x10 =>
 gd ((0 : Int) ≤ x4 ∧ x4 < ((x10.length : Nat) : Int)) <|
 some (x10.set x4.toNat a1)
else
 gd ((0 : Int) ≤ (0 : Int) ∧ (0 : Int) ≤ x4 ∧ x4 ≤ ((a0.length : Nat) : Int)) <|
 bd (spec_l42Table_m (a0.take x4.toNat)) fun x13 =>
 gd (((x13.length) + (([a1] : List HelloEntry).length)) * (32 + 1) ≤ 70368744177664) <|
 gd ((0 : Int) ≤ x4 ∧ x4 ≤ ((a0.length : Nat) : Int) ∧ ((a0.length : Nat) : Int) ≤ ((a0.length : Nat) : Int)) <|
 gd ((((x13 ++ ([a1] : List HelloEntry)).length) + ((dsub ((a0.length : Nat) : Int) x4))) * (32 + 1) ≤ 70368744177664) <|
 some ((x13 ++ ([a1] : List HelloEntry)) ++ (((a0).take (x4.toNat + (dsub ((a0.length : Nat) : Int) x4))).drop x4.toNat)))

theorem spec_l43Put_c {a0 : (List HelloEntry)} {a1 : HelloEntry} {r : (List HelloEntry)} (h : spec_l43Put_m a0 a1 = some r) : PureC Try.prog 124 [.d (slD HelloEntry.enc a0), .agg [.d (.int .i64 a1.Addr), .d (.int .i64 a1.Len), .d (.int .i64 a1.Cost), .d (.int .i64 a1.Label)]] (.osl 5001 0 r.length) [⟨5001, 34, 4, r.length, rows HelloEntry.enc r⟩] := by
  refine pureC_x tOk (fn := Try.f124) (c := codeOf Try.f124) rfl rfl ?_
  unfold spec_l43Put_m at h
  conv => whnf
  refine seq_in tOk ?_
  conv => whnf
  obtain ⟨x4, hx4, h⟩ := bd_some h
  refine loop_m tOk hx4 (fun s1 => ⟨0, 63, [(0, .d (slD HelloEntry.enc a0)), (3, .ref 3 0 0), (5, .d (.int .i64 s1))], [], [(3, .box 34 [.d (.int .i64 a1.Addr), .d (.int .i64 a1.Len), .d (.int .i64 a1.Cost), .d (.int .i64 a1.Label)])], []⟩) ?_ ?_
  · exact leX []
  · clear hx4
    intro s1 y2 g3 hy2
    conv => whnf
    refine seq_in tOk ?_
    conv => whnf
    obtain ⟨g5, g3⟩ := gd_some g3
    obtain ⟨x6, hx6, g3⟩ := bd_some g3
    refine draw_u tOk [.u 10 0 (.d (.bool x6)) []] 12 [] [0, 0, 2, 7, 15, 31, 31, 127, 255, 31, 1023, 2047] [] ?_
    conv => whnf
    refine And.intro g5 ?_
    clear g5
    conv => whnf
    refine And.intro (callDG_if rfl rfl rfl rfl (by intro c0; exact spec_l41Less_c (gcall_some hx6 c0))) ?_
    conv => whnf
    refine And.intro (by kernel_rfl) ?_
    conv => whnf
    refine andI g3 (fun _ g3 => ?_) (fun _ g3 => ?_)
    · conv => whnf
      obtain rfl := Option.some.inj g3
      exact ⟨_, rfl, leX []⟩
    · conv => whnf
      obtain rfl := Option.some.inj g3
      obtain rfl := hy2 _ rfl
      refine seq_in tOk ?_
      conv => whnf
      obtain ⟨g8, h⟩ := gd_some h
      obtain ⟨g9, h⟩ := gd_some h
      refine draw_u tOk [] 24 [] [0, 0, 2, 7, 15, 31, 31, 127, 255, 511, 31, 1055, 4095, 8191, 16383, 32767, 32767, 131071, 262143, 524287, 32767, 1081343, 4194303, 8388607] [] ?_
      conv => whnf
      refine And.intro g8 ?_
      clear g8
      conv => whnf
      refine And.intro g9 ?_
      clear g9
      conv => whnf
      refine And.intro (by kernel_rfl) ?_
      conv => whnf
      refine andI h (fun _ h => ?_) (fun _ h => ?_)
      · conv => whnf
        obtain ⟨x10, hx10, h⟩ := bd_some h
        refine cC 1000 (spec_l42Table_c hx10) ?_
        clear hx10
        conv => whnf
        refine gdI h (fun h => ?_)
        conv => whnf
        refine ⟨rows HelloEntry.enc (x10.set s1.toNat a1), store_rows' lenA rfl, ?_⟩
        conv => whnf
        obtain rfl := Option.some.inj h
        exact lfP [.s [(5001, 6001), (6001, 5001)]]
      · conv => whnf
        obtain ⟨g12, h⟩ := gd_some h
        obtain ⟨x13, hx13, h⟩ := bd_some h
        obtain ⟨g14, h⟩ := gd_some h
        obtain ⟨g15, h⟩ := gd_some h
        obtain ⟨g16, h⟩ := gd_some h
        refine draw_t tOk [.e 3 [] (.osl 6001 0 x13.length) [] [(6001, .arr 34 4 x13.length (rows HelloEntry.enc x13))], .a 6 [(6001, .arr 34 4 x13.length (rows HelloEntry.enc x13))] (.osl 58 0 ((x13 ++ ([a1] : List HelloEntry)).length)) [(58, .arr 34 4 ((x13 ++ ([a1] : List HelloEntry)).length) (rows HelloEntry.enc (x13 ++ ([a1] : List HelloEntry))))], .a 10 [(58, .arr 34 4 ((x13 ++ ([a1] : List HelloEntry)).length) (rows HelloEntry.enc (x13 ++ ([a1] : List HelloEntry))))] (.osl 62 0 (((x13 ++ ([a1] : List HelloEntry)) ++ (((a0).take (s1.toNat + (dsub ((a0.length : Nat) : Int) s1))).drop s1.toNat)).length)) [(62, .arr 34 4 (((x13 ++ ([a1] : List HelloEntry)) ++ (((a0).take (s1.toNat + (dsub ((a0.length : Nat) : Int) s1))).drop s1.toNat)).length) (rows HelloEntry.enc ((x13 ++ ([a1] : List HelloEntry)) ++ (((a0).take (s1.toNat + (dsub ((a0.length : Nat) : Int) s1))).drop s1.toNat))))]] 12 [] [0, 0, 3, 7, 0, 16, 63, 0, 0, 384, 1023, 2047] [] [] ?_
        conv => whnf
        refine And.intro ⟨g12, .inr rfl⟩ ?_
        conv => whnf
        refine And.intro (eH [] 1000 ((spec_l42Table_c hx13).eff rfl rfl)) ?_
        conv => whnf
        refine bldS (enc := HelloEntry.enc) ([a1] : List HelloEntry) ?_
        conv => whnf
        refine And.intro (by (conv => whnf); exact ⟨g14, appS (enc := HelloEntry.enc) (xs := x13) (ys := ([a1] : List HelloEntry)) ⟨rfl, rfl⟩⟩) ?_
        conv => whnf
        refine And.intro ⟨g15, .inr rfl⟩ ?_
        conv => whnf
        refine And.intro (by (conv => whnf); exact ⟨g16, appS (enc := HelloEntry.enc) (xs := (x13 ++ ([a1] : List HelloEntry))) (ys := ((a0).take (s1.toNat + (dsub ((a0.length : Nat) : Int) s1))).drop s1.toNat) ⟨rfl, rfl⟩⟩) ?_
        conv => whnf
        refine And.intro (by kernel_rfl) ?_
        conv => whnf
        obtain rfl := Option.some.inj h
        exact lfP [.s [(62, 5001), (5001, 62)]]

noncomputable def spec_l42At_m (a0 : (List HelloEntry)) (a1 : HelloEntry) : Option (Int) :=
 bd (lp (σ := Int) (β := (Int ⊕ Unit)) (fun s1 =>
(if (decide (s1 < ((a0.length : Nat) : Int))) = true then
 gd ((0 : Int) ≤ s1 ∧ s1 < ((a0.length : Nat) : Int)) <|
 gd ((((a0.getD s1.toNat default).Addr) == a1.Addr) = true → ((0 : Int) ≤ s1 ∧ s1 < ((a0.length : Nat) : Int))) <|
(if ((((a0.getD s1.toNat default).Addr) == a1.Addr) && (((a0.getD s1.toNat default).Len) == a1.Len)) = true then
 some (.inr (.inl s1))
else
 some (.inl (IntKind.i64.wrap (s1 + 1))))
else
 some (.inr (.inr ())))) 0) fun x4 =>
(match x4 with
| .inl d7 =>
 some d7
| .inr d8 =>
 some (-1))

theorem spec_l42At_c {a0 : (List HelloEntry)} {a1 : HelloEntry} {r : Int} (h : spec_l42At_m a0 a1 = some r) : PureC Try.prog 149 [.d (slD HelloEntry.enc a0), .agg [.d (.int .i64 a1.Addr), .d (.int .i64 a1.Len), .d (.int .i64 a1.Cost), .d (.int .i64 a1.Label)]] (.d (.int .i64 r)) [] := by
  refine pureC_x tOk (fn := Try.f149) (c := codeOf Try.f149) rfl rfl ?_
  unfold spec_l42At_m at h
  conv => whnf
  refine seq_in tOk ?_
  conv => whnf
  obtain ⟨x4, hx4, h⟩ := bd_some h
  refine loop_m tOk hx4 (fun s1 => ⟨0, 31, [(0, .d (slD HelloEntry.enc a0)), (3, .ref 3 0 0), (5, .d (.int .i64 s1))], [], [(3, .box 34 [.d (.int .i64 a1.Addr), .d (.int .i64 a1.Len), .d (.int .i64 a1.Cost), .d (.int .i64 a1.Label)])], []⟩) ?_ ?_
  · exact leX []
  · clear hx4
    intro s1 y2 g3 hy2
    conv => whnf
    refine seq_in tOk ?_
    conv => whnf
    refine andI g3 (fun _ g3 => ?_) (fun _ g3 => ?_)
    · conv => whnf
      refine seq_in tOk ?_
      conv => whnf
      obtain ⟨g5, g3⟩ := gd_some g3
      obtain ⟨g6, g3⟩ := gd_some g3
      refine draw_u tOk [] 18 [] [0, 0, 3, 7, 15, 0, 32, 127, 255, 511, 511, 2047, 4095, 8191, 511, 16895, 65535, 131071] [] ?_
      conv => whnf
      refine And.intro g5 ?_
      clear g5
      conv => whnf
      refine And.intro g6 ?_
      clear g6
      conv => whnf
      refine And.intro (by kernel_rfl) ?_
      conv => whnf
      refine andI g3 (fun _ g3 => ?_) (fun _ g3 => ?_)
      · conv => whnf
        obtain rfl := Option.some.inj g3
        obtain rfl := hy2 _ rfl
        obtain rfl := Option.some.inj h
        exact lfP []
      · conv => whnf
        obtain rfl := Option.some.inj g3
        exact ⟨_, rfl, leX []⟩
    · conv => whnf
      obtain rfl := Option.some.inj g3
      obtain rfl := hy2 _ rfl
      obtain rfl := Option.some.inj h
      exact lfP []

noncomputable def spec_l43Drop_m (a0 : (List HelloEntry)) (a1 : HelloEntry) : Option ((List HelloEntry)) :=
 bd (spec_l42At_m a0 a1) fun x1 =>
(if (decide (x1 < 0)) = true then
 bd (spec_l42Table_m a0) fun x2 =>
 some x2
else
 gd ((0 : Int) ≤ (0 : Int) ∧ (0 : Int) ≤ x1 ∧ x1 ≤ ((a0.length : Nat) : Int)) <|
 bd (spec_l42Table_m (a0.take x1.toNat)) fun x4 =>
 gd ((0 : Int) ≤ IntKind.i64.wrap (x1 + 1) ∧ IntKind.i64.wrap (x1 + 1) ≤ ((a0.length : Nat) : Int) ∧ ((a0.length : Nat) : Int) ≤ ((a0.length : Nat) : Int)) <|
 gd (((x4.length) + ((dsub ((a0.length : Nat) : Int) (IntKind.i64.wrap (x1 + 1))))) * (32 + 1) ≤ 70368744177664) <|
 some (x4 ++ (((a0).take ((IntKind.i64.wrap (x1 + 1)).toNat + (dsub ((a0.length : Nat) : Int) (IntKind.i64.wrap (x1 + 1))))).drop ((IntKind.i64.wrap (x1 + 1)).toNat))))

theorem spec_l43Drop_c {a0 : (List HelloEntry)} {a1 : HelloEntry} {r : (List HelloEntry)} (h : spec_l43Drop_m a0 a1 = some r) : PureC Try.prog 125 [.d (slD HelloEntry.enc a0), .agg [.d (.int .i64 a1.Addr), .d (.int .i64 a1.Len), .d (.int .i64 a1.Cost), .d (.int .i64 a1.Label)]] (.osl 5001 0 r.length) [⟨5001, 34, 4, r.length, rows HelloEntry.enc r⟩] := by
  refine pureC_x tOk (fn := Try.f125) (c := codeOf Try.f125) rfl rfl ?_
  unfold spec_l43Drop_m at h
  conv => whnf
  obtain ⟨x1, hx1, h⟩ := bd_some h
  refine cC 0 (spec_l42At_c hx1) ?_
  clear hx1
  conv => whnf
  refine seq_in tOk ?_
  conv => whnf
  refine andI h (fun _ h => ?_) (fun _ h => ?_)
  · conv => whnf
    obtain ⟨x2, hx2, h⟩ := bd_some h
    refine cC 1000 (spec_l42Table_c hx2) ?_
    clear hx2
    conv => whnf
    obtain rfl := Option.some.inj h
    exact lfP [.s [(5001, 6001), (6001, 5001)]]
  · conv => whnf
    obtain ⟨g3, h⟩ := gd_some h
    obtain ⟨x4, hx4, h⟩ := bd_some h
    obtain ⟨g5, h⟩ := gd_some h
    refine draw_u tOk [.u 3 1000 (.osl 5001 0 x4.length) [⟨5001, 34, 4, x4.length, rows HelloEntry.enc x4⟩]] 8 [] [0, 0, 3, 7, 0, 0, 32, 112] [255, 511] ?_
    conv => whnf
    refine And.intro ⟨g3, .inr rfl⟩ ?_
    conv => whnf
    refine And.intro (callD_w (spec_l42Table_c hx4) rfl argA) ?_
    conv => whnf
    refine And.intro ⟨g5, .inr rfl⟩ ?_
    conv => whnf
    refine And.intro (by kernel_rfl) ?_
    conv => whnf
    refine gdI h (fun h => ?_)
    refine appS (enc := HelloEntry.enc) (xs := x4) (ys := ((a0).take ((IntKind.i64.wrap (x1 + 1)).toNat + (dsub ((a0.length : Nat) : Int) (IntKind.i64.wrap (x1 + 1))))).drop ((IntKind.i64.wrap (x1 + 1)).toNat)) ?_
    conv => whnf
    obtain rfl := Option.some.inj h
    exact lfP [.s [(5001, 6001), (6001, 5001)]]

noncomputable def spec_l43Apply_m (a0 : (List HelloEntry)) (a1 : HelloChange) : Option ((List HelloEntry)) :=
(if (a1.Kind == 1) = true then
 bd (spec_l43Put_m a0 a1.Entry) fun x1 =>
 some x1
else
(if (a1.Kind == 2) = true then
 bd (spec_l43Drop_m a0 a1.Entry) fun x2 =>
 some x2
else
 bd (spec_l42Table_m a0) fun x3 =>
 some x3))

theorem spec_l43Apply_c {a0 : (List HelloEntry)} {a1 : HelloChange} {r : (List HelloEntry)} (h : spec_l43Apply_m a0 a1 = some r) : PureC Try.prog 73 [.d (slD HelloEntry.enc a0), .agg [.d (.int .i64 a1.Kind), .d (.int .i64 a1.Entry.Addr), .d (.int .i64 a1.Entry.Len), .d (.int .i64 a1.Entry.Cost), .d (.int .i64 a1.Entry.Label)]] (.osl 5001 0 r.length) [⟨5001, 34, 4, r.length, rows HelloEntry.enc r⟩] := by
  refine pureC_x tOk (fn := Try.f73) (c := codeOf Try.f73) rfl rfl ?_
  unfold spec_l43Apply_m at h
  conv => whnf
  refine seq_in tOk ?_
  conv => whnf
  refine andI h (fun _ h => ?_) (fun _ h => ?_)
  · conv => whnf
    obtain ⟨x1, hx1, h⟩ := bd_some h
    refine cC 1000 (spec_l43Put_c hx1) ?_
    clear hx1
    conv => whnf
    obtain rfl := Option.some.inj h
    exact lfP [.s [(5001, 6001), (6001, 5001)]]
  · conv => whnf
    refine andI h (fun _ h => ?_) (fun _ h => ?_)
    · conv => whnf
      obtain ⟨x2, hx2, h⟩ := bd_some h
      refine cC 1000 (spec_l43Drop_c hx2) ?_
      clear hx2
      conv => whnf
      obtain rfl := Option.some.inj h
      exact lfP [.s [(5001, 6001), (6001, 5001)]]
    · conv => whnf
      obtain ⟨x3, hx3, h⟩ := bd_some h
      refine cC 1000 (spec_l42Table_c hx3) ?_
      clear hx3
      conv => whnf
      obtain rfl := Option.some.inj h
      exact lfP [.s [(5001, 6001), (6001, 5001)]]

noncomputable def spec_l43Apply_fz_m (a0 : (List HelloEntry)) (a1 : HelloChange) : Option ((List HelloEntry)) :=
(if (a1.Kind == 1) = true then
 bd (spec_l43Put_m a0 a1.Entry) fun x1 =>
 some x1
else
(if (a1.Kind == 2) = true then
 bd (spec_l43Drop_m a0 a1.Entry) fun x2 =>
 some x2
else
 bd (spec_l42Table_m a0) fun x3 =>
 some x3))

theorem spec_l43Apply_fz_c {a0 : (List HelloEntry)} {a1 : HelloChange} {r : (List HelloEntry)} (h : spec_l43Apply_fz_m a0 a1 = some r) : EffC Try.prog 73 [.d (slD HelloEntry.enc a0), .agg [.d (.int .i64 a1.Kind), .d (.int .i64 a1.Entry.Addr), .d (.int .i64 a1.Entry.Len), .d (.int .i64 a1.Entry.Cost), .d (.int .i64 a1.Entry.Label)]] [] (.d (slD HelloEntry.enc r)) [] := by
  refine effC_x tOk (fn := Try.f73) (c := codeOf Try.f73) rfl rfl ?_
  unfold spec_l43Apply_fz_m at h
  conv => whnf
  refine seq_in tOk ?_
  conv => whnf
  refine andI h (fun _ h => ?_) (fun _ h => ?_)
  · conv => whnf
    obtain ⟨x1, hx1, h⟩ := bd_some h
    refine cC 1000 (spec_l43Put_c hx1) ?_
    clear hx1
    conv => whnf
    obtain rfl := Option.some.inj h
    exact lfE [.f [6001]]
  · conv => whnf
    refine andI h (fun _ h => ?_) (fun _ h => ?_)
    · conv => whnf
      obtain ⟨x2, hx2, h⟩ := bd_some h
      refine cC 1000 (spec_l43Drop_c hx2) ?_
      clear hx2
      conv => whnf
      obtain rfl := Option.some.inj h
      exact lfE [.f [6001]]
    · conv => whnf
      obtain ⟨x3, hx3, h⟩ := bd_some h
      refine cC 1000 (spec_l42Table_c hx3) ?_
      clear hx3
      conv => whnf
      obtain rfl := Option.some.inj h
      exact lfE [.f [6001]]

noncomputable def spec_l42HeardOk_m (a0 : HelloEnd) : Option (Bool) :=
 bd (gcall ((decide (((a0.Heard.length : Nat) : Int) > 16)) = false) (spec_l41In_m a0.Keep 0 6)) fun x1 =>
(if ((decide (((a0.Heard.length : Nat) : Int) > 16)) || (!x1)) = true then
 some false
else
 bd (lp (σ := Bool × Int) (β := (Unit ⊕ Bool)) (fun s2 =>
(if (decide (s2.2 < ((a0.Heard.length : Nat) : Int))) = true then
 gd ((0 : Int) ≤ s2.2 ∧ s2.2 < ((a0.Heard.length : Nat) : Int)) <|
 bd (spec_l41EntryOk_m ((a0.Heard.getD s2.2.toNat default).Entry)) fun x7 =>
 gd ((decide (s2.2 > 0)) = true → ((!x7) = false → ((0 : Int) ≤ IntKind.i64.wrap (s2.2 - 1) ∧ IntKind.i64.wrap (s2.2 - 1) < ((a0.Heard.length : Nat) : Int)))) <|
 bd (gcall ((decide (s2.2 > 0)) = true ∧ (!x7) = false) (spec_l41Less_m ((a0.Heard.getD ((IntKind.i64.wrap (s2.2 - 1)).toNat) default).Entry) ((a0.Heard.getD s2.2.toNat default).Entry))) fun x9 =>
(if (((!x7) || ((decide (s2.2 > 0)) && (!x9))) || ((!((a0.Heard.getD s2.2.toNat default).Stale)) && (a0.Left == 0))) = true then
 some (.inr (.inl ()))
else
 some (.inl ((s2.1 || (a0.Heard.getD s2.2.toNat default).Stale), IntKind.i64.wrap (s2.2 + 1))))
else
 some (.inr (.inr s2.1)))) (false, 0)) fun x5 =>
(match x5 with
| .inl d10 =>
 some false
| .inr d11 =>
 some (d11 == (decide (a0.Keep > 0)))))

theorem spec_l42HeardOk_c {a0 : HelloEnd} {r : Bool} (h : spec_l42HeardOk_m a0 = some r) : PureC Try.prog 74 [.agg [.d (.int .i64 a0.Name), .d (.int .i64 a0.Peer), .d (slD HelloKey.enc a0.Keys), .d (.int .i64 a0.Boot), .d (slD HelloEntry.enc a0.Want), .d (.int .i64 a0.Turn), .d (.int .i64 a0.PeerBoot), .d (.int .i64 a0.PeerTurn), .d (.bool a0.Up), .d (.int .i64 a0.Left), .d (.int .i64 a0.Num), .d (.int .i64 a0.Under.Kind), .d (.int .i64 a0.Under.Entry.Addr), .d (.int .i64 a0.Under.Entry.Len), .d (.int .i64 a0.Under.Entry.Cost), .d (.int .i64 a0.Under.Entry.Label), .d (slD HelloEntry.enc a0.Told), .d (.bool a0.All), .d (.int .i64 a0.Got), .d (.bool a0.Full), .d (slD HelloRoute.enc a0.Heard), .d (.int .i64 a0.Keep)]] (.d (.bool r)) [] := by
  refine pureC_x tOk (fn := Try.f74) (c := codeOf Try.f74) rfl rfl ?_
  unfold spec_l42HeardOk_m at h
  conv => whnf
  refine seq_in tOk ?_
  conv => whnf
  obtain ⟨x1, hx1, h⟩ := bd_some h
  refine cG (fun c0 => spec_l41In_c (gcall_some hx1 c0)) ?_
  conv => whnf
  refine andI h (fun _ h => ?_) (fun _ h => ?_)
  · conv => whnf
    obtain rfl := Option.some.inj h
    exact lfP []
  · conv => whnf
    refine seq_in tOk ?_
    conv => whnf
    obtain ⟨x5, hx5, h⟩ := bd_some h
    refine loop_m tOk hx5 (fun s2 => ⟨0, 69, [(1, .ref 1 0 0), (3, .d (.bool s2.1)), (4, .d (.int .i64 s2.2))], [], [(1, .box 39 [.d (.int .i64 a0.Name), .d (.int .i64 a0.Peer), .d (slD HelloKey.enc a0.Keys), .d (.int .i64 a0.Boot), .d (slD HelloEntry.enc a0.Want), .d (.int .i64 a0.Turn), .d (.int .i64 a0.PeerBoot), .d (.int .i64 a0.PeerTurn), .d (.bool a0.Up), .d (.int .i64 a0.Left), .d (.int .i64 a0.Num), .d (.int .i64 a0.Under.Kind), .d (.int .i64 a0.Under.Entry.Addr), .d (.int .i64 a0.Under.Entry.Len), .d (.int .i64 a0.Under.Entry.Cost), .d (.int .i64 a0.Under.Entry.Label), .d (slD HelloEntry.enc a0.Told), .d (.bool a0.All), .d (.int .i64 a0.Got), .d (.bool a0.Full), .d (slD HelloRoute.enc a0.Heard), .d (.int .i64 a0.Keep)])], []⟩) ?_ ?_
    · exact leX []
    · clear hx5
      intro s2 y3 g4 hy3
      conv => whnf
      refine seq_in tOk ?_
      conv => whnf
      refine andI g4 (fun _ g4 => ?_) (fun _ g4 => ?_)
      · conv => whnf
        refine seq_in tOk ?_
        conv => whnf
        refine gdI g4 (fun g4 => ?_)
        conv => whnf
        refine seq_in tOk ?_
        conv => whnf
        obtain ⟨x7, hx7, g4⟩ := bd_some g4
        obtain ⟨g8, g4⟩ := gd_some g4
        obtain ⟨x9, hx9, g4⟩ := bd_some g4
        refine draw_u tOk [.u 2 0 (.d (.bool x7)) [], .u 17 0 (.d (.bool x9)) []] 31 [] [0, 1, 3, 7, 15, 31, 63, 127, 255, 511, 255, 1279, 4095, 8191, 16383, 255, 33023, 131071, 262143, 524287, 1048575, 2097151, 4194303, 8388607, 16777215, 33554431, 67108863, 134217727, 268435455, 536870911, 1073741823] [] ?_
        conv => whnf
        refine And.intro (callD_any (spec_l41EntryOk_c hx7) (by kernel_rfl)) ?_
        conv => whnf
        refine And.intro g8 ?_
        clear g8
        conv => whnf
        refine And.intro (callDG_if rfl rfl rfl rfl (by intro c0 c1; exact spec_l41Less_c (gcall_some hx9 ⟨c0, c1⟩))) ?_
        conv => whnf
        refine And.intro (by kernel_rfl) ?_
        conv => whnf
        refine andI g4 (fun _ g4 => ?_) (fun _ g4 => ?_)
        · conv => whnf
          obtain rfl := Option.some.inj g4
          obtain rfl := hy3 _ rfl
          obtain rfl := Option.some.inj h
          exact lfP []
        · conv => whnf
          obtain rfl := Option.some.inj g4
          exact ⟨_, rfl, leX []⟩
      · conv => whnf
        obtain rfl := Option.some.inj g4
        obtain rfl := hy3 _ rfl
        obtain rfl := Option.some.inj h
        exact lfP []

noncomputable def spec_HelloEndOk_m (a0 : HelloEnd) : Option (Bool) :=
 bd (spec_l41In_m a0.Name 0 65535) fun x1 =>
 bd (gcall ((!x1) = false) (spec_l41In_m a0.Peer 0 65535)) fun x2 =>
 bd (gcall ((((!x1) || (!x2)) || (a0.Name == a0.Peer)) = false) (spec_HelloKeysOk_m a0.Keys)) fun x3 =>
 bd (gcall (((((!x1) || (!x2)) || (a0.Name == a0.Peer)) || (!x3)) = false) (spec_l41In_m a0.Boot 1 1000)) fun x4 =>
 bd (gcall ((((((!x1) || (!x2)) || (a0.Name == a0.Peer)) || (!x3)) || (!x4)) = false) (spec_HelloTableOk_m a0.Want)) fun x5 =>
(if ((((((!x1) || (!x2)) || (a0.Name == a0.Peer)) || (!x3)) || (!x4)) || (!x5)) = true then
 some false
else
 bd (spec_l41In_m a0.Turn 0 1000000) fun x6 =>
 bd (gcall ((!x6) = false) (spec_l41In_m a0.PeerBoot 0 999)) fun x7 =>
 bd (gcall (((!x6) || (!x7)) = false) (spec_l41In_m a0.PeerTurn 0 1000000)) fun x8 =>
(if ((((!x6) || (!x7)) || (!x8)) || (!((a0.PeerBoot == 0) == (a0.PeerTurn == 0)))) = true then
 some false
else
 bd (spec_l41In_m a0.Left 0 4) fun x9 =>
(if (((!x9) || ((decide (a0.Left > 0)) && (a0.PeerBoot == 0))) || (a0.Up && (a0.Left == 0))) = true then
 some false
else
 bd (spec_l41In_m a0.Num 0 a0.Turn) fun x10 =>
 bd (gcall ((!x10) = false) (spec_l41In_m a0.Got 0 1000000)) fun x11 =>
 bd (gcall (((!x10) || (!x11)) = false) (spec_l41ChangeOk_m a0.Under)) fun x12 =>
 bd (gcall (((((!x10) || (!x11)) || (!x12)) || ((decide (a0.Under.Kind > 0)) && (a0.Num == 0))) = false) (spec_HelloTableOk_m a0.Told)) fun x13 =>
 bd (gcall ((((((!x10) || (!x11)) || (!x12)) || ((decide (a0.Under.Kind > 0)) && (a0.Num == 0))) || (!x13)) = false) (spec_l43Apply_fz_m a0.Told a0.Under)) fun x14 =>
 bd (gcall ((((((!x10) || (!x11)) || (!x12)) || ((decide (a0.Under.Kind > 0)) && (a0.Num == 0))) || (!x13)) = false) (spec_HelloTableOk_m x14)) fun x15 =>
(if ((((((!x10) || (!x11)) || (!x12)) || ((decide (a0.Under.Kind > 0)) && (a0.Num == 0))) || (!x13)) || (!x15)) = true then
 some false
else
 bd (spec_l42HeardOk_m a0) fun x16 =>
 some x16))))

theorem spec_HelloEndOk_c {a0 : HelloEnd} {r : Bool} (h : spec_HelloEndOk_m a0 = some r) : PureC Try.prog 24 [.agg [.d (.int .i64 a0.Name), .d (.int .i64 a0.Peer), .d (slD HelloKey.enc a0.Keys), .d (.int .i64 a0.Boot), .d (slD HelloEntry.enc a0.Want), .d (.int .i64 a0.Turn), .d (.int .i64 a0.PeerBoot), .d (.int .i64 a0.PeerTurn), .d (.bool a0.Up), .d (.int .i64 a0.Left), .d (.int .i64 a0.Num), .d (.int .i64 a0.Under.Kind), .d (.int .i64 a0.Under.Entry.Addr), .d (.int .i64 a0.Under.Entry.Len), .d (.int .i64 a0.Under.Entry.Cost), .d (.int .i64 a0.Under.Entry.Label), .d (slD HelloEntry.enc a0.Told), .d (.bool a0.All), .d (.int .i64 a0.Got), .d (.bool a0.Full), .d (slD HelloRoute.enc a0.Heard), .d (.int .i64 a0.Keep)]] (.d (.bool r)) [] := by
  refine pureC_x tOk (fn := Try.f24) (c := codeOf Try.f24) rfl rfl ?_
  unfold spec_HelloEndOk_m at h
  conv => whnf
  refine seq_in tOk ?_
  conv => whnf
  obtain ⟨x1, hx1, h⟩ := bd_some h
  refine cC 0 (spec_l41In_c hx1) ?_
  clear hx1
  conv => whnf
  obtain ⟨x2, hx2, h⟩ := bd_some h
  refine cG (fun c0 => spec_l41In_c (gcall_some hx2 c0)) ?_
  conv => whnf
  obtain ⟨x3, hx3, h⟩ := bd_some h
  refine cG (fun c0 => spec_HelloKeysOk_c (gcall_some hx3 c0)) ?_
  conv => whnf
  obtain ⟨x4, hx4, h⟩ := bd_some h
  refine cG (fun c0 => spec_l41In_c (gcall_some hx4 c0)) ?_
  conv => whnf
  obtain ⟨x5, hx5, h⟩ := bd_some h
  refine cG (fun c0 => spec_HelloTableOk_c (gcall_some hx5 c0)) ?_
  conv => whnf
  refine andI h (fun _ h => ?_) (fun _ h => ?_)
  · conv => whnf
    obtain rfl := Option.some.inj h
    exact lfP []
  · conv => whnf
    refine seq_in tOk ?_
    conv => whnf
    obtain ⟨x6, hx6, h⟩ := bd_some h
    refine cC 0 (spec_l41In_c hx6) ?_
    clear hx6
    conv => whnf
    obtain ⟨x7, hx7, h⟩ := bd_some h
    refine cG (fun c0 => spec_l41In_c (gcall_some hx7 c0)) ?_
    conv => whnf
    obtain ⟨x8, hx8, h⟩ := bd_some h
    refine cG (fun c0 => spec_l41In_c (gcall_some hx8 c0)) ?_
    conv => whnf
    refine andI h (fun _ h => ?_) (fun _ h => ?_)
    · conv => whnf
      obtain rfl := Option.some.inj h
      exact lfP []
    · conv => whnf
      refine seq_in tOk ?_
      conv => whnf
      obtain ⟨x9, hx9, h⟩ := bd_some h
      refine cC 0 (spec_l41In_c hx9) ?_
      clear hx9
      conv => whnf
      refine andI h (fun _ h => ?_) (fun _ h => ?_)
      · conv => whnf
        obtain rfl := Option.some.inj h
        exact lfP []
      · conv => whnf
        refine seq_in tOk ?_
        conv => whnf
        obtain ⟨x10, hx10, h⟩ := bd_some h
        refine cC 0 (spec_l41In_c hx10) ?_
        clear hx10
        conv => whnf
        obtain ⟨x11, hx11, h⟩ := bd_some h
        refine cG (fun c0 => spec_l41In_c (gcall_some hx11 c0)) ?_
        conv => whnf
        obtain ⟨x12, hx12, h⟩ := bd_some h
        refine cG (fun c0 => spec_l41ChangeOk_c (gcall_some hx12 c0)) ?_
        conv => whnf
        obtain ⟨x13, hx13, h⟩ := bd_some h
        refine cG (fun c0 => spec_HelloTableOk_c (gcall_some hx13 c0)) ?_
        conv => whnf
        obtain ⟨x14, hx14, h⟩ := bd_some h
        refine callG_e [] 0 rfl rfl rfl (by intro c0; exact spec_l43Apply_fz_c (gcall_some hx14 c0)) argA inA rfl rfl (condN_of inA) ?_
        conv => whnf
        obtain ⟨x15, hx15, h⟩ := bd_some h
        refine cG (fun c0 => spec_HelloTableOk_c (gcall_some hx15 c0)) ?_
        conv => whnf
        refine andI h (fun _ h => ?_) (fun _ h => ?_)
        · conv => whnf
          obtain rfl := Option.some.inj h
          exact lfP []
        · conv => whnf
          obtain ⟨x16, hx16, h⟩ := bd_some h
          refine cC 0 (spec_l42HeardOk_c hx16) ?_
          clear hx16
          conv => whnf
          obtain rfl := Option.some.inj h
          exact lfP []

noncomputable def spec_l42Keys_m (a0 : (List HelloKey)) : Option ((List HelloKey)) :=
 gd (((0) + (a0.length)) * (16 + 1) ≤ 70368744177664) <|
 some a0

theorem spec_l42Keys_c {a0 : (List HelloKey)} {r : (List HelloKey)} (h : spec_l42Keys_m a0 = some r) : PureC Try.prog 75 [.d (slD HelloKey.enc a0)] (.osl 5001 0 r.length) [⟨5001, 113, 2, r.length, rows HelloKey.enc r⟩] := by
  refine pureC_x tOk (fn := Try.f75) (c := codeOf Try.f75) rfl rfl ?_
  unfold spec_l42Keys_m at h
  conv => whnf
  refine gdI h (fun h => ?_)
  refine appN (enc := HelloKey.enc) (ys := a0) ?_
  conv => whnf
  obtain rfl := Option.some.inj h
  exact lfP [.s [(5, 5001), (5001, 5)]]

noncomputable def spec_l42Routes_m (a0 : (List HelloRoute)) : Option ((List HelloRoute)) :=
 gd (((0) + (a0.length)) * (40 + 1) ≤ 70368744177664) <|
 some a0

theorem spec_l42Routes_c {a0 : (List HelloRoute)} {r : (List HelloRoute)} (h : spec_l42Routes_m a0 = some r) : PureC Try.prog 77 [.d (slD HelloRoute.enc a0)] (.osl 5001 0 r.length) [⟨5001, 111, 5, r.length, rows HelloRoute.enc r⟩] := by
  refine pureC_x tOk (fn := Try.f77) (c := codeOf Try.f77) rfl rfl ?_
  unfold spec_l42Routes_m at h
  conv => whnf
  refine gdI h (fun h => ?_)
  refine appN (enc := HelloRoute.enc) (ys := a0) ?_
  conv => whnf
  obtain rfl := Option.some.inj h
  exact lfP [.s [(5, 5001), (5001, 5)]]

noncomputable def spec_l42Copy_m (a0 : HelloEnd) : Option (HelloEnd) :=
 bd (spec_l42Keys_m a0.Keys) fun x1 =>
 bd (spec_l42Table_m a0.Want) fun x2 =>
 bd (spec_l42Table_m a0.Told) fun x3 =>
 bd (spec_l42Routes_m a0.Heard) fun x4 =>
 some ({ a0 with Keys := x1, Want := x2, Told := x3, Heard := x4 })

theorem spec_l42Copy_c {a0 : HelloEnd} {r : HelloEnd} (h : spec_l42Copy_m a0 = some r) : PureC Try.prog 25 [.agg [.d (.int .i64 a0.Name), .d (.int .i64 a0.Peer), .d (slD HelloKey.enc a0.Keys), .d (.int .i64 a0.Boot), .d (slD HelloEntry.enc a0.Want), .d (.int .i64 a0.Turn), .d (.int .i64 a0.PeerBoot), .d (.int .i64 a0.PeerTurn), .d (.bool a0.Up), .d (.int .i64 a0.Left), .d (.int .i64 a0.Num), .d (.int .i64 a0.Under.Kind), .d (.int .i64 a0.Under.Entry.Addr), .d (.int .i64 a0.Under.Entry.Len), .d (.int .i64 a0.Under.Entry.Cost), .d (.int .i64 a0.Under.Entry.Label), .d (slD HelloEntry.enc a0.Told), .d (.bool a0.All), .d (.int .i64 a0.Got), .d (.bool a0.Full), .d (slD HelloRoute.enc a0.Heard), .d (.int .i64 a0.Keep)]] (.agg [.d (.int .i64 r.Name), .d (.int .i64 r.Peer), .osl 5001 0 r.Keys.length, .d (.int .i64 r.Boot), .osl 5002 0 r.Want.length, .d (.int .i64 r.Turn), .d (.int .i64 r.PeerBoot), .d (.int .i64 r.PeerTurn), .d (.bool r.Up), .d (.int .i64 r.Left), .d (.int .i64 r.Num), .d (.int .i64 r.Under.Kind), .d (.int .i64 r.Under.Entry.Addr), .d (.int .i64 r.Under.Entry.Len), .d (.int .i64 r.Under.Entry.Cost), .d (.int .i64 r.Under.Entry.Label), .osl 5003 0 r.Told.length, .d (.bool r.All), .d (.int .i64 r.Got), .d (.bool r.Full), .osl 5004 0 r.Heard.length, .d (.int .i64 r.Keep)]) [⟨5001, 113, 2, r.Keys.length, rows HelloKey.enc r.Keys⟩, ⟨5002, 34, 4, r.Want.length, rows HelloEntry.enc r.Want⟩, ⟨5003, 34, 4, r.Told.length, rows HelloEntry.enc r.Told⟩, ⟨5004, 111, 5, r.Heard.length, rows HelloRoute.enc r.Heard⟩] := by
  refine pureC_x tOk (fn := Try.f25) (c := codeOf Try.f25) rfl rfl ?_
  unfold spec_l42Copy_m at h
  conv => whnf
  obtain ⟨x1, hx1, h⟩ := bd_some h
  refine cC 1000 (spec_l42Keys_c hx1) ?_
  clear hx1
  conv => whnf
  obtain ⟨x2, hx2, h⟩ := bd_some h
  refine cC 2000 (spec_l42Table_c hx2) ?_
  clear hx2
  conv => whnf
  obtain ⟨x3, hx3, h⟩ := bd_some h
  refine cC 3000 (spec_l42Table_c hx3) ?_
  clear hx3
  conv => whnf
  obtain ⟨x4, hx4, h⟩ := bd_some h
  refine cC 4000 (spec_l42Routes_c hx4) ?_
  clear hx4
  conv => whnf
  obtain rfl := Option.some.inj h
  exact lfP [.s [(5001, 6001), (5002, 7001), (5003, 8001), (5004, 9001), (6001, 5001), (7001, 5002), (8001, 5003), (9001, 5004)]]

noncomputable def spec_l43Fresh_m (a0 : (List HelloRoute)) : Option ((List HelloRoute)) :=
 bd (lp (σ := List HelloRoute × Int) (β := (Nat × (List HelloRoute))) (fun s1 =>
(if (decide (s1.2 < ((a0.length : Nat) : Int))) = true then
 gd ((0 : Int) ≤ s1.2 ∧ s1.2 < ((a0.length : Nat) : Int)) <|
(if (!((a0.getD s1.2.toNat default).Stale)) = true then
 gd ((0 : Int) ≤ s1.2 ∧ s1.2 < ((a0.length : Nat) : Int)) <|
 gd (((s1.1.length) + (([(⟨((a0.getD s1.2.toNat default).Entry), (a0.getD s1.2.toNat default).Stale⟩ : HelloRoute)] : List HelloRoute).length)) * (40 + 1) ≤ 70368744177664) <|
 some (.inl ((s1.1 ++ ([(⟨((a0.getD s1.2.toNat default).Entry), (a0.getD s1.2.toNat default).Stale⟩ : HelloRoute)] : List HelloRoute)), IntKind.i64.wrap (s1.2 + 1)))
else
 some (.inl (s1.1, IntKind.i64.wrap (s1.2 + 1))))
else
 some (.inr (s1.1.length, s1.1)))) (([] : List HelloRoute), 0)) fun x4 =>
 some x4.2

theorem spec_l43Fresh_c {a0 : (List HelloRoute)} {r : (List HelloRoute)} (h : spec_l43Fresh_m a0 = some r) : PureC Try.prog 26 [.d (slD HelloRoute.enc a0)] (.osl 5001 0 r.length) [⟨5001, 111, 5, r.length, rows HelloRoute.enc r⟩] := by
  refine pureC_x tOk (fn := Try.f26) (c := codeOf Try.f26) rfl rfl ?_
  unfold spec_l43Fresh_m at h
  conv => whnf
  refine seq_in tOk ?_
  conv => whnf
  obtain ⟨x4, hx4, h⟩ := bd_some h
  refine loop_m tOk hx4 (fun s1 => ⟨0, 26, [(0, .d (slD HelloRoute.enc a0)), (3, .osl 7001 0 s1.1.length), (4, .d (.int .i64 s1.2))], [], [(7001, .arr 111 5 s1.1.length (rows HelloRoute.enc s1.1))], []⟩) ?_ ?_
  · exact leX [.p 7001 111 5 (rows HelloRoute.enc ([] : List HelloRoute))]
  · clear hx4
    intro s1 y2 g3 hy2
    conv => whnf
    refine seq_in tOk ?_
    conv => whnf
    refine andI g3 (fun _ g3 => ?_) (fun _ g3 => ?_)
    · conv => whnf
      refine seq_in tOk ?_
      conv => whnf
      refine gdI g3 (fun g3 => ?_)
      conv => whnf
      refine andI g3 (fun _ g3 => ?_) (fun _ g3 => ?_)
      · conv => whnf
        refine gdI g3 (fun g3 => ?_)
        conv => whnf
        refine bldS (enc := HelloRoute.enc) ([(⟨((a0.getD s1.2.toNat default).Entry), (a0.getD s1.2.toNat default).Stale⟩ : HelloRoute)] : List HelloRoute) ?_
        conv => whnf
        refine gdI g3 (fun g3 => ?_)
        refine appS (enc := HelloRoute.enc) (xs := s1.1) (ys := ([(⟨((a0.getD s1.2.toNat default).Entry), (a0.getD s1.2.toNat default).Stale⟩ : HelloRoute)] : List HelloRoute)) ?_
        conv => whnf
        obtain rfl := Option.some.inj g3
        exact ⟨_, rfl, leX []⟩
      · conv => whnf
        obtain rfl := Option.some.inj g3
        exact ⟨_, rfl, leX []⟩
    · conv => whnf
      obtain rfl := Option.some.inj g3
      obtain rfl := hy2 _ rfl
      obtain rfl := Option.some.inj h
      exact lfP [.s [(5001, 7001), (7001, 5001)]]

noncomputable def spec_l43Stale_m (a0 : HelloEnd) : Option (HelloEnd) :=
 bd (lp (σ := List HelloRoute × Int) (β := (Nat × (List HelloRoute))) (fun s1 =>
(if (decide (s1.2 < ((s1.1.length : Nat) : Int))) = true then
 gd ((0 : Int) ≤ s1.2 ∧ s1.2 < ((s1.1.length : Nat) : Int)) <|
 some (.inl (s1.1.set s1.2.toNat (⟨((s1.1.getD s1.2.toNat default).Entry), true⟩ : HelloRoute), IntKind.i64.wrap (s1.2 + 1)))
else
 some (.inr (s1.1.length, s1.1)))) (a0.Heard, 0)) fun x4 =>
(if ((decide (((x4.1 : Nat) : Int) > 0)) && (a0.Keep == 0)) = true then
 some ({ a0 with Heard := x4.2, Keep := 6 })
else
 some ({ a0 with Heard := x4.2 }))

theorem spec_l43Stale_c {a0 : HelloEnd} {r : HelloEnd} (h : spec_l43Stale_m a0 = some r) : EffC Try.prog 126 [.agg [.d (.int .i64 a0.Name), .d (.int .i64 a0.Peer), .d (slD HelloKey.enc a0.Keys), .d (.int .i64 a0.Boot), .d (slD HelloEntry.enc a0.Want), .d (.int .i64 a0.Turn), .d (.int .i64 a0.PeerBoot), .d (.int .i64 a0.PeerTurn), .d (.bool a0.Up), .d (.int .i64 a0.Left), .d (.int .i64 a0.Num), .d (.int .i64 a0.Under.Kind), .d (.int .i64 a0.Under.Entry.Addr), .d (.int .i64 a0.Under.Entry.Len), .d (.int .i64 a0.Under.Entry.Cost), .d (.int .i64 a0.Under.Entry.Label), .d (slD HelloEntry.enc a0.Told), .d (.bool a0.All), .d (.int .i64 a0.Got), .d (.bool a0.Full), .osl 9000 0 a0.Heard.length, .d (.int .i64 a0.Keep)]] [(9000, .arr 111 5 a0.Heard.length (rows HelloRoute.enc a0.Heard))] (.agg [.d (.int .i64 r.Name), .d (.int .i64 r.Peer), .d (slD HelloKey.enc r.Keys), .d (.int .i64 r.Boot), .d (slD HelloEntry.enc r.Want), .d (.int .i64 r.Turn), .d (.int .i64 r.PeerBoot), .d (.int .i64 r.PeerTurn), .d (.bool r.Up), .d (.int .i64 r.Left), .d (.int .i64 r.Num), .d (.int .i64 r.Under.Kind), .d (.int .i64 r.Under.Entry.Addr), .d (.int .i64 r.Under.Entry.Len), .d (.int .i64 r.Under.Entry.Cost), .d (.int .i64 r.Under.Entry.Label), .d (slD HelloEntry.enc r.Told), .d (.bool r.All), .d (.int .i64 r.Got), .d (.bool r.Full), .osl 5001 0 r.Heard.length, .d (.int .i64 r.Keep)]) [(5001, .arr 111 5 r.Heard.length (rows HelloRoute.enc r.Heard))] := by
  refine effC_x tOk (fn := Try.f126) (c := codeOf Try.f126) rfl rfl ?_
  unfold spec_l43Stale_m at h
  conv => whnf
  refine seq_in tOk ?_
  conv => whnf
  obtain ⟨x4, hx4, h⟩ := bd_some h
  refine loop_m tOk hx4 (fun s1 => ⟨0, 27, [(1, .ref 1 0 0), (2, .ref 2 0 0), (3, .d (.int .i64 s1.2))], [], [(2, .box 39 [.d (.int .i64 0), .d (.int .i64 0), .d (.nil), .d (.int .i64 0), .d (.nil), .d (.int .i64 0), .d (.int .i64 0), .d (.int .i64 0), .d (.bool false), .d (.int .i64 0), .d (.int .i64 0), .d (.int .i64 0), .d (.int .i64 0), .d (.int .i64 0), .d (.int .i64 0), .d (.int .i64 0), .d (.nil), .d (.bool false), .d (.int .i64 0), .d (.bool false), .d (.nil), .d (.int .i64 0)]), (1, .box 39 [.d (.int .i64 a0.Name), .d (.int .i64 a0.Peer), .d (slD HelloKey.enc a0.Keys), .d (.int .i64 a0.Boot), .d (slD HelloEntry.enc a0.Want), .d (.int .i64 a0.Turn), .d (.int .i64 a0.PeerBoot), .d (.int .i64 a0.PeerTurn), .d (.bool a0.Up), .d (.int .i64 a0.Left), .d (.int .i64 a0.Num), .d (.int .i64 a0.Under.Kind), .d (.int .i64 a0.Under.Entry.Addr), .d (.int .i64 a0.Under.Entry.Len), .d (.int .i64 a0.Under.Entry.Cost), .d (.int .i64 a0.Under.Entry.Label), .d (slD HelloEntry.enc a0.Told), .d (.bool a0.All), .d (.int .i64 a0.Got), .d (.bool a0.Full), .osl 9000 0 s1.1.length, .d (.int .i64 a0.Keep)]), (9000, .arr 111 5 s1.1.length (rows HelloRoute.enc s1.1))], [⟨[], []⟩]⟩) ?_ ?_
  · exact leX []
  · clear hx4
    intro s1 y2 g3 hy2
    conv => whnf
    refine seq_in tOk ?_
    conv => whnf
    refine andI g3 (fun _ g3 => ?_) (fun _ g3 => ?_)
    · conv => whnf
      refine seq_in tOk ?_
      conv => whnf
      refine gdI g3 (fun g3 => ?_)
      conv => whnf
      refine ⟨rows HelloRoute.enc (s1.1.set s1.2.toNat (⟨((s1.1.getD s1.2.toNat default).Entry), true⟩ : HelloRoute)), store_rows' lenA rfl, ?_⟩
      conv => whnf
      obtain rfl := Option.some.inj g3
      exact ⟨_, rfl, leX []⟩
    · conv => whnf
      obtain rfl := Option.some.inj g3
      obtain rfl := hy2 _ rfl
      refine seq_in tOk ?_
      conv => whnf
      refine andI h (fun _ h => ?_) (fun _ h => ?_)
      · conv => whnf
        obtain rfl := Option.some.inj h
        exact lfE [.s [(5001, 9000), (9000, 5001)]]
      · conv => whnf
        obtain rfl := Option.some.inj h
        exact lfE [.s [(5001, 9000), (9000, 5001)]]

noncomputable def spec_l43Anew_m (a0 : HelloEnd) : Option (HelloEnd) :=
 bd (spec_l43Stale_m ({ a0 with Up := false, Num := 0, Under := (⟨0, (⟨0, 0, 0, 0⟩ : HelloEntry)⟩ : HelloChange), Told := [], All := false, Got := 0, Full := false })) fun x1 =>
 some x1

theorem spec_l43Anew_c {a0 : HelloEnd} {r : HelloEnd} (h : spec_l43Anew_m a0 = some r) : EffC Try.prog 78 [.agg [.d (.int .i64 a0.Name), .d (.int .i64 a0.Peer), .d (slD HelloKey.enc a0.Keys), .d (.int .i64 a0.Boot), .d (slD HelloEntry.enc a0.Want), .d (.int .i64 a0.Turn), .d (.int .i64 a0.PeerBoot), .d (.int .i64 a0.PeerTurn), .d (.bool a0.Up), .d (.int .i64 a0.Left), .d (.int .i64 a0.Num), .d (.int .i64 a0.Under.Kind), .d (.int .i64 a0.Under.Entry.Addr), .d (.int .i64 a0.Under.Entry.Len), .d (.int .i64 a0.Under.Entry.Cost), .d (.int .i64 a0.Under.Entry.Label), .d (slD HelloEntry.enc a0.Told), .d (.bool a0.All), .d (.int .i64 a0.Got), .d (.bool a0.Full), .osl 9000 0 a0.Heard.length, .d (.int .i64 a0.Keep)]] [(9000, .arr 111 5 a0.Heard.length (rows HelloRoute.enc a0.Heard))] (.agg [.d (.int .i64 r.Name), .d (.int .i64 r.Peer), .d (slD HelloKey.enc r.Keys), .d (.int .i64 r.Boot), .d (slD HelloEntry.enc r.Want), .d (.int .i64 r.Turn), .d (.int .i64 r.PeerBoot), .d (.int .i64 r.PeerTurn), .d (.bool r.Up), .d (.int .i64 r.Left), .d (.int .i64 r.Num), .d (.int .i64 r.Under.Kind), .d (.int .i64 r.Under.Entry.Addr), .d (.int .i64 r.Under.Entry.Len), .d (.int .i64 r.Under.Entry.Cost), .d (.int .i64 r.Under.Entry.Label), .d (slD HelloEntry.enc r.Told), .d (.bool r.All), .d (.int .i64 r.Got), .d (.bool r.Full), .osl 5001 0 r.Heard.length, .d (.int .i64 r.Keep)]) [(5001, .arr 111 5 r.Heard.length (rows HelloRoute.enc r.Heard))] := by
  refine effC_x tOk (fn := Try.f78) (c := codeOf Try.f78) rfl rfl ?_
  unfold spec_l43Anew_m at h
  conv => whnf
  obtain ⟨x1, hx1, h⟩ := bd_some h
  refine cE [(9000, 9000)] 1000 (spec_l43Stale_c hx1) ?_
  conv => whnf
  obtain rfl := Option.some.inj h
  exact lfE [.s [(5001, 6001), (6001, 5001)]]

noncomputable def spec_l43Life_m (a0 : HelloEnd) : Option (HelloEnd) :=
(if (decide (a0.Boot < 1000)) = true then
 bd (spec_l43Anew_m ({ a0 with Boot := IntKind.i64.wrap (a0.Boot + 1), Turn := 0, Left := 0 })) fun x1 =>
 some x1
else
 bd (spec_l43Anew_m ({ a0 with Turn := 0, Left := 0 })) fun x2 =>
 some x2)

theorem spec_l43Life_c {a0 : HelloEnd} {r : HelloEnd} (h : spec_l43Life_m a0 = some r) : EffC Try.prog 27 [.agg [.d (.int .i64 a0.Name), .d (.int .i64 a0.Peer), .d (slD HelloKey.enc a0.Keys), .d (.int .i64 a0.Boot), .d (slD HelloEntry.enc a0.Want), .d (.int .i64 a0.Turn), .d (.int .i64 a0.PeerBoot), .d (.int .i64 a0.PeerTurn), .d (.bool a0.Up), .d (.int .i64 a0.Left), .d (.int .i64 a0.Num), .d (.int .i64 a0.Under.Kind), .d (.int .i64 a0.Under.Entry.Addr), .d (.int .i64 a0.Under.Entry.Len), .d (.int .i64 a0.Under.Entry.Cost), .d (.int .i64 a0.Under.Entry.Label), .d (slD HelloEntry.enc a0.Told), .d (.bool a0.All), .d (.int .i64 a0.Got), .d (.bool a0.Full), .osl 9000 0 a0.Heard.length, .d (.int .i64 a0.Keep)]] [(9000, .arr 111 5 a0.Heard.length (rows HelloRoute.enc a0.Heard))] (.agg [.d (.int .i64 r.Name), .d (.int .i64 r.Peer), .d (slD HelloKey.enc r.Keys), .d (.int .i64 r.Boot), .d (slD HelloEntry.enc r.Want), .d (.int .i64 r.Turn), .d (.int .i64 r.PeerBoot), .d (.int .i64 r.PeerTurn), .d (.bool r.Up), .d (.int .i64 r.Left), .d (.int .i64 r.Num), .d (.int .i64 r.Under.Kind), .d (.int .i64 r.Under.Entry.Addr), .d (.int .i64 r.Under.Entry.Len), .d (.int .i64 r.Under.Entry.Cost), .d (.int .i64 r.Under.Entry.Label), .d (slD HelloEntry.enc r.Told), .d (.bool r.All), .d (.int .i64 r.Got), .d (.bool r.Full), .osl 5001 0 r.Heard.length, .d (.int .i64 r.Keep)]) [(5001, .arr 111 5 r.Heard.length (rows HelloRoute.enc r.Heard))] := by
  refine effC_x tOk (fn := Try.f27) (c := codeOf Try.f27) rfl rfl ?_
  unfold spec_l43Life_m at h
  conv => whnf
  refine seq_in tOk ?_
  conv => whnf
  refine andI h (fun _ h => ?_) (fun _ h => ?_)
  · conv => whnf
    obtain ⟨x1, hx1, h⟩ := bd_some h
    refine cE [(9000, 9000)] 1000 (spec_l43Anew_c hx1) ?_
    conv => whnf
    obtain rfl := Option.some.inj h
    exact lfE [.s [(5001, 6001), (6001, 5001)]]
  · conv => whnf
    obtain ⟨x2, hx2, h⟩ := bd_some h
    refine cE [(9000, 9000)] 1000 (spec_l43Anew_c hx2) ?_
    conv => whnf
    obtain rfl := Option.some.inj h
    exact lfE [.s [(5001, 6001), (6001, 5001)]]

noncomputable def spec_HelloTick_m (a0 : HelloEnd) : Option (HelloEnd) :=
 bd (spec_HelloEndOk_m a0) fun x1 =>
(if (!x1) = true then
 some (⟨0, 0, [], 0, [], 0, 0, 0, false, 0, 0, (⟨0, (⟨0, 0, 0, 0⟩ : HelloEntry)⟩ : HelloChange), [], false, 0, false, [], 0⟩ : HelloEnd)
else
 bd (spec_l42Copy_m a0) fun x2 =>
 bd (α := List HelloRoute × Int) ((if (decide (x2.Keep > 0)) = true then
(if ((IntKind.i64.wrap (x2.Keep - 1)) == 0) = true then
 bd (spec_l43Fresh_m x2.Heard) fun x6 =>
 some (x6, IntKind.i64.wrap (x2.Keep - 1))
else
 some (x2.Heard, IntKind.i64.wrap (x2.Keep - 1)))
else
 some (x2.Heard, x2.Keep))) fun x3 =>
(if (decide (x2.Left > 0)) = true then
(if ((IntKind.i64.wrap (x2.Left - 1)) == 0) = true then
 bd (spec_l43Life_m ({ x2 with Left := IntKind.i64.wrap (x2.Left - 1), Heard := x3.1, Keep := x3.2 })) fun x7 =>
 bd (spec_l42Copy_m x7) fun x8 =>
 some x8
else
 bd (spec_l42Copy_m ({ x2 with Left := IntKind.i64.wrap (x2.Left - 1), Heard := x3.1, Keep := x3.2 })) fun x9 =>
 some x9)
else
 bd (spec_l42Copy_m ({ x2 with Heard := x3.1, Keep := x3.2 })) fun x10 =>
 some x10))

theorem spec_HelloTick_c {a0 : HelloEnd} {r : HelloEnd} (h : spec_HelloTick_m a0 = some r) : PureC Try.prog 6 [.agg [.d (.int .i64 a0.Name), .d (.int .i64 a0.Peer), .d (slD HelloKey.enc a0.Keys), .d (.int .i64 a0.Boot), .d (slD HelloEntry.enc a0.Want), .d (.int .i64 a0.Turn), .d (.int .i64 a0.PeerBoot), .d (.int .i64 a0.PeerTurn), .d (.bool a0.Up), .d (.int .i64 a0.Left), .d (.int .i64 a0.Num), .d (.int .i64 a0.Under.Kind), .d (.int .i64 a0.Under.Entry.Addr), .d (.int .i64 a0.Under.Entry.Len), .d (.int .i64 a0.Under.Entry.Cost), .d (.int .i64 a0.Under.Entry.Label), .d (slD HelloEntry.enc a0.Told), .d (.bool a0.All), .d (.int .i64 a0.Got), .d (.bool a0.Full), .d (slD HelloRoute.enc a0.Heard), .d (.int .i64 a0.Keep)]] (.agg [.d (.int .i64 r.Name), .d (.int .i64 r.Peer), .osl 5001 0 r.Keys.length, .d (.int .i64 r.Boot), .osl 5002 0 r.Want.length, .d (.int .i64 r.Turn), .d (.int .i64 r.PeerBoot), .d (.int .i64 r.PeerTurn), .d (.bool r.Up), .d (.int .i64 r.Left), .d (.int .i64 r.Num), .d (.int .i64 r.Under.Kind), .d (.int .i64 r.Under.Entry.Addr), .d (.int .i64 r.Under.Entry.Len), .d (.int .i64 r.Under.Entry.Cost), .d (.int .i64 r.Under.Entry.Label), .osl 5003 0 r.Told.length, .d (.bool r.All), .d (.int .i64 r.Got), .d (.bool r.Full), .osl 5004 0 r.Heard.length, .d (.int .i64 r.Keep)]) [⟨5001, 113, 2, r.Keys.length, rows HelloKey.enc r.Keys⟩, ⟨5002, 34, 4, r.Want.length, rows HelloEntry.enc r.Want⟩, ⟨5003, 34, 4, r.Told.length, rows HelloEntry.enc r.Told⟩, ⟨5004, 111, 5, r.Heard.length, rows HelloRoute.enc r.Heard⟩] := by
  refine pureC_x tOk (fn := Try.f6) (c := codeOf Try.f6) rfl rfl ?_
  unfold spec_HelloTick_m at h
  conv => whnf
  refine seq_in tOk ?_
  conv => whnf
  obtain ⟨x1, hx1, h⟩ := bd_some h
  refine cC 0 (spec_HelloEndOk_c hx1) ?_
  clear hx1
  conv => whnf
  refine andI h (fun _ h => ?_) (fun _ h => ?_)
  · conv => whnf
    obtain rfl := Option.some.inj h
    exact lfP [.k [1], .p 5001 113 2 (rows HelloKey.enc ([] : List HelloKey)), .p 5002 34 4 (rows HelloEntry.enc ([] : List HelloEntry)), .p 5003 34 4 (rows HelloEntry.enc ([] : List HelloEntry)), .p 5004 111 5 (rows HelloRoute.enc ([] : List HelloRoute))]
  · conv => whnf
    obtain ⟨x2, hx2, h⟩ := bd_some h
    refine cC 1000 (spec_l42Copy_c hx2) ?_
    clear hx2
    conv => whnf
    obtain ⟨x3, hx3, h⟩ := bd_some h
    refine seq_join tOk (fun s4 => ⟨0, 38, [(2, .ref 2 0 0), (3, .ref 3 0 0)], [], [(7001, .arr 111 5 s4.1.length (rows HelloRoute.enc s4.1)), (3, .box 39 [.d (.int .i64 x2.Name), .d (.int .i64 x2.Peer), .osl 6001 0 x2.Keys.length, .d (.int .i64 x2.Boot), .osl 6002 0 x2.Want.length, .d (.int .i64 x2.Turn), .d (.int .i64 x2.PeerBoot), .d (.int .i64 x2.PeerTurn), .d (.bool x2.Up), .d (.int .i64 x2.Left), .d (.int .i64 x2.Num), .d (.int .i64 x2.Under.Kind), .d (.int .i64 x2.Under.Entry.Addr), .d (.int .i64 x2.Under.Entry.Len), .d (.int .i64 x2.Under.Entry.Cost), .d (.int .i64 x2.Under.Entry.Label), .osl 6003 0 x2.Told.length, .d (.bool x2.All), .d (.int .i64 x2.Got), .d (.bool x2.Full), .osl 7001 0 s4.1.length, .d (.int .i64 s4.2)]), (6003, .arr 34 4 x2.Told.length (rows HelloEntry.enc x2.Told)), (6002, .arr 34 4 x2.Want.length (rows HelloEntry.enc x2.Want)), (6001, .arr 113 2 x2.Keys.length (rows HelloKey.enc x2.Keys)), (2, .box 39 [.d (.int .i64 0), .d (.int .i64 0), .d (.nil), .d (.int .i64 0), .d (.nil), .d (.int .i64 0), .d (.int .i64 0), .d (.int .i64 0), .d (.bool false), .d (.int .i64 0), .d (.int .i64 0), .d (.int .i64 0), .d (.int .i64 0), .d (.int .i64 0), .d (.int .i64 0), .d (.int .i64 0), .d (.nil), .d (.bool false), .d (.int .i64 0), .d (.bool false), .d (.nil), .d (.int .i64 0)])], []⟩) (fun s4 => x3 = s4) ?_ ?_
    · conv => whnf
      refine andI hx3 (fun _ hx3 => ?_) (fun _ hx3 => ?_)
      · conv => whnf
        refine andI hx3 (fun _ hx3 => ?_) (fun _ hx3 => ?_)
        · conv => whnf
          obtain ⟨x6, hx6, hx3⟩ := bd_some hx3
          refine cC 2000 (spec_l43Fresh_c hx6) ?_
          clear hx6
          conv => whnf
          obtain rfl := Option.some.inj hx3
          exact ⟨_, rfl, leX []⟩
        · conv => whnf
          obtain rfl := Option.some.inj hx3
          exact ⟨_, rfl, leX [.s [(6004, 7001), (7001, 6004)]]⟩
      · conv => whnf
        obtain rfl := Option.some.inj hx3
        exact ⟨_, rfl, leX [.s [(6004, 7001), (7001, 6004)]]⟩
    · rintro _ rfl
      conv => whnf
      refine seq_in tOk ?_
      conv => whnf
      refine andI h (fun _ h => ?_) (fun _ h => ?_)
      · conv => whnf
        refine andI h (fun _ h => ?_) (fun _ h => ?_)
        · conv => whnf
          obtain ⟨x7, hx7, h⟩ := bd_some h
          refine callFz [6001, 6002, 6003] ?_
          conv => whnf
          refine cE [(9000, 7001)] 1000 (spec_l43Life_c hx7) ?_
          conv => whnf
          obtain ⟨x8, hx8, h⟩ := bd_some h
          refine cC 3000 (spec_l42Copy_c hx8) ?_
          clear hx8
          conv => whnf
          obtain rfl := Option.some.inj h
          exact lfP [.s [(5001, 8001), (5002, 8002), (5003, 8003), (5004, 8004), (8001, 5001), (8002, 5002), (8003, 5003), (8004, 5004)]]
        · conv => whnf
          obtain ⟨x9, hx9, h⟩ := bd_some h
          refine cC 3000 (spec_l42Copy_c hx9) ?_
          clear hx9
          conv => whnf
          obtain rfl := Option.some.inj h
          exact lfP [.s [(5001, 8001), (5002, 8002), (5003, 8003), (5004, 8004), (8001, 5001), (8002, 5002), (8003, 5003), (8004, 5004)]]
      · conv => whnf
        obtain ⟨x10, hx10, h⟩ := bd_some h
        refine cC 3000 (spec_l42Copy_c hx10) ?_
        clear hx10
        conv => whnf
        obtain rfl := Option.some.inj h
        exact lfP [.s [(5001, 8001), (5002, 8002), (5003, 8003), (5004, 8004), (8001, 5001), (8002, 5002), (8003, 5003), (8004, 5004)]]

noncomputable def impl_within_m (a0 : Int) (a1 : Int) (a2 : Int) : Option (Bool) :=
 some ((decide (a1 ≤ a0)) && (decide (a0 ≤ a2)))

theorem impl_within_c {a0 : Int} {a1 : Int} {a2 : Int} {r : Bool} (h : impl_within_m a0 a1 a2 = some r) : PureC Try.prog 82 [.d (.int .i64 a0), .d (.int .i64 a1), .d (.int .i64 a2)] (.d (.bool r)) [] := by
  refine pureC_x tOk (fn := Try.f82) (c := codeOf Try.f82) rfl rfl ?_
  unfold impl_within_m at h
  conv => whnf
  obtain rfl := Option.some.inj h
  exact lfP []

noncomputable def impl_HelloKeysOk_m (a0 : (List HelloKey)) : Option (Bool) :=
 bd (lp (σ := Int) (β := (Unit ⊕ Unit)) (fun s1 =>
(if (decide (s1 < ((a0.length : Nat) : Int))) = true then
 gd ((0 : Int) ≤ s1 ∧ s1 < ((a0.length : Nat) : Int)) <|
 bd (impl_within_m ((a0.getD s1.toNat default).Id) 1 9) fun x6 =>
 bd (gcall ((!x6) = false) (impl_within_m ((a0.getD s1.toNat default).Secret) 1 2147483646)) fun x7 =>
 gd ((decide (s1 > 0)) = true → (((!x6) || (!x7)) = false → ((0 : Int) ≤ IntKind.i64.wrap (s1 - 1) ∧ IntKind.i64.wrap (s1 - 1) < ((a0.length : Nat) : Int)))) <|
(if (((!x6) || (!x7)) || ((decide (s1 > 0)) && (decide (((a0.getD ((IntKind.i64.wrap (s1 - 1)).toNat) default).Id) ≥ ((a0.getD s1.toNat default).Id))))) = true then
 some (.inr (.inl ()))
else
 some (.inl (IntKind.i64.wrap (s1 + 1))))
else
 some (.inr (.inr ())))) 0) fun x4 =>
(match x4 with
| .inl d9 =>
 some false
| .inr d10 =>
 bd (impl_within_m ((a0.length : Nat) : Int) 1 3) fun x11 =>
 some x11)

theorem impl_HelloKeysOk_c {a0 : (List HelloKey)} {r : Bool} (h : impl_HelloKeysOk_m a0 = some r) : PureC Try.prog 83 [.d (slD HelloKey.enc a0)] (.d (.bool r)) [] := by
  refine pureC_x tOk (fn := Try.f83) (c := codeOf Try.f83) rfl rfl ?_
  unfold impl_HelloKeysOk_m at h
  conv => whnf
  refine seq_in tOk ?_
  conv => whnf
  obtain ⟨x4, hx4, h⟩ := bd_some h
  refine loop_m tOk hx4 (fun s1 => ⟨0, 41, [(0, .d (slD HelloKey.enc a0)), (5, .d (slD HelloKey.enc a0)), (6, .d (.int .i64 ((a0.length : Nat) : Int))), (7, .d (.int .i64 s1))], [], [], []⟩) ?_ ?_
  · exact leX []
  · clear hx4
    intro s1 y2 g3 hy2
    conv => whnf
    refine seq_in tOk ?_
    conv => whnf
    refine andI g3 (fun _ g3 => ?_) (fun _ g3 => ?_)
    · conv => whnf
      refine seq_in tOk ?_
      conv => whnf
      refine gdI g3 (fun g3 => ?_)
      conv => whnf
      obtain ⟨x6, hx6, g3⟩ := bd_some g3
      obtain ⟨x7, hx7, g3⟩ := bd_some g3
      obtain ⟨g8, g3⟩ := gd_some g3
      refine draw_u tOk [.u 2 0 (.d (.bool x6)) [], .u 7 0 (.d (.bool x7)) []] 25 [] [0, 1, 3, 7, 15, 31, 63, 127, 255, 511, 1023, 2047, 4095, 8191, 16383, 16383, 49151, 131071, 262143, 524287, 16383, 1064959, 4194303, 8388607, 16777215] [] ?_
      conv => whnf
      refine And.intro (callD_any (impl_within_c hx6) (by kernel_rfl)) ?_
      conv => whnf
      refine And.intro (callDG_if rfl rfl rfl rfl (by intro c0; exact impl_within_c (gcall_some hx7 c0))) ?_
      conv => whnf
      refine And.intro g8 ?_
      clear g8
      conv => whnf
      refine And.intro (by kernel_rfl) ?_
      conv => whnf
      refine andI g3 (fun _ g3 => ?_) (fun _ g3 => ?_)
      · conv => whnf
        obtain rfl := Option.some.inj g3
        obtain rfl := hy2 _ rfl
        obtain rfl := Option.some.inj h
        exact lfP []
      · conv => whnf
        obtain rfl := Option.some.inj g3
        exact ⟨_, rfl, leX []⟩
    · conv => whnf
      obtain rfl := Option.some.inj g3
      obtain rfl := hy2 _ rfl
      obtain ⟨x11, hx11, h⟩ := bd_some h
      refine cC 0 (impl_within_c hx11) ?_
      clear hx11
      conv => whnf
      obtain rfl := Option.some.inj h
      exact lfP []

noncomputable def impl_HelloEntry_prefix_m (a0 : HelloEntry) : Option (NetPrefix) :=
 some (⟨a0.Addr, a0.Len⟩ : NetPrefix)

theorem impl_HelloEntry_prefix_c {a0 : HelloEntry} {r : NetPrefix} (h : impl_HelloEntry_prefix_m a0 = some r) : PureC Try.prog 128 [.agg [.d (.int .i64 a0.Addr), .d (.int .i64 a0.Len), .d (.int .i64 a0.Cost), .d (.int .i64 a0.Label)]] (.agg [.d (.int .i64 r.Addr), .d (.int .i64 r.Len)]) [] := by
  refine pureC_x tOk (fn := Try.f128) (c := codeOf Try.f128) rfl rfl ?_
  unfold impl_HelloEntry_prefix_m at h
  conv => whnf
  obtain rfl := Option.some.inj h
  exact lfP []

noncomputable def impl_NetPrefix_size_m (a0 : NetPrefix) : Option (Int) :=
 gd ((0 : Int) ≤ (IntKind.i64.wrap (16 - a0.Len))) <|
 some (IntKind.i64.wrap (1 * 2 ^ min (IntKind.i64.wrap (16 - a0.Len) : Int).toNat IntKind.i64.bits))

theorem impl_NetPrefix_size_c {a0 : NetPrefix} {r : Int} (h : impl_NetPrefix_size_m a0 = some r) : PureC Try.prog 140 [.agg [.d (.int .i64 a0.Addr), .d (.int .i64 a0.Len)]] (.d (.int .i64 r)) [] := by
  refine pureC_x tOk (fn := Try.f140) (c := codeOf Try.f140) rfl rfl ?_
  unfold impl_NetPrefix_size_m at h
  conv => whnf
  refine gdI h (fun h => ?_)
  conv => whnf
  obtain rfl := Option.some.inj h
  exact lfP []

noncomputable def impl_NetOk_m (a0 : NetPrefix) : Option (Bool) :=
 bd (impl_within_m a0.Len 0 16) fun x1 =>
 bd (gcall (x1 = true) (impl_within_m a0.Addr 0 65535)) fun x2 =>
 bd (gcall ((x1 && x2) = true) (impl_NetPrefix_size_m a0)) fun x3 =>
 gd ((x1 && x2) = true → ((x3 : Int) ≠ 0)) <|
 some ((x1 && x2) && (((a0.Addr : Int).tmod x3) == 0))

theorem impl_NetOk_c {a0 : NetPrefix} {r : Bool} (h : impl_NetOk_m a0 = some r) : PureC Try.prog 107 [.agg [.d (.int .i64 a0.Addr), .d (.int .i64 a0.Len)]] (.d (.bool r)) [] := by
  refine pureC_x tOk (fn := Try.f107) (c := codeOf Try.f107) rfl rfl ?_
  unfold impl_NetOk_m at h
  conv => whnf
  obtain ⟨x1, hx1, h⟩ := bd_some h
  obtain ⟨x2, hx2, h⟩ := bd_some h
  obtain ⟨x3, hx3, h⟩ := bd_some h
  obtain ⟨g4, h⟩ := gd_some h
  refine draw_u tOk [.u 2 0 (.d (.bool x1)) [], .u 6 0 (.d (.bool x2)) [], .u 12 0 (.d (.int .i64 x3)) []] 17 [] [0, 1, 3, 7, 15, 31, 63, 127, 255, 511, 1023, 511, 2559, 8191, 16383, 32767, 65535] [] ?_
  conv => whnf
  refine And.intro (callD_any (impl_within_c hx1) (by kernel_rfl)) ?_
  conv => whnf
  refine And.intro (callDG_if rfl rfl rfl rfl (by intro c0; exact impl_within_c (gcall_some hx2 c0))) ?_
  conv => whnf
  refine And.intro (callDG_if rfl rfl rfl rfl (by intro c0; exact impl_NetPrefix_size_c (gcall_some hx3 c0))) ?_
  conv => whnf
  refine And.intro g4 ?_
  clear g4
  conv => whnf
  refine And.intro (by kernel_rfl) ?_
  conv => whnf
  obtain rfl := Option.some.inj h
  exact lfP []

noncomputable def impl_HelloEntry_ok_m (a0 : HelloEntry) : Option (Bool) :=
 bd (impl_HelloEntry_prefix_m a0) fun x1 =>
 bd (impl_NetOk_m x1) fun x2 =>
 bd (gcall (x2 = true) (impl_within_m a0.Cost 1 255)) fun x3 =>
 bd (gcall ((x2 && x3) = true) (impl_within_m a0.Label 0 1000)) fun x4 =>
 some ((x2 && x3) && x4)

theorem impl_HelloEntry_ok_c {a0 : HelloEntry} {r : Bool} (h : impl_HelloEntry_ok_m a0 = some r) : PureC Try.prog 127 [.agg [.d (.int .i64 a0.Addr), .d (.int .i64 a0.Len), .d (.int .i64 a0.Cost), .d (.int .i64 a0.Label)]] (.d (.bool r)) [] := by
  refine pureC_x tOk (fn := Try.f127) (c := codeOf Try.f127) rfl rfl ?_
  unfold impl_HelloEntry_ok_m at h
  conv => whnf
  obtain ⟨x1, hx1, h⟩ := bd_some h
  refine cC 0 (impl_HelloEntry_prefix_c hx1) ?_
  clear hx1
  conv => whnf
  obtain ⟨x2, hx2, h⟩ := bd_some h
  refine cC 0 (impl_NetOk_c hx2) ?_
  clear hx2
  conv => whnf
  obtain ⟨x3, hx3, h⟩ := bd_some h
  refine cG (fun c0 => impl_within_c (gcall_some hx3 c0)) ?_
  conv => whnf
  obtain ⟨x4, hx4, h⟩ := bd_some h
  refine cG (fun c0 => impl_within_c (gcall_some hx4 c0)) ?_
  conv => whnf
  obtain rfl := Option.some.inj h
  exact lfP []

noncomputable def impl_HelloChange_ok_m (a0 : HelloChange) : Option (Bool) :=
 bd (α := Bool) ((if (a0.Kind == 0) = true then
 some (a0.Kind == 0)
else
 some (a0.Kind == 3))) fun x1 =>
(if x1 = true then
 some ((a0.Entry.Addr == 0) && ((a0.Entry.Len == 0) && ((a0.Entry.Cost == 0) && ((a0.Entry.Label == 0) && true))))
else
(if (a0.Kind == 1) = true then
 bd (impl_HelloEntry_ok_m a0.Entry) fun x4 =>
 some x4
else
(if (a0.Kind == 2) = true then
 bd (impl_HelloEntry_prefix_m a0.Entry) fun x5 =>
 bd (impl_NetOk_m x5) fun x6 =>
 some ((x6 && (a0.Entry.Cost == 0)) && (a0.Entry.Label == 0))
else
 some false)))

theorem impl_HelloChange_ok_c {a0 : HelloChange} {r : Bool} (h : impl_HelloChange_ok_m a0 = some r) : PureC Try.prog 84 [.agg [.d (.int .i64 a0.Kind), .d (.int .i64 a0.Entry.Addr), .d (.int .i64 a0.Entry.Len), .d (.int .i64 a0.Entry.Cost), .d (.int .i64 a0.Entry.Label)]] (.d (.bool r)) [] := by
  refine pureC_x tOk (fn := Try.f84) (c := codeOf Try.f84) rfl rfl ?_
  unfold impl_HelloChange_ok_m at h
  conv => whnf
  refine seq_in tOk ?_
  conv => whnf
  obtain ⟨x1, hx1, h⟩ := bd_some h
  refine seq_join tOk (fun s2 => ⟨0, 35, [(1, .ref 1 0 0), (4, .d (.int .i64 a0.Kind)), (5, .d (.bool s2))], [], [(1, .box 36 [.d (.int .i64 a0.Kind), .d (.int .i64 a0.Entry.Addr), .d (.int .i64 a0.Entry.Len), .d (.int .i64 a0.Entry.Cost), .d (.int .i64 a0.Entry.Label)])], []⟩) (fun s2 => x1 = s2) ?_ ?_
  · conv => whnf
    refine andI hx1 (fun _ hx1 => ?_) (fun _ hx1 => ?_)
    · conv => whnf
      obtain rfl := Option.some.inj hx1
      exact ⟨_, rfl, leX []⟩
    · conv => whnf
      obtain rfl := Option.some.inj hx1
      exact ⟨_, rfl, leX []⟩
  · rintro _ rfl
    conv => whnf
    refine andI h (fun _ h => ?_) (fun _ h => ?_)
    · conv => whnf
      obtain rfl := Option.some.inj h
      exact lfP []
    · conv => whnf
      refine andI h (fun _ h => ?_) (fun _ h => ?_)
      · conv => whnf
        obtain ⟨x4, hx4, h⟩ := bd_some h
        refine cC 0 (impl_HelloEntry_ok_c hx4) ?_
        clear hx4
        conv => whnf
        obtain rfl := Option.some.inj h
        exact lfP []
      · conv => whnf
        refine andI h (fun _ h => ?_) (fun _ h => ?_)
        · conv => whnf
          obtain ⟨x5, hx5, h⟩ := bd_some h
          refine cC 0 (impl_HelloEntry_prefix_c hx5) ?_
          clear hx5
          conv => whnf
          obtain ⟨x6, hx6, h⟩ := bd_some h
          refine cC 0 (impl_NetOk_c hx6) ?_
          clear hx6
          conv => whnf
          obtain rfl := Option.some.inj h
          exact lfP []
        · conv => whnf
          obtain rfl := Option.some.inj h
          exact lfP []

noncomputable def impl_comparePrefix_m (a0 : NetPrefix) (a1 : NetPrefix) : Option (Int) :=
(if (a0.Addr != a1.Addr) = true then
 some (IntKind.i64.wrap (a0.Addr - a1.Addr))
else
 some (IntKind.i64.wrap (a0.Len - a1.Len)))

theorem impl_comparePrefix_c {a0 : NetPrefix} {a1 : NetPrefix} {r : Int} (h : impl_comparePrefix_m a0 a1 = some r) : PureC Try.prog 129 [.agg [.d (.int .i64 a0.Addr), .d (.int .i64 a0.Len)], .agg [.d (.int .i64 a1.Addr), .d (.int .i64 a1.Len)]] (.d (.int .i64 r)) [] := by
  refine pureC_x tOk (fn := Try.f129) (c := codeOf Try.f129) rfl rfl ?_
  unfold impl_comparePrefix_m at h
  conv => whnf
  refine seq_in tOk ?_
  conv => whnf
  refine andI h (fun _ h => ?_) (fun _ h => ?_)
  · conv => whnf
    obtain rfl := Option.some.inj h
    exact lfP []
  · conv => whnf
    obtain rfl := Option.some.inj h
    exact lfP []

noncomputable def impl_HelloTableOk_m (a0 : (List HelloEntry)) : Option (Bool) :=
 bd (lp (σ := Int) (β := (Unit ⊕ Unit)) (fun s1 =>
(if (decide (s1 < ((a0.length : Nat) : Int))) = true then
 gd ((0 : Int) ≤ s1 ∧ s1 < ((a0.length : Nat) : Int)) <|
 bd (impl_HelloEntry_ok_m (a0.getD s1.toNat default)) fun x6 =>
 gd ((decide (s1 > 0)) = true → ((!x6) = false → ((0 : Int) ≤ IntKind.i64.wrap (s1 - 1) ∧ IntKind.i64.wrap (s1 - 1) < ((a0.length : Nat) : Int)))) <|
 bd (gcall ((decide (s1 > 0)) = true ∧ (!x6) = false) (impl_HelloEntry_prefix_m (a0.getD ((IntKind.i64.wrap (s1 - 1)).toNat) default))) fun x8 =>
 bd (gcall ((decide (s1 > 0)) = true ∧ (!x6) = false) (impl_HelloEntry_prefix_m (a0.getD s1.toNat default))) fun x9 =>
 bd (gcall ((decide (s1 > 0)) = true ∧ (!x6) = false) (impl_comparePrefix_m x8 x9)) fun x10 =>
(if ((!x6) || ((decide (s1 > 0)) && (decide (x10 ≥ 0)))) = true then
 some (.inr (.inl ()))
else
 some (.inl (IntKind.i64.wrap (s1 + 1))))
else
 some (.inr (.inr ())))) 0) fun x4 =>
(match x4 with
| .inl d11 =>
 some false
| .inr d12 =>
 some (decide (((a0.length : Nat) : Int) ≤ 8)))

theorem impl_HelloTableOk_c {a0 : (List HelloEntry)} {r : Bool} (h : impl_HelloTableOk_m a0 = some r) : PureC Try.prog 85 [.d (slD HelloEntry.enc a0)] (.d (.bool r)) [] := by
  refine pureC_x tOk (fn := Try.f85) (c := codeOf Try.f85) rfl rfl ?_
  unfold impl_HelloTableOk_m at h
  conv => whnf
  refine seq_in tOk ?_
  conv => whnf
  obtain ⟨x4, hx4, h⟩ := bd_some h
  refine loop_m tOk hx4 (fun s1 => ⟨0, 35, [(0, .d (slD HelloEntry.enc a0)), (5, .d (slD HelloEntry.enc a0)), (6, .d (.int .i64 ((a0.length : Nat) : Int))), (7, .d (.int .i64 s1))], [], [], []⟩) ?_ ?_
  · exact leX []
  · clear hx4
    intro s1 y2 g3 hy2
    conv => whnf
    refine seq_in tOk ?_
    conv => whnf
    refine andI g3 (fun _ g3 => ?_) (fun _ g3 => ?_)
    · conv => whnf
      refine seq_in tOk ?_
      conv => whnf
      refine gdI g3 (fun g3 => ?_)
      conv => whnf
      obtain ⟨x6, hx6, g3⟩ := bd_some g3
      obtain ⟨g7, g3⟩ := gd_some g3
      obtain ⟨x8, hx8, g3⟩ := bd_some g3
      obtain ⟨x9, hx9, g3⟩ := bd_some g3
      obtain ⟨x10, hx10, g3⟩ := bd_some g3
      refine draw_u tOk [.u 1 0 (.d (.bool x6)) [], .u 12 0 (.agg [.d (.int .i64 x8.Addr), .d (.int .i64 x8.Len)]) [], .u 14 0 (.agg [.d (.int .i64 x9.Addr), .d (.int .i64 x9.Len)]) [], .u 15 0 (.d (.int .i64 x10)) []] 19 [] [0, 1, 3, 7, 15, 31, 63, 127, 127, 383, 1023, 2047, 4095, 127, 16383, 32767, 65535, 131071, 262143] [] ?_
      conv => whnf
      refine And.intro (callD_any (impl_HelloEntry_ok_c hx6) (by kernel_rfl)) ?_
      conv => whnf
      refine And.intro g7 ?_
      clear g7
      conv => whnf
      refine And.intro (callDG_if rfl rfl rfl rfl (by intro c0 c1; exact impl_HelloEntry_prefix_c (gcall_some hx8 ⟨c0, c1⟩))) ?_
      conv => whnf
      refine And.intro (callDG_if rfl rfl rfl rfl (by intro c0 c1; exact impl_HelloEntry_prefix_c (gcall_some hx9 ⟨c0, c1⟩))) ?_
      conv => whnf
      refine And.intro (callDG_if rfl rfl rfl rfl (by intro c0 c1; exact impl_comparePrefix_c (gcall_some hx10 ⟨c0, c1⟩))) ?_
      conv => whnf
      refine And.intro (by kernel_rfl) ?_
      conv => whnf
      refine andI g3 (fun _ g3 => ?_) (fun _ g3 => ?_)
      · conv => whnf
        obtain rfl := Option.some.inj g3
        obtain rfl := hy2 _ rfl
        obtain rfl := Option.some.inj h
        exact lfP []
      · conv => whnf
        obtain rfl := Option.some.inj g3
        exact ⟨_, rfl, leX []⟩
    · conv => whnf
      obtain rfl := Option.some.inj g3
      obtain rfl := hy2 _ rfl
      obtain rfl := Option.some.inj h
      exact lfP []

noncomputable def impl_clone_HelloEntry_m (a0 : (List HelloEntry)) : Option ((List HelloEntry)) :=
 gd ((0 : Int) ≤ 0 ∧ 0 ≤ ((a0.length : Nat) : Int) ∧ ((a0.length : Nat) : Int) * 32 ≤ 140737488355328 ∧ ((a0.length : Nat) : Int) ≤ 140737488355328) <|
 gd ((((List.replicate (0 : Int).toNat (default : HelloEntry)).length) + (a0.length)) * (32 + 1) ≤ 70368744177664) <|
 some ((List.replicate (0 : Int).toNat (default : HelloEntry)) ++ a0)

theorem impl_clone_HelloEntry_c {a0 : (List HelloEntry)} {r : (List HelloEntry)} (h : impl_clone_HelloEntry_m a0 = some r) : PureC Try.prog 89 [.d (slD HelloEntry.enc a0)] (.osl 5001 0 r.length) [⟨5001, 34, 4, r.length, rows HelloEntry.enc r⟩] := by
  refine pureC_x tOk (fn := Try.f89) (c := codeOf Try.f89) rfl rfl ?_
  unfold impl_clone_HelloEntry_m at h
  conv => whnf
  obtain ⟨g2, h⟩ := gd_some h
  refine And.intro g2 ?_
  clear g2
  refine ⟨(List.replicate (0 : Int).toNat (default : HelloEntry)).length, rows HelloEntry.enc (List.replicate (0 : Int).toNat (default : HelloEntry)), by simp, make_rows rfl, ?_⟩
  conv => whnf
  refine gdI h (fun h => ?_)
  refine appS (enc := HelloEntry.enc) (xs := (List.replicate (0 : Int).toNat (default : HelloEntry))) (ys := a0) ?_
  conv => whnf
  obtain rfl := Option.some.inj h
  exact lfP [.s [(5, 5001), (5001, 5)]]

noncomputable def impl_findEntry_1_m (a0 : HelloEntry) (a1 : NetPrefix) : Option (Int) :=
 bd (impl_HelloEntry_prefix_m a0) fun x1 =>
 bd (impl_comparePrefix_m x1 a1) fun x2 =>
 some x2

theorem impl_findEntry_1_c {a0 : HelloEntry} {a1 : NetPrefix} {r : Int} (h : impl_findEntry_1_m a0 a1 = some r) : PureC Try.prog 151 [.agg [.d (.int .i64 a0.Addr), .d (.int .i64 a0.Len), .d (.int .i64 a0.Cost), .d (.int .i64 a0.Label)], .agg [.d (.int .i64 a1.Addr), .d (.int .i64 a1.Len)]] (.d (.int .i64 r)) [] := by
  refine pureC_x tOk (fn := Try.f151) (c := codeOf Try.f151) rfl rfl ?_
  unfold impl_findEntry_1_m at h
  conv => whnf
  obtain ⟨x1, hx1, h⟩ := bd_some h
  obtain ⟨x2, hx2, h⟩ := bd_some h
  refine draw_u tOk [.u 1 0 (.agg [.d (.int .i64 x1.Addr), .d (.int .i64 x1.Len)]) [], .u 3 0 (.d (.int .i64 x2)) []] 5 [] [0, 1, 0, 7, 15] [] ?_
  conv => whnf
  refine And.intro (callD_any (impl_HelloEntry_prefix_c hx1) (by kernel_rfl)) ?_
  conv => whnf
  refine And.intro (callD_any (impl_comparePrefix_c hx2) (by kernel_rfl)) ?_
  conv => whnf
  refine And.intro (by kernel_rfl) ?_
  conv => whnf
  obtain rfl := Option.some.inj h
  exact lfP []

noncomputable def slices_BinarySearchFunc_HelloEntry_HelloEntry_NetPrefix_impl_findEntry_1_m (a0 : (List HelloEntry)) (a1 : NetPrefix) : Option (Int × Bool) :=
 bd (lp (σ := Int × Int) (β := (Int)) (fun s1 =>
(if (decide (s1.2 < s1.1)) = true then
 gd ((0 : Int) ≤ 1) <|
 gd ((0 : Int) ≤ IntKind.i64.wrap ((IntKind.u64.wrap (IntKind.i64.wrap (s1.2 + s1.1)) : Int).fdiv (2 ^ min (1 : Int).toNat IntKind.u64.bits)) ∧ IntKind.i64.wrap ((IntKind.u64.wrap (IntKind.i64.wrap (s1.2 + s1.1)) : Int).fdiv (2 ^ min (1 : Int).toNat IntKind.u64.bits)) < ((a0.length : Nat) : Int)) <|
 bd (impl_findEntry_1_m (a0.getD ((IntKind.i64.wrap ((IntKind.u64.wrap (IntKind.i64.wrap (s1.2 + s1.1)) : Int).fdiv (2 ^ min (1 : Int).toNat IntKind.u64.bits))).toNat) default) a1) fun x7 =>
(if (decide (x7 < 0)) = true then
 some (.inl (s1.1, IntKind.i64.wrap ((IntKind.i64.wrap ((IntKind.u64.wrap (IntKind.i64.wrap (s1.2 + s1.1)) : Int).fdiv (2 ^ min (1 : Int).toNat IntKind.u64.bits))) + 1)))
else
 some (.inl (IntKind.i64.wrap ((IntKind.u64.wrap (IntKind.i64.wrap (s1.2 + s1.1)) : Int).fdiv (2 ^ min (1 : Int).toNat IntKind.u64.bits)), s1.2)))
else
 some (.inr s1.2))) (((a0.length : Nat) : Int), 0)) fun x4 =>
 gd ((decide (x4 < ((a0.length : Nat) : Int))) = true → ((0 : Int) ≤ x4 ∧ x4 < ((a0.length : Nat) : Int))) <|
 bd (gcall ((decide (x4 < ((a0.length : Nat) : Int))) = true) (impl_findEntry_1_m (a0.getD x4.toNat default) a1)) fun x10 =>
 some (x4, ((decide (x4 < ((a0.length : Nat) : Int))) && (x10 == 0)))

theorem slices_BinarySearchFunc_HelloEntry_HelloEntry_NetPrefix_impl_findEntry_1_c {a0 : (List HelloEntry)} {a1 : NetPrefix} {r : Int × Bool} (h : slices_BinarySearchFunc_HelloEntry_HelloEntry_NetPrefix_impl_findEntry_1_m a0 a1 = some r) : PureC Try.prog 150 [.d (slD HelloEntry.enc a0), .agg [.d (.int .i64 a1.Addr), .d (.int .i64 a1.Len)], .fn 151 []] (.tup [.d (.int .i64 r.1), .d (.bool r.2)]) [] := by
  refine pureC_x tOk (fn := Try.f150) (c := codeOf Try.f150) rfl rfl ?_
  unfold slices_BinarySearchFunc_HelloEntry_HelloEntry_NetPrefix_impl_findEntry_1_m at h
  conv => whnf
  refine seq_in tOk ?_
  conv => whnf
  obtain ⟨x4, hx4, h⟩ := bd_some h
  refine loop_m tOk hx4 (fun s1 => ⟨0, 49, [(0, .d (slD HelloEntry.enc a0)), (2, .fn 151 []), (4, .ref 4 0 0), (8, .d (.int .i64 ((a0.length : Nat) : Int))), (9, .d (.int .i64 s1.2)), (10, .d (.int .i64 s1.1))], [], [(4, .box 136 [.d (.int .i64 a1.Addr), .d (.int .i64 a1.Len)])], []⟩) ?_ ?_
  · exact leX []
  · clear hx4
    intro s1 y2 g3 hy2
    conv => whnf
    refine seq_in tOk ?_
    conv => whnf
    refine andI g3 (fun _ g3 => ?_) (fun _ g3 => ?_)
    · conv => whnf
      refine gdI g3 (fun g3 => ?_)
      conv => whnf
      obtain ⟨g6, g3⟩ := gd_some g3
      obtain ⟨x7, hx7, g3⟩ := bd_some g3
      refine draw_u tOk [.u 6 0 (.d (.int .i64 x7)) []] 8 [] [0, 0, 0, 6, 14, 0, 63, 127] [] ?_
      conv => whnf
      refine And.intro g6 ?_
      clear g6
      conv => whnf
      refine And.intro (callD_any (impl_findEntry_1_c hx7) (by kernel_rfl)) ?_
      conv => whnf
      refine And.intro (by kernel_rfl) ?_
      conv => whnf
      refine andI g3 (fun _ g3 => ?_) (fun _ g3 => ?_)
      · conv => whnf
        obtain rfl := Option.some.inj g3
        exact ⟨_, rfl, leX []⟩
      · conv => whnf
        obtain rfl := Option.some.inj g3
        exact ⟨_, rfl, leX []⟩
    · conv => whnf
      obtain rfl := Option.some.inj g3
      obtain rfl := hy2 _ rfl
      obtain ⟨g9, h⟩ := gd_some h
      obtain ⟨x10, hx10, h⟩ := bd_some h
      refine draw_u tOk [.u 11 0 (.d (.int .i64 x10)) []] 16 [] [0, 0, 0, 6, 14, 30, 30, 30, 222, 478, 30, 2046, 4094, 8190, 4095, 32767] [] ?_
      conv => whnf
      refine And.intro g9 ?_
      clear g9
      conv => whnf
      refine And.intro (callDG_if rfl rfl rfl rfl (by intro c0; exact impl_findEntry_1_c (gcall_some hx10 c0))) ?_
      conv => whnf
      refine And.intro (by kernel_rfl) ?_
      conv => whnf
      obtain rfl := Option.some.inj h
      exact lfP []

noncomputable def impl_findEntry_m (a0 : (List HelloEntry)) (a1 : NetPrefix) : Option (Int × Bool) :=
 bd (slices_BinarySearchFunc_HelloEntry_HelloEntry_NetPrefix_impl_findEntry_1_m a0 a1) fun x1 =>
 some (x1.1, x1.2)

theorem impl_findEntry_c {a0 : (List HelloEntry)} {a1 : NetPrefix} {r : Int × Bool} (h : impl_findEntry_m a0 a1 = some r) : PureC Try.prog 130 [.d (slD HelloEntry.enc a0), .agg [.d (.int .i64 a1.Addr), .d (.int .i64 a1.Len)]] (.tup [.d (.int .i64 r.1), .d (.bool r.2)]) [] := by
  refine pureC_x tOk (fn := Try.f130) (c := codeOf Try.f130) rfl rfl ?_
  unfold impl_findEntry_m at h
  conv => whnf
  obtain ⟨x1, hx1, h⟩ := bd_some h
  refine cC 0 (slices_BinarySearchFunc_HelloEntry_HelloEntry_NetPrefix_impl_findEntry_1_c hx1) ?_
  clear hx1
  conv => whnf
  obtain rfl := Option.some.inj h
  exact lfP []

noncomputable def slices_Insert_HelloEntry_HelloEntry_m (a0 : (List HelloEntry)) (a1 : Int) (a2 : (List HelloEntry)) : Option ((List HelloEntry)) :=
 gd ((0 ≤ a1 ∧ a1 ≤ a0.length) ∧ 0 < a2.length ∧ (a0.length + a2.length) * (32 + 1) ≤ 70368744177664) <|
 some (insL a0 a1.toNat a2)

theorem slices_Insert_HelloEntry_HelloEntry_c {a0 : (List HelloEntry)} {a1 : Int} {a2 : (List HelloEntry)} {r : (List HelloEntry)} (h : slices_Insert_HelloEntry_HelloEntry_m a0 a1 a2 = some r) : EffC Try.prog 131 [.osl 9000 0 a0.length, .d (.int .i64 a1), .osl 9001 0 a2.length] [(9000, .arr 34 4 a0.length (rows HelloEntry.enc a0)), (9001, .arr 34 4 a2.length (rows HelloEntry.enc a2))] (.osl 5001 0 r.length) [(5001, .arr 34 4 r.length (rows HelloEntry.enc r))] := by
  unfold slices_Insert_HelloEntry_HelloEntry_m at h
  have L : LIns Try.prog ⟨fun x => match x with | 22 => 131 | 29 => 152 | 30 => 153 | _ => 0, fun x => match x with | 0 => 0 | 3 => 3 | 4 => 4 | 9 => 34 | 24 => 33 | _ => 0, fun x => x⟩ 4 32 (.agg #[.int .i64 0, .int .i64 0, .int .i64 0, .int .i64 0]) := ⟨by kernel_rfl, ⟨Try.f131.name, by kernel_rfl, by kernel_rfl⟩, ⟨Try.f152, by kernel_rfl, by kernel_rfl, by kernel_rfl, by kernel_rfl, by kernel_rfl⟩, by kernel_rfl, fun w => by kernel_rfl, fun w => by kernel_rfl, fun w => by kernel_rfl, by kernel_rfl, fun w => by kernel_rfl, fun w => by kernel_rfl, fun w => by kernel_rfl, by kernel_rfl, fun w => by kernel_rfl, fun w => by kernel_rfl, fun w => by kernel_rfl, by kernel_rfl, fun w => by kernel_rfl, fun w => by kernel_rfl, fun w => by kernel_rfl, ⟨_, rfl, rfl, rfl, rfl⟩, fun w => by kernel_rfl, by kernel_rfl, fun u hu => List.all_eq_true.1 (by kernel_rfl : (List.all (Value.cells (.agg #[.int .i64 0, .int .i64 0, .int .i64 0, .int .i64 0])).toList Value.oneCell') = true) u hu, by decide⟩
  obtain ⟨g, h⟩ := gd_some h
  obtain rfl := Option.some.inj h
  have k := effC_ins (t := 34) (enc := HelloEntry.enc) L (canOf (fn := Try.f131) (c := codeOf Try.f131) rfl rfl (by kernel_rfl)) (fun _ => rfl) (xs := a0) (ys := a2) (i := a1.toNat) (by omega) g.2.1 g.2.2
  rw [show ((a1.toNat : Nat) : Int) = a1 by omega] at k
  exact k

noncomputable def slices_Delete_HelloEntry_HelloEntry_m (a0 : (List HelloEntry)) (a1 : Int) (a2 : Int) : Option ((List HelloEntry)) :=
 gd (0 ≤ a1 ∧ a1 ≤ a2 ∧ a2 ≤ a0.length) <|
 some (delL a0 a1.toNat a2.toNat)

theorem slices_Delete_HelloEntry_HelloEntry_c {a0 : (List HelloEntry)} {a1 : Int} {a2 : Int} {r : (List HelloEntry)} (h : slices_Delete_HelloEntry_HelloEntry_m a0 a1 a2 = some r) : EffC Try.prog 132 [.osl 9000 0 a0.length, .d (.int .i64 a1), .d (.int .i64 a2)] [(9000, .arr 34 4 a0.length (rows HelloEntry.enc a0))] (.osl 5001 0 r.length) [(5001, .arr 34 4 r.length (rows HelloEntry.enc r))] := by
  unfold slices_Delete_HelloEntry_HelloEntry_m at h
  have L : LDel Try.prog ⟨fun x => match x with | 45 => 132 | _ => 0, fun x => match x with | 0 => 0 | 3 => 3 | 4 => 4 | 22 => 33 | 23 => 34 | _ => 0, fun x => x⟩ 4 (.agg #[.int .i64 0, .int .i64 0, .int .i64 0, .int .i64 0]) := ⟨by kernel_rfl, ⟨Try.f132.name, by kernel_rfl, by kernel_rfl⟩, by kernel_rfl, fun w => by kernel_rfl, fun w => by kernel_rfl, fun w => by kernel_rfl, by kernel_rfl, fun w => by kernel_rfl, fun w => by kernel_rfl, fun w => by kernel_rfl, by kernel_rfl, fun w => by kernel_rfl, fun w => by kernel_rfl, fun w => by kernel_rfl, by kernel_rfl, fun w => by kernel_rfl, fun w => by kernel_rfl, fun w => by kernel_rfl, ⟨_, rfl, rfl⟩, fun w => by kernel_rfl, fun w => by kernel_rfl, by kernel_rfl, fun u hu => List.all_eq_true.1 (by kernel_rfl : (List.all (Value.cells (.agg #[.int .i64 0, .int .i64 0, .int .i64 0, .int .i64 0])).toList Value.oneCell') = true) u hu⟩
  obtain ⟨g, h⟩ := gd_some h
  obtain rfl := Option.some.inj h
  have k := effC_del (t := 34) (enc := HelloEntry.enc) L (canOf (fn := Try.f132) (c := codeOf Try.f132) rfl rfl (by kernel_rfl)) (fun _ => rfl) (xs := a0) (i := a1.toNat) (j := a2.toNat) (by omega) (by omega)
  rw [show ((a1.toNat : Nat) : Int) = a1 by omega, show ((a2.toNat : Nat) : Int) = a2 by omega] at k
  exact k

noncomputable def impl_changed_m (a0 : (List HelloEntry)) (a1 : HelloChange) : Option ((List HelloEntry)) :=
 bd (impl_clone_HelloEntry_m a0) fun x1 =>
 bd (impl_HelloEntry_prefix_m a1.Entry) fun x2 =>
 bd (impl_findEntry_m x1 x2) fun x3 =>
(if ((a1.Kind == 1) && x3.2) = true then
 gd ((0 : Int) ≤ x3.1 ∧ x3.1 < ((x1.length : Nat) : Int)) <|
 some (x1.set x3.1.toNat a1.Entry)
else
(if (a1.Kind == 1) = true then
 bd (slices_Insert_HelloEntry_HelloEntry_m x1 x3.1 ([a1.Entry] : List HelloEntry)) fun x5 =>
 some x5
else
(if ((a1.Kind == 2) && x3.2) = true then
 bd (slices_Delete_HelloEntry_HelloEntry_m x1 x3.1 (IntKind.i64.wrap (x3.1 + 1))) fun x6 =>
 some x6
else
 some x1)))

theorem impl_changed_c {a0 : (List HelloEntry)} {a1 : HelloChange} {r : (List HelloEntry)} (h : impl_changed_m a0 a1 = some r) : PureC Try.prog 86 [.d (slD HelloEntry.enc a0), .agg [.d (.int .i64 a1.Kind), .d (.int .i64 a1.Entry.Addr), .d (.int .i64 a1.Entry.Len), .d (.int .i64 a1.Entry.Cost), .d (.int .i64 a1.Entry.Label)]] (.osl 5001 0 r.length) [⟨5001, 34, 4, r.length, rows HelloEntry.enc r⟩] := by
  refine pureC_x tOk (fn := Try.f86) (c := codeOf Try.f86) rfl rfl ?_
  unfold impl_changed_m at h
  conv => whnf
  obtain ⟨x1, hx1, h⟩ := bd_some h
  refine cC 1000 (impl_clone_HelloEntry_c hx1) ?_
  clear hx1
  conv => whnf
  obtain ⟨x2, hx2, h⟩ := bd_some h
  refine cC 0 (impl_HelloEntry_prefix_c hx2) ?_
  clear hx2
  conv => whnf
  obtain ⟨x3, hx3, h⟩ := bd_some h
  refine cC 0 (impl_findEntry_c hx3) ?_
  clear hx3
  conv => whnf
  refine seq_in tOk ?_
  conv => whnf
  refine andI h (fun _ h => ?_) (fun _ h => ?_)
  · conv => whnf
    refine gdI h (fun h => ?_)
    conv => whnf
    refine ⟨rows HelloEntry.enc (x1.set x3.1.toNat a1.Entry), store_rows' lenA rfl, ?_⟩
    conv => whnf
    obtain rfl := Option.some.inj h
    exact lfP [.s [(5001, 6001), (6001, 5001)]]
  · conv => whnf
    refine andI h (fun _ h => ?_) (fun _ h => ?_)
    · conv => whnf
      refine bldS (enc := HelloEntry.enc) ([a1.Entry] : List HelloEntry) ?_
      conv => whnf
      obtain ⟨x5, hx5, h⟩ := bd_some h
      refine cE [(9000, 6001), (9001, 38)] 2000 (slices_Insert_HelloEntry_HelloEntry_c hx5) ?_
      conv => whnf
      obtain rfl := Option.some.inj h
      exact lfP [.s [(5001, 7001), (7001, 5001)]]
    · conv => whnf
      refine andI h (fun _ h => ?_) (fun _ h => ?_)
      · conv => whnf
        obtain ⟨x6, hx6, h⟩ := bd_some h
        refine cE [(9000, 6001)] 2000 (slices_Delete_HelloEntry_HelloEntry_c hx6) ?_
        conv => whnf
        obtain rfl := Option.some.inj h
        exact lfP [.s [(5001, 7001), (7001, 5001)]]
      · conv => whnf
        obtain rfl := Option.some.inj h
        exact lfP [.s [(5001, 6001), (6001, 5001)]]

noncomputable def impl_changed_fz_m (a0 : (List HelloEntry)) (a1 : HelloChange) : Option ((List HelloEntry)) :=
 bd (impl_clone_HelloEntry_m a0) fun x1 =>
 bd (impl_HelloEntry_prefix_m a1.Entry) fun x2 =>
 bd (impl_findEntry_m x1 x2) fun x3 =>
(if ((a1.Kind == 1) && x3.2) = true then
 gd ((0 : Int) ≤ x3.1 ∧ x3.1 < ((x1.length : Nat) : Int)) <|
 some (x1.set x3.1.toNat a1.Entry)
else
(if (a1.Kind == 1) = true then
 bd (slices_Insert_HelloEntry_HelloEntry_m x1 x3.1 ([a1.Entry] : List HelloEntry)) fun x5 =>
 some x5
else
(if ((a1.Kind == 2) && x3.2) = true then
 bd (slices_Delete_HelloEntry_HelloEntry_m x1 x3.1 (IntKind.i64.wrap (x3.1 + 1))) fun x6 =>
 some x6
else
 some x1)))

theorem impl_changed_fz_c {a0 : (List HelloEntry)} {a1 : HelloChange} {r : (List HelloEntry)} (h : impl_changed_fz_m a0 a1 = some r) : EffC Try.prog 86 [.d (slD HelloEntry.enc a0), .agg [.d (.int .i64 a1.Kind), .d (.int .i64 a1.Entry.Addr), .d (.int .i64 a1.Entry.Len), .d (.int .i64 a1.Entry.Cost), .d (.int .i64 a1.Entry.Label)]] [] (.d (slD HelloEntry.enc r)) [] := by
  refine effC_x tOk (fn := Try.f86) (c := codeOf Try.f86) rfl rfl ?_
  unfold impl_changed_fz_m at h
  conv => whnf
  obtain ⟨x1, hx1, h⟩ := bd_some h
  refine cC 1000 (impl_clone_HelloEntry_c hx1) ?_
  clear hx1
  conv => whnf
  obtain ⟨x2, hx2, h⟩ := bd_some h
  refine cC 0 (impl_HelloEntry_prefix_c hx2) ?_
  clear hx2
  conv => whnf
  obtain ⟨x3, hx3, h⟩ := bd_some h
  refine cC 0 (impl_findEntry_c hx3) ?_
  clear hx3
  conv => whnf
  refine seq_in tOk ?_
  conv => whnf
  refine andI h (fun _ h => ?_) (fun _ h => ?_)
  · conv => whnf
    refine gdI h (fun h => ?_)
    conv => whnf
    refine ⟨rows HelloEntry.enc (x1.set x3.1.toNat a1.Entry), store_rows' lenA rfl, ?_⟩
    conv => whnf
    obtain rfl := Option.some.inj h
    exact lfE [.f [6001]]
  · conv => whnf
    refine andI h (fun _ h => ?_) (fun _ h => ?_)
    · conv => whnf
      refine bldS (enc := HelloEntry.enc) ([a1.Entry] : List HelloEntry) ?_
      conv => whnf
      obtain ⟨x5, hx5, h⟩ := bd_some h
      refine cE [(9000, 6001), (9001, 38)] 2000 (slices_Insert_HelloEntry_HelloEntry_c hx5) ?_
      conv => whnf
      obtain rfl := Option.some.inj h
      exact lfE [.f [7001]]
    · conv => whnf
      refine andI h (fun _ h => ?_) (fun _ h => ?_)
      · conv => whnf
        obtain ⟨x6, hx6, h⟩ := bd_some h
        refine cE [(9000, 6001)] 2000 (slices_Delete_HelloEntry_HelloEntry_c hx6) ?_
        conv => whnf
        obtain rfl := Option.some.inj h
        exact lfE [.f [7001]]
      · conv => whnf
        obtain rfl := Option.some.inj h
        exact lfE [.f [6001]]

noncomputable def impl_anyStale_1_m (a0 : HelloRoute) : Option (Bool) :=
 some a0.Stale

theorem impl_anyStale_1_c {a0 : HelloRoute} {r : Bool} (h : impl_anyStale_1_m a0 = some r) : PureC Try.prog 155 [.agg [.d (.int .i64 a0.Entry.Addr), .d (.int .i64 a0.Entry.Len), .d (.int .i64 a0.Entry.Cost), .d (.int .i64 a0.Entry.Label), .d (.bool a0.Stale)]] (.d (.bool r)) [] := by
  refine pureC_x tOk (fn := Try.f155) (c := codeOf Try.f155) rfl rfl ?_
  unfold impl_anyStale_1_m at h
  conv => whnf
  obtain rfl := Option.some.inj h
  exact lfP []

noncomputable def slices_IndexFunc_HelloRoute_HelloRoute_impl_anyStale_1_m (a0 : (List HelloRoute)) : Option (Int) :=
 bd (lp (σ := Int) (β := (Int ⊕ Unit)) (fun s1 =>
(if (decide (s1 < ((a0.length : Nat) : Int))) = true then
 gd ((0 : Int) ≤ s1 ∧ s1 < ((a0.length : Nat) : Int)) <|
 bd (impl_anyStale_1_m (⟨((a0.getD s1.toNat default).Entry), (a0.getD s1.toNat default).Stale⟩ : HelloRoute)) fun x6 =>
(if x6 = true then
 some (.inr (.inl s1))
else
 some (.inl (IntKind.i64.wrap (s1 + 1))))
else
 some (.inr (.inr ())))) 0) fun x4 =>
(match x4 with
| .inl d7 =>
 some d7
| .inr d8 =>
 some (-1))

theorem slices_IndexFunc_HelloRoute_HelloRoute_impl_anyStale_1_c {a0 : (List HelloRoute)} {r : Int} (h : slices_IndexFunc_HelloRoute_HelloRoute_impl_anyStale_1_m a0 = some r) : PureC Try.prog 156 [.d (slD HelloRoute.enc a0), .fn 155 []] (.d (.int .i64 r)) [] := by
  refine pureC_x tOk (fn := Try.f156) (c := codeOf Try.f156) rfl rfl ?_
  unfold slices_IndexFunc_HelloRoute_HelloRoute_impl_anyStale_1_m at h
  conv => whnf
  refine seq_in tOk ?_
  conv => whnf
  obtain ⟨x4, hx4, h⟩ := bd_some h
  refine loop_m tOk hx4 (fun s1 => ⟨0, 19, [(0, .d (slD HelloRoute.enc a0)), (1, .fn 155 []), (7, .d (.int .i64 ((a0.length : Nat) : Int))), (8, .d (.int .i64 s1))], [], [], []⟩) ?_ ?_
  · exact leX []
  · clear hx4
    intro s1 y2 g3 hy2
    conv => whnf
    refine seq_in tOk ?_
    conv => whnf
    refine andI g3 (fun _ g3 => ?_) (fun _ g3 => ?_)
    · conv => whnf
      refine seq_in tOk ?_
      conv => whnf
      refine gdI g3 (fun g3 => ?_)
      conv => whnf
      obtain ⟨x6, hx6, g3⟩ := bd_some g3
      refine cC 0 (impl_anyStale_1_c hx6) ?_
      clear hx6
      conv => whnf
      refine andI g3 (fun _ g3 => ?_) (fun _ g3 => ?_)
      · conv => whnf
        obtain rfl := Option.some.inj g3
        obtain rfl := hy2 _ rfl
        obtain rfl := Option.some.inj h
        exact lfP []
      · conv => whnf
        obtain rfl := Option.some.inj g3
        exact ⟨_, rfl, leX []⟩
    · conv => whnf
      obtain rfl := Option.some.inj g3
      obtain rfl := hy2 _ rfl
      obtain rfl := Option.some.inj h
      exact lfP []

noncomputable def slices_ContainsFunc_HelloRoute_HelloRoute_impl_anyStale_1_m (a0 : (List HelloRoute)) : Option (Bool) :=
 bd (slices_IndexFunc_HelloRoute_HelloRoute_impl_anyStale_1_m a0) fun x1 =>
 some (decide (x1 ≥ 0))

theorem slices_ContainsFunc_HelloRoute_HelloRoute_impl_anyStale_1_c {a0 : (List HelloRoute)} {r : Bool} (h : slices_ContainsFunc_HelloRoute_HelloRoute_impl_anyStale_1_m a0 = some r) : PureC Try.prog 154 [.d (slD HelloRoute.enc a0), .fn 155 []] (.d (.bool r)) [] := by
  refine pureC_x tOk (fn := Try.f154) (c := codeOf Try.f154) rfl rfl ?_
  unfold slices_ContainsFunc_HelloRoute_HelloRoute_impl_anyStale_1_m at h
  conv => whnf
  obtain ⟨x1, hx1, h⟩ := bd_some h
  refine cC 0 (slices_IndexFunc_HelloRoute_HelloRoute_impl_anyStale_1_c hx1) ?_
  clear hx1
  conv => whnf
  obtain rfl := Option.some.inj h
  exact lfP []

noncomputable def impl_anyStale_m (a0 : (List HelloRoute)) : Option (Bool) :=
 bd (slices_ContainsFunc_HelloRoute_HelloRoute_impl_anyStale_1_m a0) fun x1 =>
 some x1

theorem impl_anyStale_c {a0 : (List HelloRoute)} {r : Bool} (h : impl_anyStale_m a0 = some r) : PureC Try.prog 133 [.d (slD HelloRoute.enc a0)] (.d (.bool r)) [] := by
  refine pureC_x tOk (fn := Try.f133) (c := codeOf Try.f133) rfl rfl ?_
  unfold impl_anyStale_m at h
  conv => whnf
  obtain ⟨x1, hx1, h⟩ := bd_some h
  refine cC 0 (slices_ContainsFunc_HelloRoute_HelloRoute_impl_anyStale_1_c hx1) ?_
  clear hx1
  conv => whnf
  obtain rfl := Option.some.inj h
  exact lfP []

end Go.Proofs.Ytaoeomoepefojaa
