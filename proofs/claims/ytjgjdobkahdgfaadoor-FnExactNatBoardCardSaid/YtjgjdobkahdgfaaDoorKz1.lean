/-
  What some of the program's functions compute: their models, and that the functions compute these; no condition.
-/
import Derived.Test.YtjgjdobkahdgfaaDoorTyz
import Derived.Test.YtjgjdobkahdgfaaDoorTbz
import Derived.Test.YtjgjdobkahdgfaaDoorLay4z
import Derived.Test.YtjgjdobkahdgfaaDoorAbz8
set_option linter.all false
namespace Go.Proofs.YtjgjdobkahdgfaaDoor
open Go Go.Ab
set_option maxRecDepth 100000
set_option maxHeartbeats 40000000
noncomputable def laws_szNatDoorS_m (a0 : (List NatDoor)) (a1 : Int) : Option (Int) :=
(if (decide ((IntKind.i64.wrap (a1 - ((a0.length : Nat) : Int))) < 0)) = true then
 some (-1)
else
 some (IntKind.i64.wrap (a1 - ((a0.length : Nat) : Int))))

theorem laws_szNatDoorS_c {a0 : (List NatDoor)} {a1 : Int} {r : Int} (h : laws_szNatDoorS_m a0 a1 = some r) : PureC Tryd.prog 12 [.d (slD NatDoor.enc a0), .d (.int .i64 a1)] (.d (.int .i64 r)) [] := by
  refine pureC_x tOk (fn := Tryd.f12) (c := codeOf Tryd.f12) rfl rfl ?_
  unfold laws_szNatDoorS_m at h
  conv => whnf
  refine seq_in tOk ?_
  conv => whnf
  refine andI h (fun _ h => ?_) (fun _ h => ?_)
  · conv => whnf
    obtain rfl := Option.some.inj h
    exact lfP []
  · conv => whnf
    obtain rfl := Option.some.inj h
    exact lfP []

noncomputable def laws_szNatEntryS_m (a0 : (List NatEntry)) (a1 : Int) : Option (Int) :=
(if (decide ((IntKind.i64.wrap (a1 - ((a0.length : Nat) : Int))) < 0)) = true then
 some (-1)
else
 some (IntKind.i64.wrap (a1 - ((a0.length : Nat) : Int))))

theorem laws_szNatEntryS_c {a0 : (List NatEntry)} {a1 : Int} {r : Int} (h : laws_szNatEntryS_m a0 a1 = some r) : PureC Tryd.prog 13 [.d (slD NatEntry.enc a0), .d (.int .i64 a1)] (.d (.int .i64 r)) [] := by
  refine pureC_x tOk (fn := Tryd.f13) (c := codeOf Tryd.f13) rfl rfl ?_
  unfold laws_szNatEntryS_m at h
  conv => whnf
  refine seq_in tOk ?_
  conv => whnf
  refine andI h (fun _ h => ?_) (fun _ h => ?_)
  · conv => whnf
    obtain rfl := Option.some.inj h
    exact lfP []
  · conv => whnf
    obtain rfl := Option.some.inj h
    exact lfP []

noncomputable def laws_szNatBook_m (a0 : NatBook) (a1 : Int) : Option (Int) :=
 bd (laws_szNatDoorS_m a0.Doors a1) fun x1 =>
(if (decide (x1 < 0)) = true then
 some (-1)
else
 bd (laws_szNatEntryS_m a0.Entries x1) fun x2 =>
(if (decide (x2 < 0)) = true then
 some (-1)
else
 some x2))

theorem laws_szNatBook_c {a0 : NatBook} {a1 : Int} {r : Int} (h : laws_szNatBook_m a0 a1 = some r) : PureC Tryd.prog 5 [.agg [.d (.int .i64 a0.Addr), .d (.int .i64 a0.Len), .d (.int .i64 a0.Own), .d (.int .i64 a0.Low), .d (.int .i64 a0.High), .d (slD NatDoor.enc a0.Doors), .d (.int .i64 a0.Now), .d (slD NatEntry.enc a0.Entries)], .d (.int .i64 a1)] (.d (.int .i64 r)) [] := by
  refine pureC_x tOk (fn := Tryd.f5) (c := codeOf Tryd.f5) rfl rfl ?_
  unfold laws_szNatBook_m at h
  conv => whnf
  obtain ⟨x1, hx1, h⟩ := bd_some h
  refine cC 0 (laws_szNatDoorS_c hx1) ?_
  clear hx1
  conv => whnf
  refine seq_in tOk ?_
  conv => whnf
  refine andI h (fun _ h => ?_) (fun _ h => ?_)
  · conv => whnf
    obtain rfl := Option.some.inj h
    exact lfP []
  · conv => whnf
    obtain ⟨x2, hx2, h⟩ := bd_some h
    refine cC 0 (laws_szNatEntryS_c hx2) ?_
    clear hx2
    conv => whnf
    refine seq_in tOk ?_
    conv => whnf
    refine andI h (fun _ h => ?_) (fun _ h => ?_)
    · conv => whnf
      obtain rfl := Option.some.inj h
      exact lfP []
    · conv => whnf
      obtain rfl := Option.some.inj h
      exact lfP []

noncomputable def laws_toNatDoor_m (a0 : NatDoor) : Option (NatDoor) :=
 some a0

theorem laws_toNatDoor_c {a0 : NatDoor} {r : NatDoor} (h : laws_toNatDoor_m a0 = some r) : PureC Tryd.prog 33 [.agg [.d (.int .i64 a0.Kind), .d (.int .i64 a0.Outer), .d (.int .i64 a0.Inner), .d (.int .i64 a0.InnerPort)]] (.agg [.d (.int .i64 r.Kind), .d (.int .i64 r.Outer), .d (.int .i64 r.Inner), .d (.int .i64 r.InnerPort)]) [] := by
  refine pureC_x tOk (fn := Tryd.f33) (c := codeOf Tryd.f33) rfl rfl ?_
  unfold laws_toNatDoor_m at h
  conv => whnf
  obtain rfl := Option.some.inj h
  exact lfP []

noncomputable def laws_toNatDoorS_m (a0 : (List NatDoor)) : Option ((List NatDoor)) :=
 gd ((0 : Int) ≤ ((a0.length : Nat) : Int) ∧ ((a0.length : Nat) : Int) ≤ ((a0.length : Nat) : Int) ∧ ((a0.length : Nat) : Int) * 32 ≤ 140737488355328 ∧ ((a0.length : Nat) : Int) ≤ 140737488355328) <|
 bd (lp (σ := List NatDoor × Int) (β := (Nat × (List NatDoor))) (fun s1 =>
(if (decide (s1.2 < ((a0.length : Nat) : Int))) = true then
 gd ((0 : Int) ≤ s1.2 ∧ s1.2 < ((a0.length : Nat) : Int)) <|
 bd (laws_toNatDoor_m (a0.getD s1.2.toNat default)) fun x6 =>
 gd ((0 : Int) ≤ s1.2 ∧ s1.2 < ((s1.1.length : Nat) : Int)) <|
 some (.inl (s1.1.set s1.2.toNat x6, IntKind.i64.wrap (s1.2 + 1)))
else
 some (.inr (s1.1.length, s1.1)))) ((List.replicate (((a0.length : Nat) : Int) : Int).toNat (default : NatDoor)), 0)) fun x4 =>
 some x4.2

theorem laws_toNatDoorS_c {a0 : (List NatDoor)} {r : (List NatDoor)} (h : laws_toNatDoorS_m a0 = some r) : PureC Tryd.prog 17 [.d (slD NatDoor.enc a0)] (.osl 5001 0 r.length) [⟨5001, 43, 4, r.length, rows NatDoor.enc r⟩] := by
  refine pureC_x tOk (fn := Tryd.f17) (c := codeOf Tryd.f17) rfl rfl ?_
  unfold laws_toNatDoorS_m at h
  conv => whnf
  obtain ⟨g9, h⟩ := gd_some h
  refine And.intro g9 ?_
  clear g9
  refine ⟨(List.replicate (((a0.length : Nat) : Int) : Int).toNat (default : NatDoor)).length, rows NatDoor.enc (List.replicate (((a0.length : Nat) : Int) : Int).toNat (default : NatDoor)), by simp, make_rows rfl, ?_⟩
  conv => whnf
  refine seq_in tOk ?_
  conv => whnf
  obtain ⟨x4, hx4, h⟩ := bd_some h
  refine loop_m tOk hx4 (fun s1 => ⟨0, 23, [(0, .d (slD NatDoor.enc a0)), (3, .osl 7 0 s1.1.length), (4, .d (.int .i64 s1.2))], [], [(7, .arr 43 4 s1.1.length (rows NatDoor.enc s1.1))], []⟩) ?_ ?_
  · exact leX []
  · clear hx4
    intro s1 y2 g3 hy2
    conv => whnf
    refine seq_in tOk ?_
    conv => whnf
    refine andI g3 (fun _ g3 => ?_) (fun _ g3 => ?_)
    · conv => whnf
      refine seq_in tOk ?_
      conv => whnf
      refine gdI g3 (fun g3 => ?_)
      conv => whnf
      obtain ⟨x6, hx6, g3⟩ := bd_some g3
      refine cC 0 (laws_toNatDoor_c hx6) ?_
      clear hx6
      conv => whnf
      refine gdI g3 (fun g3 => ?_)
      conv => whnf
      refine ⟨rows NatDoor.enc (s1.1.set s1.2.toNat x6), store_rows' lenA rfl, ?_⟩
      conv => whnf
      obtain rfl := Option.some.inj g3
      exact ⟨_, rfl, leX []⟩
    · conv => whnf
      obtain rfl := Option.some.inj g3
      obtain rfl := hy2 _ rfl
      obtain rfl := Option.some.inj h
      exact lfP [.s [(7, 5001), (5001, 7)]]

noncomputable def laws_toNatEntry_m (a0 : NatEntry) : Option (NatEntry) :=
 some a0

theorem laws_toNatEntry_c {a0 : NatEntry} {r : NatEntry} (h : laws_toNatEntry_m a0 = some r) : PureC Tryd.prog 34 [.agg [.d (.int .i64 a0.Kind), .d (.int .i64 a0.Peer), .d (.int .i64 a0.PeerPort), .d (.int .i64 a0.Outer), .d (.int .i64 a0.Inner), .d (.int .i64 a0.InnerPort), .d (.int .i64 a0.Last)]] (.agg [.d (.int .i64 r.Kind), .d (.int .i64 r.Peer), .d (.int .i64 r.PeerPort), .d (.int .i64 r.Outer), .d (.int .i64 r.Inner), .d (.int .i64 r.InnerPort), .d (.int .i64 r.Last)]) [] := by
  refine pureC_x tOk (fn := Tryd.f34) (c := codeOf Tryd.f34) rfl rfl ?_
  unfold laws_toNatEntry_m at h
  conv => whnf
  obtain rfl := Option.some.inj h
  exact lfP []

noncomputable def laws_toNatEntryS_m (a0 : (List NatEntry)) : Option ((List NatEntry)) :=
 gd ((0 : Int) ≤ ((a0.length : Nat) : Int) ∧ ((a0.length : Nat) : Int) ≤ ((a0.length : Nat) : Int) ∧ ((a0.length : Nat) : Int) * 56 ≤ 140737488355328 ∧ ((a0.length : Nat) : Int) ≤ 140737488355328) <|
 bd (lp (σ := List NatEntry × Int) (β := (Nat × (List NatEntry))) (fun s1 =>
(if (decide (s1.2 < ((a0.length : Nat) : Int))) = true then
 gd ((0 : Int) ≤ s1.2 ∧ s1.2 < ((a0.length : Nat) : Int)) <|
 bd (laws_toNatEntry_m (a0.getD s1.2.toNat default)) fun x6 =>
 gd ((0 : Int) ≤ s1.2 ∧ s1.2 < ((s1.1.length : Nat) : Int)) <|
 some (.inl (s1.1.set s1.2.toNat x6, IntKind.i64.wrap (s1.2 + 1)))
else
 some (.inr (s1.1.length, s1.1)))) ((List.replicate (((a0.length : Nat) : Int) : Int).toNat (default : NatEntry)), 0)) fun x4 =>
 some x4.2

theorem laws_toNatEntryS_c {a0 : (List NatEntry)} {r : (List NatEntry)} (h : laws_toNatEntryS_m a0 = some r) : PureC Tryd.prog 18 [.d (slD NatEntry.enc a0)] (.osl 5001 0 r.length) [⟨5001, 47, 7, r.length, rows NatEntry.enc r⟩] := by
  refine pureC_x tOk (fn := Tryd.f18) (c := codeOf Tryd.f18) rfl rfl ?_
  unfold laws_toNatEntryS_m at h
  conv => whnf
  obtain ⟨g9, h⟩ := gd_some h
  refine And.intro g9 ?_
  clear g9
  refine ⟨(List.replicate (((a0.length : Nat) : Int) : Int).toNat (default : NatEntry)).length, rows NatEntry.enc (List.replicate (((a0.length : Nat) : Int) : Int).toNat (default : NatEntry)), by simp, make_rows rfl, ?_⟩
  conv => whnf
  refine seq_in tOk ?_
  conv => whnf
  obtain ⟨x4, hx4, h⟩ := bd_some h
  refine loop_m tOk hx4 (fun s1 => ⟨0, 23, [(0, .d (slD NatEntry.enc a0)), (3, .osl 7 0 s1.1.length), (4, .d (.int .i64 s1.2))], [], [(7, .arr 47 7 s1.1.length (rows NatEntry.enc s1.1))], []⟩) ?_ ?_
  · exact leX []
  · clear hx4
    intro s1 y2 g3 hy2
    conv => whnf
    refine seq_in tOk ?_
    conv => whnf
    refine andI g3 (fun _ g3 => ?_) (fun _ g3 => ?_)
    · conv => whnf
      refine seq_in tOk ?_
      conv => whnf
      refine gdI g3 (fun g3 => ?_)
      conv => whnf
      obtain ⟨x6, hx6, g3⟩ := bd_some g3
      refine cC 0 (laws_toNatEntry_c hx6) ?_
      clear hx6
      conv => whnf
      refine gdI g3 (fun g3 => ?_)
      conv => whnf
      refine ⟨rows NatEntry.enc (s1.1.set s1.2.toNat x6), store_rows' lenA rfl, ?_⟩
      conv => whnf
      obtain rfl := Option.some.inj g3
      exact ⟨_, rfl, leX []⟩
    · conv => whnf
      obtain rfl := Option.some.inj g3
      obtain rfl := hy2 _ rfl
      obtain rfl := Option.some.inj h
      exact lfP [.s [(7, 5001), (5001, 7)]]

noncomputable def laws_toNatBook_m (a0 : NatBook) : Option (NatBook) :=
 bd (laws_toNatDoorS_m a0.Doors) fun x1 =>
 bd (laws_toNatEntryS_m a0.Entries) fun x2 =>
 some ({ a0 with Doors := x1, Entries := x2 })

theorem laws_toNatBook_c {a0 : NatBook} {r : NatBook} (h : laws_toNatBook_m a0 = some r) : PureC Tryd.prog 7 [.agg [.d (.int .i64 a0.Addr), .d (.int .i64 a0.Len), .d (.int .i64 a0.Own), .d (.int .i64 a0.Low), .d (.int .i64 a0.High), .d (slD NatDoor.enc a0.Doors), .d (.int .i64 a0.Now), .d (slD NatEntry.enc a0.Entries)]] (.agg [.d (.int .i64 r.Addr), .d (.int .i64 r.Len), .d (.int .i64 r.Own), .d (.int .i64 r.Low), .d (.int .i64 r.High), .osl 5001 0 r.Doors.length, .d (.int .i64 r.Now), .osl 5002 0 r.Entries.length]) [⟨5001, 43, 4, r.Doors.length, rows NatDoor.enc r.Doors⟩, ⟨5002, 47, 7, r.Entries.length, rows NatEntry.enc r.Entries⟩] := by
  refine pureC_x tOk (fn := Tryd.f7) (c := codeOf Tryd.f7) rfl rfl ?_
  unfold laws_toNatBook_m at h
  conv => whnf
  obtain ⟨x1, hx1, h⟩ := bd_some h
  refine cC 1000 (laws_toNatDoorS_c hx1) ?_
  clear hx1
  conv => whnf
  obtain ⟨x2, hx2, h⟩ := bd_some h
  refine cC 2000 (laws_toNatEntryS_c hx2) ?_
  clear hx2
  conv => whnf
  obtain rfl := Option.some.inj h
  exact lfP [.s [(5001, 6001), (5002, 7001), (6001, 5001), (7001, 5002)]]

noncomputable def spec_l21In_m (a0 : Int) (a1 : Int) (a2 : Int) : Option (Bool) :=
 some ((decide (a0 ≥ a1)) && (decide (a0 ≤ a2)))

theorem spec_l21In_c {a0 : Int} {a1 : Int} {a2 : Int} {r : Bool} (h : spec_l21In_m a0 a1 a2 = some r) : PureC Tryd.prog 48 [.d (.int .i64 a0), .d (.int .i64 a1), .d (.int .i64 a2)] (.d (.bool r)) [] := by
  refine pureC_x tOk (fn := Tryd.f48) (c := codeOf Tryd.f48) rfl rfl ?_
  unfold spec_l21In_m at h
  conv => whnf
  obtain rfl := Option.some.inj h
  exact lfP []

noncomputable def spec_l22Size_m (a0 : Int) : Option (Int) :=
 bd (lp (σ := Int × Int) (β := (Int)) (fun s1 =>
(if (decide (s1.2 < 16)) = true then
 some (.inl (IntKind.i64.wrap (s1.1 * 2), IntKind.i64.wrap (s1.2 + 1)))
else
 some (.inr s1.1))) (1, a0)) fun x4 =>
 some x4

theorem spec_l22Size_c {a0 : Int} {r : Int} (h : spec_l22Size_m a0 = some r) : PureC Tryd.prog 49 [.d (.int .i64 a0)] (.d (.int .i64 r)) [] := by
  refine pureC_x tOk (fn := Tryd.f49) (c := codeOf Tryd.f49) rfl rfl ?_
  unfold spec_l22Size_m at h
  conv => whnf
  refine seq_in tOk ?_
  conv => whnf
  obtain ⟨x4, hx4, h⟩ := bd_some h
  refine loop_m tOk hx4 (fun s1 => ⟨0, 13, [(3, .d (.int .i64 s1.1)), (4, .d (.int .i64 s1.2))], [], [], []⟩) ?_ ?_
  · exact leX []
  · clear hx4
    intro s1 y2 g3 hy2
    conv => whnf
    refine seq_in tOk ?_
    conv => whnf
    refine andI g3 (fun _ g3 => ?_) (fun _ g3 => ?_)
    · conv => whnf
      refine seq_in tOk ?_
      conv => whnf
      obtain rfl := Option.some.inj g3
      exact ⟨_, rfl, leX []⟩
    · conv => whnf
      obtain rfl := Option.some.inj g3
      obtain rfl := hy2 _ rfl
      obtain rfl := Option.some.inj h
      exact lfP []

noncomputable def spec_l22Inside_m (a0 : NatBook) (a1 : Int) : Option (Bool) :=
 bd (gcall ((decide (a1 ≥ a0.Addr)) = true) (spec_l22Size_m a0.Len)) fun x1 =>
 some ((decide (a1 ≥ a0.Addr)) && (decide (a1 < (IntKind.i64.wrap (a0.Addr + x1)))))

theorem spec_l22Inside_c {a0 : NatBook} {a1 : Int} {r : Bool} (h : spec_l22Inside_m a0 a1 = some r) : PureC Tryd.prog 50 [.agg [.d (.int .i64 a0.Addr), .d (.int .i64 a0.Len), .d (.int .i64 a0.Own), .d (.int .i64 a0.Low), .d (.int .i64 a0.High), .d (slD NatDoor.enc a0.Doors), .d (.int .i64 a0.Now), .d (slD NatEntry.enc a0.Entries)], .d (.int .i64 a1)] (.d (.bool r)) [] := by
  refine pureC_x tOk (fn := Tryd.f50) (c := codeOf Tryd.f50) rfl rfl ?_
  unfold spec_l22Inside_m at h
  conv => whnf
  obtain ⟨x1, hx1, h⟩ := bd_some h
  refine draw_u tOk [.u 10 0 (.d (.int .i64 x1)) []] 15 [] [0, 0, 2, 7, 15, 31, 31, 95, 31, 287, 799, 2015, 4095, 8191, 16383] [] ?_
  conv => whnf
  refine And.intro (callDG_if rfl rfl rfl rfl (by intro c0; exact spec_l22Size_c (gcall_some hx1 c0))) ?_
  conv => whnf
  refine And.intro (by kernel_rfl) ?_
  conv => whnf
  obtain rfl := Option.some.inj h
  exact lfP []

noncomputable def spec_l22Frame_m (a0 : NatBook) : Option (Bool) :=
 bd (spec_l21In_m a0.Len 0 16) fun x1 =>
 bd (gcall ((!x1) = false) (spec_l21In_m a0.Addr 0 65535)) fun x2 =>
 bd (gcall (((!x1) || (!x2)) = false) (spec_l22Size_m a0.Len)) fun x3 =>
 gd (((!x1) || (!x2)) = false → ((x3 : Int) ≠ 0)) <|
(if (((!x1) || (!x2)) || (((a0.Addr : Int).tmod x3) != 0)) = true then
 some false
else
 bd (spec_l21In_m a0.Own 0 65535) fun x5 =>
 bd (gcall ((!x5) = false) (spec_l22Inside_m a0 a0.Own)) fun x6 =>
(if ((!x5) || x6) = true then
 some false
else
 bd (gcall ((((decide (a0.Low ≥ 1)) && (decide (a0.Low ≤ a0.High))) && (decide (a0.High ≤ 65535))) = true) (spec_l21In_m a0.Now 0 1000000)) fun x7 =>
 some ((((decide (a0.Low ≥ 1)) && (decide (a0.Low ≤ a0.High))) && (decide (a0.High ≤ 65535))) && x7)))

theorem spec_l22Frame_c {a0 : NatBook} {r : Bool} (h : spec_l22Frame_m a0 = some r) : PureC Tryd.prog 29 [.agg [.d (.int .i64 a0.Addr), .d (.int .i64 a0.Len), .d (.int .i64 a0.Own), .d (.int .i64 a0.Low), .d (.int .i64 a0.High), .d (slD NatDoor.enc a0.Doors), .d (.int .i64 a0.Now), .d (slD NatEntry.enc a0.Entries)]] (.d (.bool r)) [] := by
  refine pureC_x tOk (fn := Tryd.f29) (c := codeOf Tryd.f29) rfl rfl ?_
  unfold spec_l22Frame_m at h
  conv => whnf
  refine seq_in tOk ?_
  conv => whnf
  obtain ⟨x1, hx1, h⟩ := bd_some h
  obtain ⟨x2, hx2, h⟩ := bd_some h
  obtain ⟨x3, hx3, h⟩ := bd_some h
  obtain ⟨g4, h⟩ := gd_some h
  refine draw_u tOk [.u 2 0 (.d (.bool x1)) [], .u 7 0 (.d (.bool x2)) [], .u 15 0 (.d (.int .i64 x3)) []] 19 [] [0, 1, 3, 7, 15, 31, 63, 127, 255, 511, 1023, 2047, 4095, 2047, 10239, 26623, 65535, 131071, 262143] [] ?_
  conv => whnf
  refine And.intro (callD_any (spec_l21In_c hx1) (by kernel_rfl)) ?_
  conv => whnf
  refine And.intro (callDG_if rfl rfl rfl rfl (by intro c0; exact spec_l21In_c (gcall_some hx2 c0))) ?_
  conv => whnf
  refine And.intro (callDG_if rfl rfl rfl rfl (by intro c0; exact spec_l22Size_c (gcall_some hx3 c0))) ?_
  conv => whnf
  refine And.intro g4 ?_
  clear g4
  conv => whnf
  refine And.intro (by kernel_rfl) ?_
  conv => whnf
  refine andI h (fun _ h => ?_) (fun _ h => ?_)
  · conv => whnf
    obtain rfl := Option.some.inj h
    exact lfP []
  · conv => whnf
    refine seq_in tOk ?_
    conv => whnf
    obtain ⟨x5, hx5, h⟩ := bd_some h
    refine cC 0 (spec_l21In_c hx5) ?_
    clear hx5
    conv => whnf
    obtain ⟨x6, hx6, h⟩ := bd_some h
    refine cG (fun c0 => spec_l22Inside_c (gcall_some hx6 c0)) ?_
    conv => whnf
    refine andI h (fun _ h => ?_) (fun _ h => ?_)
    · conv => whnf
      obtain rfl := Option.some.inj h
      exact lfP []
    · conv => whnf
      obtain ⟨x7, hx7, h⟩ := bd_some h
      refine cG (fun c0 => spec_l21In_c (gcall_some hx7 c0)) ?_
      conv => whnf
      obtain rfl := Option.some.inj h
      exact lfP []

noncomputable def spec_l22DoorOk_m (a0 : NatBook) (a1 : NatDoor) : Option (Bool) :=
 bd (spec_l21In_m a1.Kind 1 7) fun x1 =>
 bd (gcall (x1 = true) (spec_l21In_m a1.Outer 1 65535)) fun x2 =>
 bd (gcall ((x1 && x2) = true) (spec_l21In_m a1.Outer a0.Low a0.High)) fun x3 =>
 bd (gcall (((x1 && x2) && (!x3)) = true) (spec_l22Inside_m a0 a1.Inner)) fun x4 =>
 bd (gcall ((((x1 && x2) && (!x3)) && x4) = true) (spec_l21In_m a1.InnerPort 1 65535)) fun x5 =>
 some ((((x1 && x2) && (!x3)) && x4) && x5)

theorem spec_l22DoorOk_c {a0 : NatBook} {a1 : NatDoor} {r : Bool} (h : spec_l22DoorOk_m a0 a1 = some r) : PureC Tryd.prog 51 [.agg [.d (.int .i64 a0.Addr), .d (.int .i64 a0.Len), .d (.int .i64 a0.Own), .d (.int .i64 a0.Low), .d (.int .i64 a0.High), .d (slD NatDoor.enc a0.Doors), .d (.int .i64 a0.Now), .d (slD NatEntry.enc a0.Entries)], .agg [.d (.int .i64 a1.Kind), .d (.int .i64 a1.Outer), .d (.int .i64 a1.Inner), .d (.int .i64 a1.InnerPort)]] (.d (.bool r)) [] := by
  refine pureC_x tOk (fn := Tryd.f51) (c := codeOf Tryd.f51) rfl rfl ?_
  unfold spec_l22DoorOk_m at h
  conv => whnf
  obtain ⟨x1, hx1, h⟩ := bd_some h
  refine cC 0 (spec_l21In_c hx1) ?_
  clear hx1
  conv => whnf
  obtain ⟨x2, hx2, h⟩ := bd_some h
  refine cG (fun c0 => spec_l21In_c (gcall_some hx2 c0)) ?_
  conv => whnf
  obtain ⟨x3, hx3, h⟩ := bd_some h
  refine cG (fun c0 => spec_l21In_c (gcall_some hx3 c0)) ?_
  conv => whnf
  obtain ⟨x4, hx4, h⟩ := bd_some h
  refine cG (fun c0 => spec_l22Inside_c (gcall_some hx4 c0)) ?_
  conv => whnf
  obtain ⟨x5, hx5, h⟩ := bd_some h
  refine cG (fun c0 => spec_l21In_c (gcall_some hx5 c0)) ?_
  conv => whnf
  obtain rfl := Option.some.inj h
  exact lfP []

noncomputable def spec_l22Doors_m (a0 : NatBook) : Option (Bool) :=
(if (decide (((a0.Doors.length : Nat) : Int) > 6)) = true then
 some false
else
 bd (lp (σ := Int) (β := (Unit ⊕ Unit)) (fun s1 =>
(if (decide (s1 < ((a0.Doors.length : Nat) : Int))) = true then
 gd ((0 : Int) ≤ s1 ∧ s1 < ((a0.Doors.length : Nat) : Int)) <|
 bd (spec_l22DoorOk_m a0 (a0.Doors.getD s1.toNat default)) fun x6 =>
(if (!x6) = true then
 some (.inr (.inl ()))
else
 bd (lp (σ := Int) (β := (Unit ⊕ Unit)) (fun s7 =>
(if (decide (s7 < s1)) = true then
 gd ((0 : Int) ≤ s7 ∧ s7 < ((a0.Doors.length : Nat) : Int)) <|
(if ((decide (((a0.Doors.getD s7.toNat default).Kind) > ((a0.Doors.getD s1.toNat default).Kind))) || ((((a0.Doors.getD s7.toNat default).Kind) == ((a0.Doors.getD s1.toNat default).Kind)) && ((decide (((a0.Doors.getD s7.toNat default).Outer) ≥ ((a0.Doors.getD s1.toNat default).Outer))) || ((((a0.Doors.getD s7.toNat default).Inner) == ((a0.Doors.getD s1.toNat default).Inner)) && (((a0.Doors.getD s7.toNat default).InnerPort) == ((a0.Doors.getD s1.toNat default).InnerPort)))))) = true then
 some (.inr (.inl ()))
else
 some (.inl (IntKind.i64.wrap (s7 + 1))))
else
 some (.inr (.inr ())))) 0) fun x10 =>
(match x10 with
| .inl d12 =>
 some (.inr (.inl ()))
| .inr d13 =>
 some (.inl (IntKind.i64.wrap (s1 + 1)))))
else
 some (.inr (.inr ())))) 0) fun x4 =>
(match x4 with
| .inl d14 =>
 some false
| .inr d15 =>
 some true))

theorem spec_l22Doors_c {a0 : NatBook} {r : Bool} (h : spec_l22Doors_m a0 = some r) : PureC Tryd.prog 30 [.agg [.d (.int .i64 a0.Addr), .d (.int .i64 a0.Len), .d (.int .i64 a0.Own), .d (.int .i64 a0.Low), .d (.int .i64 a0.High), .d (slD NatDoor.enc a0.Doors), .d (.int .i64 a0.Now), .d (slD NatEntry.enc a0.Entries)]] (.d (.bool r)) [] := by
  refine pureC_x tOk (fn := Tryd.f30) (c := codeOf Tryd.f30) rfl rfl ?_
  unfold spec_l22Doors_m at h
  conv => whnf
  refine seq_in tOk ?_
  conv => whnf
  refine andI h (fun _ h => ?_) (fun _ h => ?_)
  · conv => whnf
    obtain rfl := Option.some.inj h
    exact lfP []
  · conv => whnf
    refine seq_in tOk ?_
    conv => whnf
    obtain ⟨x4, hx4, h⟩ := bd_some h
    refine loop_m tOk hx4 (fun s1 => ⟨0, 70, [(1, .ref 1 0 0), (3, .d (.int .i64 s1))], [], [(1, .box 31 [.d (.int .i64 a0.Addr), .d (.int .i64 a0.Len), .d (.int .i64 a0.Own), .d (.int .i64 a0.Low), .d (.int .i64 a0.High), .d (slD NatDoor.enc a0.Doors), .d (.int .i64 a0.Now), .d (slD NatEntry.enc a0.Entries)])], []⟩) ?_ ?_
    · exact leX []
    · clear hx4
      intro s1 y2 g3 hy2
      conv => whnf
      refine seq_in tOk ?_
      conv => whnf
      refine andI g3 (fun _ g3 => ?_) (fun _ g3 => ?_)
      · conv => whnf
        refine seq_in tOk ?_
        conv => whnf
        refine gdI g3 (fun g3 => ?_)
        conv => whnf
        refine seq_in tOk ?_
        conv => whnf
        obtain ⟨x6, hx6, g3⟩ := bd_some g3
        refine cC 0 (spec_l22DoorOk_c hx6) ?_
        clear hx6
        conv => whnf
        refine andI g3 (fun _ g3 => ?_) (fun _ g3 => ?_)
        · conv => whnf
          obtain rfl := Option.some.inj g3
          obtain rfl := hy2 _ rfl
          obtain rfl := Option.some.inj h
          exact lfP []
        · conv => whnf
          obtain ⟨x10, hx10, g3⟩ := bd_some g3
          refine loop_m tOk hx10 (fun s7 => ⟨0, 70, [(1, .ref 1 0 0), (3, .d (.int .i64 s1)), (4, .ref 4 0 0), (5, .d (.int .i64 s7))], [], [(4, .box 43 [.d (.int .i64 ((a0.Doors.getD s1.toNat default).Kind)), .d (.int .i64 ((a0.Doors.getD s1.toNat default).Outer)), .d (.int .i64 ((a0.Doors.getD s1.toNat default).Inner)), .d (.int .i64 ((a0.Doors.getD s1.toNat default).InnerPort))]), (1, .box 31 [.d (.int .i64 a0.Addr), .d (.int .i64 a0.Len), .d (.int .i64 a0.Own), .d (.int .i64 a0.Low), .d (.int .i64 a0.High), .d (slD NatDoor.enc a0.Doors), .d (.int .i64 a0.Now), .d (slD NatEntry.enc a0.Entries)])], []⟩) ?_ ?_
          · exact leX []
          · clear hx10
            intro s7 y8 g9 hy8
            conv => whnf
            refine seq_in tOk ?_
            conv => whnf
            refine andI g9 (fun _ g9 => ?_) (fun _ g9 => ?_)
            · conv => whnf
              refine seq_in tOk ?_
              conv => whnf
              refine gdI g9 (fun g9 => ?_)
              conv => whnf
              refine andI g9 (fun _ g9 => ?_) (fun _ g9 => ?_)
              · conv => whnf
                obtain rfl := Option.some.inj g9
                obtain rfl := hy8 _ rfl
                obtain rfl := Option.some.inj g3
                obtain rfl := hy2 _ rfl
                obtain rfl := Option.some.inj h
                exact lfP []
              · conv => whnf
                obtain rfl := Option.some.inj g9
                exact ⟨_, rfl, leX []⟩
            · conv => whnf
              obtain rfl := Option.some.inj g9
              obtain rfl := hy8 _ rfl
              obtain rfl := Option.some.inj g3
              exact ⟨_, rfl, leX []⟩
      · conv => whnf
        obtain rfl := Option.some.inj g3
        obtain rfl := hy2 _ rfl
        obtain rfl := Option.some.inj h
        exact lfP []

noncomputable def spec_l22EntryOk_m (a0 : NatBook) (a1 : NatEntry) : Option (Bool) :=
 bd (spec_l21In_m a1.Kind 1 7) fun x1 =>
 bd (gcall ((!x1) = false) (spec_l21In_m a1.Peer 0 65535)) fun x2 =>
 bd (gcall (((!x1) || (!x2)) = false) (spec_l22Inside_m a0 a1.Peer)) fun x3 =>
 bd (gcall (((((!x1) || (!x2)) || x3) || (a1.Peer == a0.Own)) = false) (spec_l21In_m a1.PeerPort 1 65535)) fun x4 =>
(if (((((!x1) || (!x2)) || x3) || (a1.Peer == a0.Own)) || (!x4)) = true then
 some false
else
 bd (spec_l21In_m a1.Outer a0.Low a0.High) fun x5 =>
 bd (gcall ((!x5) = false) (spec_l22Inside_m a0 a1.Inner)) fun x6 =>
 bd (gcall (((!x5) || (!x6)) = false) (spec_l21In_m a1.InnerPort 1 65535)) fun x7 =>
(if (((!x5) || (!x6)) || (!x7)) = true then
 some false
else
 bd (spec_l21In_m a1.Last 0 a0.Now) fun x8 =>
 some (x8 && (decide ((IntKind.i64.wrap (a0.Now - a1.Last)) < 12)))))

theorem spec_l22EntryOk_c {a0 : NatBook} {a1 : NatEntry} {r : Bool} (h : spec_l22EntryOk_m a0 a1 = some r) : PureC Tryd.prog 52 [.agg [.d (.int .i64 a0.Addr), .d (.int .i64 a0.Len), .d (.int .i64 a0.Own), .d (.int .i64 a0.Low), .d (.int .i64 a0.High), .d (slD NatDoor.enc a0.Doors), .d (.int .i64 a0.Now), .d (slD NatEntry.enc a0.Entries)], .agg [.d (.int .i64 a1.Kind), .d (.int .i64 a1.Peer), .d (.int .i64 a1.PeerPort), .d (.int .i64 a1.Outer), .d (.int .i64 a1.Inner), .d (.int .i64 a1.InnerPort), .d (.int .i64 a1.Last)]] (.d (.bool r)) [] := by
  refine pureC_x tOk (fn := Tryd.f52) (c := codeOf Tryd.f52) rfl rfl ?_
  unfold spec_l22EntryOk_m at h
  conv => whnf
  refine seq_in tOk ?_
  conv => whnf
  obtain ⟨x1, hx1, h⟩ := bd_some h
  refine cC 0 (spec_l21In_c hx1) ?_
  clear hx1
  conv => whnf
  obtain ⟨x2, hx2, h⟩ := bd_some h
  refine cG (fun c0 => spec_l21In_c (gcall_some hx2 c0)) ?_
  conv => whnf
  obtain ⟨x3, hx3, h⟩ := bd_some h
  refine cG (fun c0 => spec_l22Inside_c (gcall_some hx3 c0)) ?_
  conv => whnf
  obtain ⟨x4, hx4, h⟩ := bd_some h
  refine cG (fun c0 => spec_l21In_c (gcall_some hx4 c0)) ?_
  conv => whnf
  refine andI h (fun _ h => ?_) (fun _ h => ?_)
  · conv => whnf
    obtain rfl := Option.some.inj h
    exact lfP []
  · conv => whnf
    refine seq_in tOk ?_
    conv => whnf
    obtain ⟨x5, hx5, h⟩ := bd_some h
    refine cC 0 (spec_l21In_c hx5) ?_
    clear hx5
    conv => whnf
    obtain ⟨x6, hx6, h⟩ := bd_some h
    refine cG (fun c0 => spec_l22Inside_c (gcall_some hx6 c0)) ?_
    conv => whnf
    obtain ⟨x7, hx7, h⟩ := bd_some h
    refine cG (fun c0 => spec_l21In_c (gcall_some hx7 c0)) ?_
    conv => whnf
    refine andI h (fun _ h => ?_) (fun _ h => ?_)
    · conv => whnf
      obtain rfl := Option.some.inj h
      exact lfP []
    · conv => whnf
      obtain ⟨x8, hx8, h⟩ := bd_some h
      refine cC 0 (spec_l21In_c hx8) ?_
      clear hx8
      conv => whnf
      obtain rfl := Option.some.inj h
      exact lfP []

noncomputable def spec_l22Less_m (a0 : NatEntry) (a1 : NatEntry) : Option (Bool) :=
(if (a0.Kind != a1.Kind) = true then
 some (decide (a0.Kind < a1.Kind))
else
(if (a0.Peer != a1.Peer) = true then
 some (decide (a0.Peer < a1.Peer))
else
(if (a0.PeerPort != a1.PeerPort) = true then
 some (decide (a0.PeerPort < a1.PeerPort))
else
 some (decide (a0.Outer < a1.Outer)))))

theorem spec_l22Less_c {a0 : NatEntry} {a1 : NatEntry} {r : Bool} (h : spec_l22Less_m a0 a1 = some r) : PureC Tryd.prog 53 [.agg [.d (.int .i64 a0.Kind), .d (.int .i64 a0.Peer), .d (.int .i64 a0.PeerPort), .d (.int .i64 a0.Outer), .d (.int .i64 a0.Inner), .d (.int .i64 a0.InnerPort), .d (.int .i64 a0.Last)], .agg [.d (.int .i64 a1.Kind), .d (.int .i64 a1.Peer), .d (.int .i64 a1.PeerPort), .d (.int .i64 a1.Outer), .d (.int .i64 a1.Inner), .d (.int .i64 a1.InnerPort), .d (.int .i64 a1.Last)]] (.d (.bool r)) [] := by
  refine pureC_x tOk (fn := Tryd.f53) (c := codeOf Tryd.f53) rfl rfl ?_
  unfold spec_l22Less_m at h
  conv => whnf
  refine seq_in tOk ?_
  conv => whnf
  refine andI h (fun _ h => ?_) (fun _ h => ?_)
  · conv => whnf
    obtain rfl := Option.some.inj h
    exact lfP []
  · conv => whnf
    refine seq_in tOk ?_
    conv => whnf
    refine andI h (fun _ h => ?_) (fun _ h => ?_)
    · conv => whnf
      obtain rfl := Option.some.inj h
      exact lfP []
    · conv => whnf
      refine seq_in tOk ?_
      conv => whnf
      refine andI h (fun _ h => ?_) (fun _ h => ?_)
      · conv => whnf
        obtain rfl := Option.some.inj h
        exact lfP []
      · conv => whnf
        obtain rfl := Option.some.inj h
        exact lfP []

noncomputable def spec_l22Flow_m (a0 : NatEntry) : Option (NatFlow) :=
 some (⟨a0.Kind, a0.Inner, a0.InnerPort, a0.Peer, a0.PeerPort⟩ : NatFlow)

theorem spec_l22Flow_c {a0 : NatEntry} {r : NatFlow} (h : spec_l22Flow_m a0 = some r) : PureC Tryd.prog 55 [.agg [.d (.int .i64 a0.Kind), .d (.int .i64 a0.Peer), .d (.int .i64 a0.PeerPort), .d (.int .i64 a0.Outer), .d (.int .i64 a0.Inner), .d (.int .i64 a0.InnerPort), .d (.int .i64 a0.Last)]] (.agg [.d (.int .i64 r.Kind), .d (.int .i64 r.From), .d (.int .i64 r.FromPort), .d (.int .i64 r.To), .d (.int .i64 r.ToPort)]) [] := by
  refine pureC_x tOk (fn := Tryd.f55) (c := codeOf Tryd.f55) rfl rfl ?_
  unfold spec_l22Flow_m at h
  conv => whnf
  obtain rfl := Option.some.inj h
  exact lfP []

noncomputable def spec_l22Is_m (a0 : NatEntry) (a1 : NatFlow) : Option (Bool) :=
 some (((((a0.Kind == a1.Kind) && (a0.Inner == a1.From)) && (a0.InnerPort == a1.FromPort)) && (a0.Peer == a1.To)) && (a0.PeerPort == a1.ToPort))

theorem spec_l22Is_c {a0 : NatEntry} {a1 : NatFlow} {r : Bool} (h : spec_l22Is_m a0 a1 = some r) : PureC Tryd.prog 54 [.agg [.d (.int .i64 a0.Kind), .d (.int .i64 a0.Peer), .d (.int .i64 a0.PeerPort), .d (.int .i64 a0.Outer), .d (.int .i64 a0.Inner), .d (.int .i64 a0.InnerPort), .d (.int .i64 a0.Last)], .agg [.d (.int .i64 a1.Kind), .d (.int .i64 a1.From), .d (.int .i64 a1.FromPort), .d (.int .i64 a1.To), .d (.int .i64 a1.ToPort)]] (.d (.bool r)) [] := by
  refine pureC_x tOk (fn := Tryd.f54) (c := codeOf Tryd.f54) rfl rfl ?_
  unfold spec_l22Is_m at h
  conv => whnf
  obtain rfl := Option.some.inj h
  exact lfP []

noncomputable def spec_l22Live_m (a0 : NatBook) (a1 : NatEntry) : Option (Bool) :=
 some (decide ((IntKind.i64.wrap (a0.Now - a1.Last)) < 8))

theorem spec_l22Live_c {a0 : NatBook} {a1 : NatEntry} {r : Bool} (h : spec_l22Live_m a0 a1 = some r) : PureC Tryd.prog 32 [.agg [.d (.int .i64 a0.Addr), .d (.int .i64 a0.Len), .d (.int .i64 a0.Own), .d (.int .i64 a0.Low), .d (.int .i64 a0.High), .d (slD NatDoor.enc a0.Doors), .d (.int .i64 a0.Now), .d (slD NatEntry.enc a0.Entries)], .agg [.d (.int .i64 a1.Kind), .d (.int .i64 a1.Peer), .d (.int .i64 a1.PeerPort), .d (.int .i64 a1.Outer), .d (.int .i64 a1.Inner), .d (.int .i64 a1.InnerPort), .d (.int .i64 a1.Last)]] (.d (.bool r)) [] := by
  refine pureC_x tOk (fn := Tryd.f32) (c := codeOf Tryd.f32) rfl rfl ?_
  unfold spec_l22Live_m at h
  conv => whnf
  obtain rfl := Option.some.inj h
  exact lfP []

noncomputable def spec_l22Entries_m (a0 : NatBook) : Option (Bool) :=
(if (decide (((a0.Entries.length : Nat) : Int) > 16)) = true then
 some false
else
 bd (lp (σ := Int) (β := (Unit ⊕ Unit)) (fun s1 =>
(if (decide (s1 < ((a0.Entries.length : Nat) : Int))) = true then
 gd ((0 : Int) ≤ s1 ∧ s1 < ((a0.Entries.length : Nat) : Int)) <|
 bd (spec_l22EntryOk_m a0 (a0.Entries.getD s1.toNat default)) fun x6 =>
 gd ((decide (s1 > 0)) = true → ((!x6) = false → ((0 : Int) ≤ IntKind.i64.wrap (s1 - 1) ∧ IntKind.i64.wrap (s1 - 1) < ((a0.Entries.length : Nat) : Int)))) <|
 bd (gcall ((decide (s1 > 0)) = true ∧ (!x6) = false) (spec_l22Less_m (a0.Entries.getD ((IntKind.i64.wrap (s1 - 1)).toNat) default) (a0.Entries.getD s1.toNat default))) fun x8 =>
(if ((!x6) || ((decide (s1 > 0)) && (!x8))) = true then
 some (.inr (.inl ()))
else
 bd (lp (σ := Int) (β := (Unit ⊕ Unit)) (fun s9 =>
(if (decide (s9 < s1)) = true then
 gd ((0 : Int) ≤ s9 ∧ s9 < ((a0.Entries.length : Nat) : Int)) <|
 bd (spec_l22Flow_m (a0.Entries.getD s1.toNat default)) fun x14 =>
 bd (spec_l22Is_m (a0.Entries.getD s9.toNat default) x14) fun x15 =>
 bd (gcall (x15 = true) (spec_l22Live_m a0 (a0.Entries.getD s1.toNat default))) fun x16 =>
 gd ((x15 && x16) = true → ((0 : Int) ≤ s9 ∧ s9 < ((a0.Entries.length : Nat) : Int))) <|
 bd (gcall ((x15 && x16) = true) (spec_l22Live_m a0 (a0.Entries.getD s9.toNat default))) fun x18 =>
(if ((x15 && x16) && x18) = true then
 some (.inr (.inl ()))
else
 some (.inl (IntKind.i64.wrap (s9 + 1))))
else
 some (.inr (.inr ())))) 0) fun x12 =>
(match x12 with
| .inl d19 =>
 some (.inr (.inl ()))
| .inr d20 =>
 some (.inl (IntKind.i64.wrap (s1 + 1)))))
else
 some (.inr (.inr ())))) 0) fun x4 =>
(match x4 with
| .inl d21 =>
 some false
| .inr d22 =>
 some true))

theorem spec_l22Entries_c {a0 : NatBook} {r : Bool} (h : spec_l22Entries_m a0 = some r) : PureC Tryd.prog 31 [.agg [.d (.int .i64 a0.Addr), .d (.int .i64 a0.Len), .d (.int .i64 a0.Own), .d (.int .i64 a0.Low), .d (.int .i64 a0.High), .d (slD NatDoor.enc a0.Doors), .d (.int .i64 a0.Now), .d (slD NatEntry.enc a0.Entries)]] (.d (.bool r)) [] := by
  refine pureC_x tOk (fn := Tryd.f31) (c := codeOf Tryd.f31) rfl rfl ?_
  unfold spec_l22Entries_m at h
  conv => whnf
  refine seq_in tOk ?_
  conv => whnf
  refine andI h (fun _ h => ?_) (fun _ h => ?_)
  · conv => whnf
    obtain rfl := Option.some.inj h
    exact lfP []
  · conv => whnf
    refine seq_in tOk ?_
    conv => whnf
    obtain ⟨x4, hx4, h⟩ := bd_some h
    refine loop_m tOk hx4 (fun s1 => ⟨0, 68, [(1, .ref 1 0 0), (3, .d (.int .i64 s1))], [], [(1, .box 31 [.d (.int .i64 a0.Addr), .d (.int .i64 a0.Len), .d (.int .i64 a0.Own), .d (.int .i64 a0.Low), .d (.int .i64 a0.High), .d (slD NatDoor.enc a0.Doors), .d (.int .i64 a0.Now), .d (slD NatEntry.enc a0.Entries)])], []⟩) ?_ ?_
    · exact leX []
    · clear hx4
      intro s1 y2 g3 hy2
      conv => whnf
      refine seq_in tOk ?_
      conv => whnf
      refine andI g3 (fun _ g3 => ?_) (fun _ g3 => ?_)
      · conv => whnf
        refine seq_in tOk ?_
        conv => whnf
        refine gdI g3 (fun g3 => ?_)
        conv => whnf
        refine seq_in tOk ?_
        conv => whnf
        obtain ⟨x6, hx6, g3⟩ := bd_some g3
        obtain ⟨g7, g3⟩ := gd_some g3
        obtain ⟨x8, hx8, g3⟩ := bd_some g3
        refine draw_u tOk [.u 2 0 (.d (.bool x6)) [], .u 15 0 (.d (.bool x8)) []] 19 [] [0, 0, 3, 7, 15, 31, 63, 127, 255, 511, 255, 1279, 4095, 8191, 255, 32767, 65535, 131071, 262143] [] ?_
        conv => whnf
        refine And.intro (callD_any (spec_l22EntryOk_c hx6) (by kernel_rfl)) ?_
        conv => whnf
        refine And.intro g7 ?_
        clear g7
        conv => whnf
        refine And.intro (callDG_if rfl rfl rfl rfl (by intro c0 c1; exact spec_l22Less_c (gcall_some hx8 ⟨c0, c1⟩))) ?_
        conv => whnf
        refine And.intro (by kernel_rfl) ?_
        conv => whnf
        refine andI g3 (fun _ g3 => ?_) (fun _ g3 => ?_)
        · conv => whnf
          obtain rfl := Option.some.inj g3
          obtain rfl := hy2 _ rfl
          obtain rfl := Option.some.inj h
          exact lfP []
        · conv => whnf
          obtain ⟨x12, hx12, g3⟩ := bd_some g3
          refine loop_m tOk hx12 (fun s9 => ⟨0, 68, [(1, .ref 1 0 0), (3, .d (.int .i64 s1)), (4, .ref 4 0 0), (5, .d (.int .i64 s9))], [], [(4, .box 47 [.d (.int .i64 ((a0.Entries.getD s1.toNat default).Kind)), .d (.int .i64 ((a0.Entries.getD s1.toNat default).Peer)), .d (.int .i64 ((a0.Entries.getD s1.toNat default).PeerPort)), .d (.int .i64 ((a0.Entries.getD s1.toNat default).Outer)), .d (.int .i64 ((a0.Entries.getD s1.toNat default).Inner)), .d (.int .i64 ((a0.Entries.getD s1.toNat default).InnerPort)), .d (.int .i64 ((a0.Entries.getD s1.toNat default).Last))]), (1, .box 31 [.d (.int .i64 a0.Addr), .d (.int .i64 a0.Len), .d (.int .i64 a0.Own), .d (.int .i64 a0.Low), .d (.int .i64 a0.High), .d (slD NatDoor.enc a0.Doors), .d (.int .i64 a0.Now), .d (slD NatEntry.enc a0.Entries)])], []⟩) ?_ ?_
          · exact leX []
          · clear hx12
            intro s9 y10 g11 hy10
            conv => whnf
            refine seq_in tOk ?_
            conv => whnf
            refine andI g11 (fun _ g11 => ?_) (fun _ g11 => ?_)
            · conv => whnf
              refine seq_in tOk ?_
              conv => whnf
              obtain ⟨g13, g11⟩ := gd_some g11
              obtain ⟨x14, hx14, g11⟩ := bd_some g11
              obtain ⟨x15, hx15, g11⟩ := bd_some g11
              obtain ⟨x16, hx16, g11⟩ := bd_some g11
              obtain ⟨g17, g11⟩ := gd_some g11
              obtain ⟨x18, hx18, g11⟩ := bd_some g11
              refine draw_u tOk [.u 6 0 (.agg [.d (.int .i64 x14.Kind), .d (.int .i64 x14.From), .d (.int .i64 x14.FromPort), .d (.int .i64 x14.To), .d (.int .i64 x14.ToPort)]) [], .u 7 0 (.d (.bool x15)) [], .u 11 0 (.d (.bool x16)) [], .u 20 0 (.d (.bool x18)) []] 22 [] [0, 1, 0, 7, 15, 0, 32, 127, 255, 511, 511, 2047, 4095, 8191, 16383, 16383, 49151, 16383, 245759, 507903, 1048575, 2097151] [] ?_
              conv => whnf
              refine And.intro g13 ?_
              clear g13
              conv => whnf
              refine And.intro (callD_any (spec_l22Flow_c hx14) (by kernel_rfl)) ?_
              conv => whnf
              refine And.intro (callD_any (spec_l22Is_c hx15) (by kernel_rfl)) ?_
              conv => whnf
              refine And.intro (callDG_if rfl rfl rfl rfl (by intro c0; exact spec_l22Live_c (gcall_some hx16 c0))) ?_
              conv => whnf
              refine And.intro g17 ?_
              clear g17
              conv => whnf
              refine And.intro (callDG_if rfl rfl rfl rfl (by intro c0; exact spec_l22Live_c (gcall_some hx18 c0))) ?_
              conv => whnf
              refine And.intro (by kernel_rfl) ?_
              conv => whnf
              refine andI g11 (fun _ g11 => ?_) (fun _ g11 => ?_)
              · conv => whnf
                obtain rfl := Option.some.inj g11
                obtain rfl := hy10 _ rfl
                obtain rfl := Option.some.inj g3
                obtain rfl := hy2 _ rfl
                obtain rfl := Option.some.inj h
                exact lfP []
              · conv => whnf
                obtain rfl := Option.some.inj g11
                exact ⟨_, rfl, leX []⟩
            · conv => whnf
              obtain rfl := Option.some.inj g11
              obtain rfl := hy10 _ rfl
              obtain rfl := Option.some.inj g3
              exact ⟨_, rfl, leX []⟩
      · conv => whnf
        obtain rfl := Option.some.inj g3
        obtain rfl := hy2 _ rfl
        obtain rfl := Option.some.inj h
        exact lfP []

noncomputable def spec_NatBookOk_m (a0 : NatBook) : Option (Bool) :=
 bd (spec_l22Frame_m a0) fun x1 =>
 bd (gcall (x1 = true) (spec_l22Doors_m a0)) fun x2 =>
 bd (gcall ((x1 && x2) = true) (spec_l22Entries_m a0)) fun x3 =>
 some ((x1 && x2) && x3)

theorem spec_NatBookOk_c {a0 : NatBook} {r : Bool} (h : spec_NatBookOk_m a0 = some r) : PureC Tryd.prog 11 [.agg [.d (.int .i64 a0.Addr), .d (.int .i64 a0.Len), .d (.int .i64 a0.Own), .d (.int .i64 a0.Low), .d (.int .i64 a0.High), .d (slD NatDoor.enc a0.Doors), .d (.int .i64 a0.Now), .d (slD NatEntry.enc a0.Entries)]] (.d (.bool r)) [] := by
  refine pureC_x tOk (fn := Tryd.f11) (c := codeOf Tryd.f11) rfl rfl ?_
  unfold spec_NatBookOk_m at h
  conv => whnf
  obtain ⟨x1, hx1, h⟩ := bd_some h
  refine cC 0 (spec_l22Frame_c hx1) ?_
  clear hx1
  conv => whnf
  obtain ⟨x2, hx2, h⟩ := bd_some h
  refine cG (fun c0 => spec_l22Doors_c (gcall_some hx2 c0)) ?_
  conv => whnf
  obtain ⟨x3, hx3, h⟩ := bd_some h
  refine cG (fun c0 => spec_l22Entries_c (gcall_some hx3 c0)) ?_
  conv => whnf
  obtain rfl := Option.some.inj h
  exact lfP []

noncomputable def spec_l24Dec_d8_m (a0 : Int) : Option (ByteArray) :=
(if (decide (a0 < 10)) = true then
 some (strOf ([IntKind.u8.wrap (IntKind.i64.wrap (48 + a0))] : List Int))
else
 none)

theorem spec_l24Dec_d8_c {a0 : Int} {r : ByteArray} (h : spec_l24Dec_d8_m a0 = some r) : PureC Tryd.prog 14 [.d (.int .i64 a0)] (.d (.str r)) [] := by
  refine pureC_x tOk (fn := Tryd.f14) (c := codeOf Tryd.f14) rfl rfl ?_
  unfold spec_l24Dec_d8_m at h
  conv => whnf
  refine seq_in tOk ?_
  conv => whnf
  refine andI h (fun _ h => ?_) (fun _ h => ?_)
  · conv => whnf
    refine bldS (enc := encByte) ([IntKind.u8.wrap (IntKind.i64.wrap (48 + a0))] : List Int) ?_
    conv => whnf
    obtain rfl := Option.some.inj h
    exact lfP []
  · conv => whnf
    cases h

noncomputable def spec_l24Dec_d7_m (a0 : Int) : Option (ByteArray) :=
(if (decide (a0 < 10)) = true then
 some (strOf ([IntKind.u8.wrap (IntKind.i64.wrap (48 + a0))] : List Int))
else
 gd ((10 : Int) ≠ 0) <|
 bd (spec_l24Dec_d8_m (IntKind.i64.wrap ((a0 : Int).tdiv 10))) fun x2 =>
 gd ((10 : Int) ≠ 0) <|
 gd (x2.size + (strOf ([IntKind.u8.wrap (IntKind.i64.wrap (48 + ((a0 : Int).tmod 10)))] : List Int)).size ≤ 9223372036854775807) <|
 some (x2 ++ (strOf ([IntKind.u8.wrap (IntKind.i64.wrap (48 + ((a0 : Int).tmod 10)))] : List Int))))

theorem spec_l24Dec_d7_c {a0 : Int} {r : ByteArray} (h : spec_l24Dec_d7_m a0 = some r) : PureC Tryd.prog 14 [.d (.int .i64 a0)] (.d (.str r)) [] := by
  refine pureC_x tOk (fn := Tryd.f14) (c := codeOf Tryd.f14) rfl rfl ?_
  unfold spec_l24Dec_d7_m at h
  conv => whnf
  refine seq_in tOk ?_
  conv => whnf
  refine andI h (fun _ h => ?_) (fun _ h => ?_)
  · conv => whnf
    refine bldS (enc := encByte) ([IntKind.u8.wrap (IntKind.i64.wrap (48 + a0))] : List Int) ?_
    conv => whnf
    obtain rfl := Option.some.inj h
    exact lfP []
  · conv => whnf
    obtain ⟨g1, h⟩ := gd_some h
    obtain ⟨x2, hx2, h⟩ := bd_some h
    obtain ⟨g3, h⟩ := gd_some h
    obtain ⟨g4, h⟩ := gd_some h
    refine draw_u tOk [.u 2 0 (.d (.str x2)) []] 11 [] [0, 1, 3, 0, 8, 24, 56, 120, 248, 511, 1023] [] ?_
    conv => whnf
    refine And.intro g1 ?_
    clear g1
    conv => whnf
    refine And.intro (callD_any (spec_l24Dec_d8_c hx2) (by kernel_rfl)) ?_
    conv => whnf
    refine And.intro g3 ?_
    clear g3
    conv => whnf
    refine bldS (enc := encByte) ([IntKind.u8.wrap (IntKind.i64.wrap (48 + ((a0 : Int).tmod 10)))] : List Int) ?_
    conv => whnf
    refine And.intro g4 ?_
    clear g4
    conv => whnf
    refine And.intro (by kernel_rfl) ?_
    conv => whnf
    obtain rfl := Option.some.inj h
    exact lfP []

noncomputable def spec_l24Dec_d6_m (a0 : Int) : Option (ByteArray) :=
(if (decide (a0 < 10)) = true then
 some (strOf ([IntKind.u8.wrap (IntKind.i64.wrap (48 + a0))] : List Int))
else
 gd ((10 : Int) ≠ 0) <|
 bd (spec_l24Dec_d7_m (IntKind.i64.wrap ((a0 : Int).tdiv 10))) fun x2 =>
 gd ((10 : Int) ≠ 0) <|
 gd (x2.size + (strOf ([IntKind.u8.wrap (IntKind.i64.wrap (48 + ((a0 : Int).tmod 10)))] : List Int)).size ≤ 9223372036854775807) <|
 some (x2 ++ (strOf ([IntKind.u8.wrap (IntKind.i64.wrap (48 + ((a0 : Int).tmod 10)))] : List Int))))

theorem spec_l24Dec_d6_c {a0 : Int} {r : ByteArray} (h : spec_l24Dec_d6_m a0 = some r) : PureC Tryd.prog 14 [.d (.int .i64 a0)] (.d (.str r)) [] := by
  refine pureC_x tOk (fn := Tryd.f14) (c := codeOf Tryd.f14) rfl rfl ?_
  unfold spec_l24Dec_d6_m at h
  conv => whnf
  refine seq_in tOk ?_
  conv => whnf
  refine andI h (fun _ h => ?_) (fun _ h => ?_)
  · conv => whnf
    refine bldS (enc := encByte) ([IntKind.u8.wrap (IntKind.i64.wrap (48 + a0))] : List Int) ?_
    conv => whnf
    obtain rfl := Option.some.inj h
    exact lfP []
  · conv => whnf
    obtain ⟨g1, h⟩ := gd_some h
    obtain ⟨x2, hx2, h⟩ := bd_some h
    obtain ⟨g3, h⟩ := gd_some h
    obtain ⟨g4, h⟩ := gd_some h
    refine draw_u tOk [.u 2 0 (.d (.str x2)) []] 11 [] [0, 1, 3, 0, 8, 24, 56, 120, 248, 511, 1023] [] ?_
    conv => whnf
    refine And.intro g1 ?_
    clear g1
    conv => whnf
    refine And.intro (callD_any (spec_l24Dec_d7_c hx2) (by kernel_rfl)) ?_
    conv => whnf
    refine And.intro g3 ?_
    clear g3
    conv => whnf
    refine bldS (enc := encByte) ([IntKind.u8.wrap (IntKind.i64.wrap (48 + ((a0 : Int).tmod 10)))] : List Int) ?_
    conv => whnf
    refine And.intro g4 ?_
    clear g4
    conv => whnf
    refine And.intro (by kernel_rfl) ?_
    conv => whnf
    obtain rfl := Option.some.inj h
    exact lfP []

noncomputable def spec_l24Dec_d5_m (a0 : Int) : Option (ByteArray) :=
(if (decide (a0 < 10)) = true then
 some (strOf ([IntKind.u8.wrap (IntKind.i64.wrap (48 + a0))] : List Int))
else
 gd ((10 : Int) ≠ 0) <|
 bd (spec_l24Dec_d6_m (IntKind.i64.wrap ((a0 : Int).tdiv 10))) fun x2 =>
 gd ((10 : Int) ≠ 0) <|
 gd (x2.size + (strOf ([IntKind.u8.wrap (IntKind.i64.wrap (48 + ((a0 : Int).tmod 10)))] : List Int)).size ≤ 9223372036854775807) <|
 some (x2 ++ (strOf ([IntKind.u8.wrap (IntKind.i64.wrap (48 + ((a0 : Int).tmod 10)))] : List Int))))

theorem spec_l24Dec_d5_c {a0 : Int} {r : ByteArray} (h : spec_l24Dec_d5_m a0 = some r) : PureC Tryd.prog 14 [.d (.int .i64 a0)] (.d (.str r)) [] := by
  refine pureC_x tOk (fn := Tryd.f14) (c := codeOf Tryd.f14) rfl rfl ?_
  unfold spec_l24Dec_d5_m at h
  conv => whnf
  refine seq_in tOk ?_
  conv => whnf
  refine andI h (fun _ h => ?_) (fun _ h => ?_)
  · conv => whnf
    refine bldS (enc := encByte) ([IntKind.u8.wrap (IntKind.i64.wrap (48 + a0))] : List Int) ?_
    conv => whnf
    obtain rfl := Option.some.inj h
    exact lfP []
  · conv => whnf
    obtain ⟨g1, h⟩ := gd_some h
    obtain ⟨x2, hx2, h⟩ := bd_some h
    obtain ⟨g3, h⟩ := gd_some h
    obtain ⟨g4, h⟩ := gd_some h
    refine draw_u tOk [.u 2 0 (.d (.str x2)) []] 11 [] [0, 1, 3, 0, 8, 24, 56, 120, 248, 511, 1023] [] ?_
    conv => whnf
    refine And.intro g1 ?_
    clear g1
    conv => whnf
    refine And.intro (callD_any (spec_l24Dec_d6_c hx2) (by kernel_rfl)) ?_
    conv => whnf
    refine And.intro g3 ?_
    clear g3
    conv => whnf
    refine bldS (enc := encByte) ([IntKind.u8.wrap (IntKind.i64.wrap (48 + ((a0 : Int).tmod 10)))] : List Int) ?_
    conv => whnf
    refine And.intro g4 ?_
    clear g4
    conv => whnf
    refine And.intro (by kernel_rfl) ?_
    conv => whnf
    obtain rfl := Option.some.inj h
    exact lfP []

noncomputable def spec_l24Dec_d4_m (a0 : Int) : Option (ByteArray) :=
(if (decide (a0 < 10)) = true then
 some (strOf ([IntKind.u8.wrap (IntKind.i64.wrap (48 + a0))] : List Int))
else
 gd ((10 : Int) ≠ 0) <|
 bd (spec_l24Dec_d5_m (IntKind.i64.wrap ((a0 : Int).tdiv 10))) fun x2 =>
 gd ((10 : Int) ≠ 0) <|
 gd (x2.size + (strOf ([IntKind.u8.wrap (IntKind.i64.wrap (48 + ((a0 : Int).tmod 10)))] : List Int)).size ≤ 9223372036854775807) <|
 some (x2 ++ (strOf ([IntKind.u8.wrap (IntKind.i64.wrap (48 + ((a0 : Int).tmod 10)))] : List Int))))

theorem spec_l24Dec_d4_c {a0 : Int} {r : ByteArray} (h : spec_l24Dec_d4_m a0 = some r) : PureC Tryd.prog 14 [.d (.int .i64 a0)] (.d (.str r)) [] := by
  refine pureC_x tOk (fn := Tryd.f14) (c := codeOf Tryd.f14) rfl rfl ?_
  unfold spec_l24Dec_d4_m at h
  conv => whnf
  refine seq_in tOk ?_
  conv => whnf
  refine andI h (fun _ h => ?_) (fun _ h => ?_)
  · conv => whnf
    refine bldS (enc := encByte) ([IntKind.u8.wrap (IntKind.i64.wrap (48 + a0))] : List Int) ?_
    conv => whnf
    obtain rfl := Option.some.inj h
    exact lfP []
  · conv => whnf
    obtain ⟨g1, h⟩ := gd_some h
    obtain ⟨x2, hx2, h⟩ := bd_some h
    obtain ⟨g3, h⟩ := gd_some h
    obtain ⟨g4, h⟩ := gd_some h
    refine draw_u tOk [.u 2 0 (.d (.str x2)) []] 11 [] [0, 1, 3, 0, 8, 24, 56, 120, 248, 511, 1023] [] ?_
    conv => whnf
    refine And.intro g1 ?_
    clear g1
    conv => whnf
    refine And.intro (callD_any (spec_l24Dec_d5_c hx2) (by kernel_rfl)) ?_
    conv => whnf
    refine And.intro g3 ?_
    clear g3
    conv => whnf
    refine bldS (enc := encByte) ([IntKind.u8.wrap (IntKind.i64.wrap (48 + ((a0 : Int).tmod 10)))] : List Int) ?_
    conv => whnf
    refine And.intro g4 ?_
    clear g4
    conv => whnf
    refine And.intro (by kernel_rfl) ?_
    conv => whnf
    obtain rfl := Option.some.inj h
    exact lfP []

noncomputable def spec_l24Dec_d3_m (a0 : Int) : Option (ByteArray) :=
(if (decide (a0 < 10)) = true then
 some (strOf ([IntKind.u8.wrap (IntKind.i64.wrap (48 + a0))] : List Int))
else
 gd ((10 : Int) ≠ 0) <|
 bd (spec_l24Dec_d4_m (IntKind.i64.wrap ((a0 : Int).tdiv 10))) fun x2 =>
 gd ((10 : Int) ≠ 0) <|
 gd (x2.size + (strOf ([IntKind.u8.wrap (IntKind.i64.wrap (48 + ((a0 : Int).tmod 10)))] : List Int)).size ≤ 9223372036854775807) <|
 some (x2 ++ (strOf ([IntKind.u8.wrap (IntKind.i64.wrap (48 + ((a0 : Int).tmod 10)))] : List Int))))

theorem spec_l24Dec_d3_c {a0 : Int} {r : ByteArray} (h : spec_l24Dec_d3_m a0 = some r) : PureC Tryd.prog 14 [.d (.int .i64 a0)] (.d (.str r)) [] := by
  refine pureC_x tOk (fn := Tryd.f14) (c := codeOf Tryd.f14) rfl rfl ?_
  unfold spec_l24Dec_d3_m at h
  conv => whnf
  refine seq_in tOk ?_
  conv => whnf
  refine andI h (fun _ h => ?_) (fun _ h => ?_)
  · conv => whnf
    refine bldS (enc := encByte) ([IntKind.u8.wrap (IntKind.i64.wrap (48 + a0))] : List Int) ?_
    conv => whnf
    obtain rfl := Option.some.inj h
    exact lfP []
  · conv => whnf
    obtain ⟨g1, h⟩ := gd_some h
    obtain ⟨x2, hx2, h⟩ := bd_some h
    obtain ⟨g3, h⟩ := gd_some h
    obtain ⟨g4, h⟩ := gd_some h
    refine draw_u tOk [.u 2 0 (.d (.str x2)) []] 11 [] [0, 1, 3, 0, 8, 24, 56, 120, 248, 511, 1023] [] ?_
    conv => whnf
    refine And.intro g1 ?_
    clear g1
    conv => whnf
    refine And.intro (callD_any (spec_l24Dec_d4_c hx2) (by kernel_rfl)) ?_
    conv => whnf
    refine And.intro g3 ?_
    clear g3
    conv => whnf
    refine bldS (enc := encByte) ([IntKind.u8.wrap (IntKind.i64.wrap (48 + ((a0 : Int).tmod 10)))] : List Int) ?_
    conv => whnf
    refine And.intro g4 ?_
    clear g4
    conv => whnf
    refine And.intro (by kernel_rfl) ?_
    conv => whnf
    obtain rfl := Option.some.inj h
    exact lfP []

noncomputable def spec_l24Dec_d2_m (a0 : Int) : Option (ByteArray) :=
(if (decide (a0 < 10)) = true then
 some (strOf ([IntKind.u8.wrap (IntKind.i64.wrap (48 + a0))] : List Int))
else
 gd ((10 : Int) ≠ 0) <|
 bd (spec_l24Dec_d3_m (IntKind.i64.wrap ((a0 : Int).tdiv 10))) fun x2 =>
 gd ((10 : Int) ≠ 0) <|
 gd (x2.size + (strOf ([IntKind.u8.wrap (IntKind.i64.wrap (48 + ((a0 : Int).tmod 10)))] : List Int)).size ≤ 9223372036854775807) <|
 some (x2 ++ (strOf ([IntKind.u8.wrap (IntKind.i64.wrap (48 + ((a0 : Int).tmod 10)))] : List Int))))

theorem spec_l24Dec_d2_c {a0 : Int} {r : ByteArray} (h : spec_l24Dec_d2_m a0 = some r) : PureC Tryd.prog 14 [.d (.int .i64 a0)] (.d (.str r)) [] := by
  refine pureC_x tOk (fn := Tryd.f14) (c := codeOf Tryd.f14) rfl rfl ?_
  unfold spec_l24Dec_d2_m at h
  conv => whnf
  refine seq_in tOk ?_
  conv => whnf
  refine andI h (fun _ h => ?_) (fun _ h => ?_)
  · conv => whnf
    refine bldS (enc := encByte) ([IntKind.u8.wrap (IntKind.i64.wrap (48 + a0))] : List Int) ?_
    conv => whnf
    obtain rfl := Option.some.inj h
    exact lfP []
  · conv => whnf
    obtain ⟨g1, h⟩ := gd_some h
    obtain ⟨x2, hx2, h⟩ := bd_some h
    obtain ⟨g3, h⟩ := gd_some h
    obtain ⟨g4, h⟩ := gd_some h
    refine draw_u tOk [.u 2 0 (.d (.str x2)) []] 11 [] [0, 1, 3, 0, 8, 24, 56, 120, 248, 511, 1023] [] ?_
    conv => whnf
    refine And.intro g1 ?_
    clear g1
    conv => whnf
    refine And.intro (callD_any (spec_l24Dec_d3_c hx2) (by kernel_rfl)) ?_
    conv => whnf
    refine And.intro g3 ?_
    clear g3
    conv => whnf
    refine bldS (enc := encByte) ([IntKind.u8.wrap (IntKind.i64.wrap (48 + ((a0 : Int).tmod 10)))] : List Int) ?_
    conv => whnf
    refine And.intro g4 ?_
    clear g4
    conv => whnf
    refine And.intro (by kernel_rfl) ?_
    conv => whnf
    obtain rfl := Option.some.inj h
    exact lfP []

noncomputable def spec_l24Dec_d1_m (a0 : Int) : Option (ByteArray) :=
(if (decide (a0 < 10)) = true then
 some (strOf ([IntKind.u8.wrap (IntKind.i64.wrap (48 + a0))] : List Int))
else
 gd ((10 : Int) ≠ 0) <|
 bd (spec_l24Dec_d2_m (IntKind.i64.wrap ((a0 : Int).tdiv 10))) fun x2 =>
 gd ((10 : Int) ≠ 0) <|
 gd (x2.size + (strOf ([IntKind.u8.wrap (IntKind.i64.wrap (48 + ((a0 : Int).tmod 10)))] : List Int)).size ≤ 9223372036854775807) <|
 some (x2 ++ (strOf ([IntKind.u8.wrap (IntKind.i64.wrap (48 + ((a0 : Int).tmod 10)))] : List Int))))

theorem spec_l24Dec_d1_c {a0 : Int} {r : ByteArray} (h : spec_l24Dec_d1_m a0 = some r) : PureC Tryd.prog 14 [.d (.int .i64 a0)] (.d (.str r)) [] := by
  refine pureC_x tOk (fn := Tryd.f14) (c := codeOf Tryd.f14) rfl rfl ?_
  unfold spec_l24Dec_d1_m at h
  conv => whnf
  refine seq_in tOk ?_
  conv => whnf
  refine andI h (fun _ h => ?_) (fun _ h => ?_)
  · conv => whnf
    refine bldS (enc := encByte) ([IntKind.u8.wrap (IntKind.i64.wrap (48 + a0))] : List Int) ?_
    conv => whnf
    obtain rfl := Option.some.inj h
    exact lfP []
  · conv => whnf
    obtain ⟨g1, h⟩ := gd_some h
    obtain ⟨x2, hx2, h⟩ := bd_some h
    obtain ⟨g3, h⟩ := gd_some h
    obtain ⟨g4, h⟩ := gd_some h
    refine draw_u tOk [.u 2 0 (.d (.str x2)) []] 11 [] [0, 1, 3, 0, 8, 24, 56, 120, 248, 511, 1023] [] ?_
    conv => whnf
    refine And.intro g1 ?_
    clear g1
    conv => whnf
    refine And.intro (callD_any (spec_l24Dec_d2_c hx2) (by kernel_rfl)) ?_
    conv => whnf
    refine And.intro g3 ?_
    clear g3
    conv => whnf
    refine bldS (enc := encByte) ([IntKind.u8.wrap (IntKind.i64.wrap (48 + ((a0 : Int).tmod 10)))] : List Int) ?_
    conv => whnf
    refine And.intro g4 ?_
    clear g4
    conv => whnf
    refine And.intro (by kernel_rfl) ?_
    conv => whnf
    obtain rfl := Option.some.inj h
    exact lfP []

noncomputable def spec_l24Dec_m (a0 : Int) : Option (ByteArray) :=
(if (decide (a0 < 10)) = true then
 some (strOf ([IntKind.u8.wrap (IntKind.i64.wrap (48 + a0))] : List Int))
else
 gd ((10 : Int) ≠ 0) <|
 bd (spec_l24Dec_d1_m (IntKind.i64.wrap ((a0 : Int).tdiv 10))) fun x2 =>
 gd ((10 : Int) ≠ 0) <|
 gd (x2.size + (strOf ([IntKind.u8.wrap (IntKind.i64.wrap (48 + ((a0 : Int).tmod 10)))] : List Int)).size ≤ 9223372036854775807) <|
 some (x2 ++ (strOf ([IntKind.u8.wrap (IntKind.i64.wrap (48 + ((a0 : Int).tmod 10)))] : List Int))))

theorem spec_l24Dec_c {a0 : Int} {r : ByteArray} (h : spec_l24Dec_m a0 = some r) : PureC Tryd.prog 14 [.d (.int .i64 a0)] (.d (.str r)) [] := by
  refine pureC_x tOk (fn := Tryd.f14) (c := codeOf Tryd.f14) rfl rfl ?_
  unfold spec_l24Dec_m at h
  conv => whnf
  refine seq_in tOk ?_
  conv => whnf
  refine andI h (fun _ h => ?_) (fun _ h => ?_)
  · conv => whnf
    refine bldS (enc := encByte) ([IntKind.u8.wrap (IntKind.i64.wrap (48 + a0))] : List Int) ?_
    conv => whnf
    obtain rfl := Option.some.inj h
    exact lfP []
  · conv => whnf
    obtain ⟨g1, h⟩ := gd_some h
    obtain ⟨x2, hx2, h⟩ := bd_some h
    obtain ⟨g3, h⟩ := gd_some h
    obtain ⟨g4, h⟩ := gd_some h
    refine draw_u tOk [.u 2 0 (.d (.str x2)) []] 11 [] [0, 1, 3, 0, 8, 24, 56, 120, 248, 511, 1023] [] ?_
    conv => whnf
    refine And.intro g1 ?_
    clear g1
    conv => whnf
    refine And.intro (callD_any (spec_l24Dec_d1_c hx2) (by kernel_rfl)) ?_
    conv => whnf
    refine And.intro g3 ?_
    clear g3
    conv => whnf
    refine bldS (enc := encByte) ([IntKind.u8.wrap (IntKind.i64.wrap (48 + ((a0 : Int).tmod 10)))] : List Int) ?_
    conv => whnf
    refine And.intro g4 ?_
    clear g4
    conv => whnf
    refine And.intro (by kernel_rfl) ?_
    conv => whnf
    obtain rfl := Option.some.inj h
    exact lfP []

noncomputable def spec_l24At_m (a0 : Int) (a1 : Int) : Option (ByteArray) :=
 gd ((256 : Int) ≠ 0) <|
 bd (spec_l24Dec_m (IntKind.i64.wrap ((a0 : Int).tdiv 256))) fun x2 =>
 gd (x2.size + (⟨#[46]⟩ : ByteArray).size ≤ 9223372036854775807) <|
 gd ((256 : Int) ≠ 0) <|
 bd (spec_l24Dec_m ((a0 : Int).tmod 256)) fun x5 =>
 gd ((x2 ++ (⟨#[46]⟩ : ByteArray)).size + x5.size ≤ 9223372036854775807) <|
 gd (((x2 ++ (⟨#[46]⟩ : ByteArray)) ++ x5).size + (⟨#[58]⟩ : ByteArray).size ≤ 9223372036854775807) <|
 bd (spec_l24Dec_m a1) fun x8 =>
 gd ((((x2 ++ (⟨#[46]⟩ : ByteArray)) ++ x5) ++ (⟨#[58]⟩ : ByteArray)).size + x8.size ≤ 9223372036854775807) <|
 some ((((x2 ++ (⟨#[46]⟩ : ByteArray)) ++ x5) ++ (⟨#[58]⟩ : ByteArray)) ++ x8)

theorem spec_l24At_c {a0 : Int} {a1 : Int} {r : ByteArray} (h : spec_l24At_m a0 a1 = some r) : PureC Tryd.prog 15 [.d (.int .i64 a0), .d (.int .i64 a1)] (.d (.str r)) [] := by
  refine pureC_x tOk (fn := Tryd.f15) (c := codeOf Tryd.f15) rfl rfl ?_
  unfold spec_l24At_m at h
  conv => whnf
  refine gdI h (fun h => ?_)
  conv => whnf
  obtain ⟨x2, hx2, h⟩ := bd_some h
  refine cC 0 (spec_l24Dec_c hx2) ?_
  clear hx2
  conv => whnf
  refine gdI h (fun h => ?_)
  conv => whnf
  refine gdI h (fun h => ?_)
  conv => whnf
  obtain ⟨x5, hx5, h⟩ := bd_some h
  refine cC 0 (spec_l24Dec_c hx5) ?_
  clear hx5
  conv => whnf
  refine gdI h (fun h => ?_)
  conv => whnf
  refine gdI h (fun h => ?_)
  conv => whnf
  obtain ⟨x8, hx8, h⟩ := bd_some h
  refine cC 0 (spec_l24Dec_c hx8) ?_
  clear hx8
  conv => whnf
  refine gdI h (fun h => ?_)
  conv => whnf
  obtain rfl := Option.some.inj h
  exact lfP []

noncomputable def spec_l24Entry_m (a0 : NatBook) (a1 : NatEntry) : Option (ByteArray) :=
 bd (spec_l24Dec_m a1.Kind) fun x1 =>
 gd ((⟨#[102, 108, 111, 119, 32]⟩ : ByteArray).size + x1.size ≤ 9223372036854775807) <|
 gd (((⟨#[102, 108, 111, 119, 32]⟩ : ByteArray) ++ x1).size + (⟨#[32]⟩ : ByteArray).size ≤ 9223372036854775807) <|
 bd (spec_l24At_m a1.Inner a1.InnerPort) fun x4 =>
 gd ((((⟨#[102, 108, 111, 119, 32]⟩ : ByteArray) ++ x1) ++ (⟨#[32]⟩ : ByteArray)).size + x4.size ≤ 9223372036854775807) <|
 gd (((((⟨#[102, 108, 111, 119, 32]⟩ : ByteArray) ++ x1) ++ (⟨#[32]⟩ : ByteArray)) ++ x4).size + (⟨#[32, 97, 115, 32]⟩ : ByteArray).size ≤ 9223372036854775807) <|
 bd (spec_l24At_m a0.Own a1.Outer) fun x7 =>
 gd ((((((⟨#[102, 108, 111, 119, 32]⟩ : ByteArray) ++ x1) ++ (⟨#[32]⟩ : ByteArray)) ++ x4) ++ (⟨#[32, 97, 115, 32]⟩ : ByteArray)).size + x7.size ≤ 9223372036854775807) <|
 gd (((((((⟨#[102, 108, 111, 119, 32]⟩ : ByteArray) ++ x1) ++ (⟨#[32]⟩ : ByteArray)) ++ x4) ++ (⟨#[32, 97, 115, 32]⟩ : ByteArray)) ++ x7).size + (⟨#[32, 116, 111, 32]⟩ : ByteArray).size ≤ 9223372036854775807) <|
 bd (spec_l24At_m a1.Peer a1.PeerPort) fun x10 =>
 gd ((((((((⟨#[102, 108, 111, 119, 32]⟩ : ByteArray) ++ x1) ++ (⟨#[32]⟩ : ByteArray)) ++ x4) ++ (⟨#[32, 97, 115, 32]⟩ : ByteArray)) ++ x7) ++ (⟨#[32, 116, 111, 32]⟩ : ByteArray)).size + x10.size ≤ 9223372036854775807) <|
 bd (spec_l22Live_m a0 a1) fun x12 =>
(if x12 = true then
 gd (((((((((⟨#[102, 108, 111, 119, 32]⟩ : ByteArray) ++ x1) ++ (⟨#[32]⟩ : ByteArray)) ++ x4) ++ (⟨#[32, 97, 115, 32]⟩ : ByteArray)) ++ x7) ++ (⟨#[32, 116, 111, 32]⟩ : ByteArray)) ++ x10).size + (⟨#[32, 108, 101, 102, 116, 32]⟩ : ByteArray).size ≤ 9223372036854775807) <|
 bd (spec_l24Dec_m (IntKind.i64.wrap (8 - (IntKind.i64.wrap (a0.Now - a1.Last))))) fun x14 =>
 gd ((((((((((⟨#[102, 108, 111, 119, 32]⟩ : ByteArray) ++ x1) ++ (⟨#[32]⟩ : ByteArray)) ++ x4) ++ (⟨#[32, 97, 115, 32]⟩ : ByteArray)) ++ x7) ++ (⟨#[32, 116, 111, 32]⟩ : ByteArray)) ++ x10) ++ (⟨#[32, 108, 101, 102, 116, 32]⟩ : ByteArray)).size + x14.size ≤ 9223372036854775807) <|
 gd (((((((((((⟨#[102, 108, 111, 119, 32]⟩ : ByteArray) ++ x1) ++ (⟨#[32]⟩ : ByteArray)) ++ x4) ++ (⟨#[32, 97, 115, 32]⟩ : ByteArray)) ++ x7) ++ (⟨#[32, 116, 111, 32]⟩ : ByteArray)) ++ x10) ++ (⟨#[32, 108, 101, 102, 116, 32]⟩ : ByteArray)) ++ x14).size + (⟨#[10]⟩ : ByteArray).size ≤ 9223372036854775807) <|
 some (((((((((((⟨#[102, 108, 111, 119, 32]⟩ : ByteArray) ++ x1) ++ (⟨#[32]⟩ : ByteArray)) ++ x4) ++ (⟨#[32, 97, 115, 32]⟩ : ByteArray)) ++ x7) ++ (⟨#[32, 116, 111, 32]⟩ : ByteArray)) ++ x10) ++ (⟨#[32, 108, 101, 102, 116, 32]⟩ : ByteArray)) ++ x14) ++ (⟨#[10]⟩ : ByteArray))
else
 gd (((((((((⟨#[102, 108, 111, 119, 32]⟩ : ByteArray) ++ x1) ++ (⟨#[32]⟩ : ByteArray)) ++ x4) ++ (⟨#[32, 97, 115, 32]⟩ : ByteArray)) ++ x7) ++ (⟨#[32, 116, 111, 32]⟩ : ByteArray)) ++ x10).size + (⟨#[32, 114, 101, 115, 116, 115, 32]⟩ : ByteArray).size ≤ 9223372036854775807) <|
 bd (spec_l24Dec_m (IntKind.i64.wrap (12 - (IntKind.i64.wrap (a0.Now - a1.Last))))) fun x18 =>
 gd ((((((((((⟨#[102, 108, 111, 119, 32]⟩ : ByteArray) ++ x1) ++ (⟨#[32]⟩ : ByteArray)) ++ x4) ++ (⟨#[32, 97, 115, 32]⟩ : ByteArray)) ++ x7) ++ (⟨#[32, 116, 111, 32]⟩ : ByteArray)) ++ x10) ++ (⟨#[32, 114, 101, 115, 116, 115, 32]⟩ : ByteArray)).size + x18.size ≤ 9223372036854775807) <|
 gd (((((((((((⟨#[102, 108, 111, 119, 32]⟩ : ByteArray) ++ x1) ++ (⟨#[32]⟩ : ByteArray)) ++ x4) ++ (⟨#[32, 97, 115, 32]⟩ : ByteArray)) ++ x7) ++ (⟨#[32, 116, 111, 32]⟩ : ByteArray)) ++ x10) ++ (⟨#[32, 114, 101, 115, 116, 115, 32]⟩ : ByteArray)) ++ x18).size + (⟨#[10]⟩ : ByteArray).size ≤ 9223372036854775807) <|
 some (((((((((((⟨#[102, 108, 111, 119, 32]⟩ : ByteArray) ++ x1) ++ (⟨#[32]⟩ : ByteArray)) ++ x4) ++ (⟨#[32, 97, 115, 32]⟩ : ByteArray)) ++ x7) ++ (⟨#[32, 116, 111, 32]⟩ : ByteArray)) ++ x10) ++ (⟨#[32, 114, 101, 115, 116, 115, 32]⟩ : ByteArray)) ++ x18) ++ (⟨#[10]⟩ : ByteArray)))

theorem spec_l24Entry_c {a0 : NatBook} {a1 : NatEntry} {r : ByteArray} (h : spec_l24Entry_m a0 a1 = some r) : PureC Tryd.prog 16 [.agg [.d (.int .i64 a0.Addr), .d (.int .i64 a0.Len), .d (.int .i64 a0.Own), .d (.int .i64 a0.Low), .d (.int .i64 a0.High), .d (slD NatDoor.enc a0.Doors), .d (.int .i64 a0.Now), .d (slD NatEntry.enc a0.Entries)], .agg [.d (.int .i64 a1.Kind), .d (.int .i64 a1.Peer), .d (.int .i64 a1.PeerPort), .d (.int .i64 a1.Outer), .d (.int .i64 a1.Inner), .d (.int .i64 a1.InnerPort), .d (.int .i64 a1.Last)]] (.d (.str r)) [] := by
  refine pureC_x tOk (fn := Tryd.f16) (c := codeOf Tryd.f16) rfl rfl ?_
  unfold spec_l24Entry_m at h
  conv => whnf
  obtain ⟨x1, hx1, h⟩ := bd_some h
  obtain ⟨g2, h⟩ := gd_some h
  obtain ⟨g3, h⟩ := gd_some h
  obtain ⟨x4, hx4, h⟩ := bd_some h
  obtain ⟨g5, h⟩ := gd_some h
  obtain ⟨g6, h⟩ := gd_some h
  obtain ⟨x7, hx7, h⟩ := bd_some h
  obtain ⟨g8, h⟩ := gd_some h
  obtain ⟨g9, h⟩ := gd_some h
  obtain ⟨x10, hx10, h⟩ := bd_some h
  obtain ⟨g11, h⟩ := gd_some h
  refine draw_u tOk [.u 2 0 (.d (.str x1)) [], .u 9 0 (.d (.str x4)) [], .u 16 0 (.d (.str x7)) [], .u 23 0 (.d (.str x10)) []] 26 [] [0, 1, 3, 7, 15, 0, 32, 0, 128, 487, 1023, 2047, 0, 4096, 0, 16384, 62439, 131071, 262143, 0, 524288, 0, 2097152, 7992295, 16777215, 33554431] [] ?_
  conv => whnf
  refine And.intro (callD_any (spec_l24Dec_c hx1) (by kernel_rfl)) ?_
  conv => whnf
  refine And.intro g2 ?_
  clear g2
  conv => whnf
  refine And.intro g3 ?_
  clear g3
  conv => whnf
  refine And.intro (callD_any (spec_l24At_c hx4) (by kernel_rfl)) ?_
  conv => whnf
  refine And.intro g5 ?_
  clear g5
  conv => whnf
  refine And.intro g6 ?_
  clear g6
  conv => whnf
  refine And.intro (callD_any (spec_l24At_c hx7) (by kernel_rfl)) ?_
  conv => whnf
  refine And.intro g8 ?_
  clear g8
  conv => whnf
  refine And.intro g9 ?_
  clear g9
  conv => whnf
  refine And.intro (callD_any (spec_l24At_c hx10) (by kernel_rfl)) ?_
  conv => whnf
  refine And.intro g11 ?_
  clear g11
  conv => whnf
  refine And.intro (by kernel_rfl) ?_
  conv => whnf
  refine seq_in tOk ?_
  conv => whnf
  obtain ⟨x12, hx12, h⟩ := bd_some h
  refine cC 0 (spec_l22Live_c hx12) ?_
  clear hx12
  conv => whnf
  refine andI h (fun _ h => ?_) (fun _ h => ?_)
  · conv => whnf
    refine gdI h (fun h => ?_)
    conv => whnf
    obtain ⟨x14, hx14, h⟩ := bd_some h
    refine cC 0 (spec_l24Dec_c hx14) ?_
    clear hx14
    conv => whnf
    refine gdI h (fun h => ?_)
    conv => whnf
    refine gdI h (fun h => ?_)
    conv => whnf
    obtain rfl := Option.some.inj h
    exact lfP []
  · conv => whnf
    refine gdI h (fun h => ?_)
    conv => whnf
    obtain ⟨x18, hx18, h⟩ := bd_some h
    refine cC 0 (spec_l24Dec_c hx18) ?_
    clear hx18
    conv => whnf
    refine gdI h (fun h => ?_)
    conv => whnf
    refine gdI h (fun h => ?_)
    conv => whnf
    obtain rfl := Option.some.inj h
    exact lfP []

noncomputable def spec_NatBoard_m (a0 : NatBook) : Option (ByteArray) :=
 bd (spec_NatBookOk_m a0) fun x1 =>
(if (!x1) = true then
 some (⟨#[]⟩ : ByteArray)
else
 bd (spec_l24Dec_m a0.Now) fun x2 =>
 gd ((⟨#[110, 111, 119, 32]⟩ : ByteArray).size + x2.size ≤ 9223372036854775807) <|
 gd (((⟨#[110, 111, 119, 32]⟩ : ByteArray) ++ x2).size + (⟨#[10]⟩ : ByteArray).size ≤ 9223372036854775807) <|
 bd (lp (σ := ByteArray × Int) (β := (ByteArray)) (fun s5 =>
(if (decide (s5.2 < ((a0.Doors.length : Nat) : Int))) = true then
 gd ((0 : Int) ≤ s5.2 ∧ s5.2 < ((a0.Doors.length : Nat) : Int)) <|
 gd (s5.1.size + (⟨#[100, 111, 111, 114, 32]⟩ : ByteArray).size ≤ 9223372036854775807) <|
 bd (spec_l24Dec_m ((a0.Doors.getD s5.2.toNat default).Kind)) fun x11 =>
 gd ((s5.1 ++ (⟨#[100, 111, 111, 114, 32]⟩ : ByteArray)).size + x11.size ≤ 9223372036854775807) <|
 gd (((s5.1 ++ (⟨#[100, 111, 111, 114, 32]⟩ : ByteArray)) ++ x11).size + (⟨#[32]⟩ : ByteArray).size ≤ 9223372036854775807) <|
 bd (spec_l24At_m a0.Own ((a0.Doors.getD s5.2.toNat default).Outer)) fun x14 =>
 gd ((((s5.1 ++ (⟨#[100, 111, 111, 114, 32]⟩ : ByteArray)) ++ x11) ++ (⟨#[32]⟩ : ByteArray)).size + x14.size ≤ 9223372036854775807) <|
 gd (((((s5.1 ++ (⟨#[100, 111, 111, 114, 32]⟩ : ByteArray)) ++ x11) ++ (⟨#[32]⟩ : ByteArray)) ++ x14).size + (⟨#[32, 116, 111, 32]⟩ : ByteArray).size ≤ 9223372036854775807) <|
 bd (spec_l24At_m ((a0.Doors.getD s5.2.toNat default).Inner) ((a0.Doors.getD s5.2.toNat default).InnerPort)) fun x17 =>
 gd ((((((s5.1 ++ (⟨#[100, 111, 111, 114, 32]⟩ : ByteArray)) ++ x11) ++ (⟨#[32]⟩ : ByteArray)) ++ x14) ++ (⟨#[32, 116, 111, 32]⟩ : ByteArray)).size + x17.size ≤ 9223372036854775807) <|
 gd (((((((s5.1 ++ (⟨#[100, 111, 111, 114, 32]⟩ : ByteArray)) ++ x11) ++ (⟨#[32]⟩ : ByteArray)) ++ x14) ++ (⟨#[32, 116, 111, 32]⟩ : ByteArray)) ++ x17).size + (⟨#[10]⟩ : ByteArray).size ≤ 9223372036854775807) <|
 some (.inl ((((((((s5.1 ++ (⟨#[100, 111, 111, 114, 32]⟩ : ByteArray)) ++ x11) ++ (⟨#[32]⟩ : ByteArray)) ++ x14) ++ (⟨#[32, 116, 111, 32]⟩ : ByteArray)) ++ x17) ++ (⟨#[10]⟩ : ByteArray)), IntKind.i64.wrap (s5.2 + 1)))
else
 some (.inr s5.1))) ((((⟨#[110, 111, 119, 32]⟩ : ByteArray) ++ x2) ++ (⟨#[10]⟩ : ByteArray)), 0)) fun x8 =>
 bd (lp (σ := ByteArray × Int) (β := (ByteArray)) (fun s21 =>
(if (decide (s21.2 < ((a0.Entries.length : Nat) : Int))) = true then
 gd ((0 : Int) ≤ s21.2 ∧ s21.2 < ((a0.Entries.length : Nat) : Int)) <|
 bd (spec_l24Entry_m a0 (a0.Entries.getD s21.2.toNat default)) fun x26 =>
 gd (s21.1.size + x26.size ≤ 9223372036854775807) <|
 some (.inl ((s21.1 ++ x26), IntKind.i64.wrap (s21.2 + 1)))
else
 some (.inr s21.1))) (x8, 0)) fun x24 =>
 some x24)

theorem spec_NatBoard_c {a0 : NatBook} {r : ByteArray} (h : spec_NatBoard_m a0 = some r) : PureC Tryd.prog 6 [.agg [.d (.int .i64 a0.Addr), .d (.int .i64 a0.Len), .d (.int .i64 a0.Own), .d (.int .i64 a0.Low), .d (.int .i64 a0.High), .d (slD NatDoor.enc a0.Doors), .d (.int .i64 a0.Now), .d (slD NatEntry.enc a0.Entries)]] (.d (.str r)) [] := by
  refine pureC_x tOk (fn := Tryd.f6) (c := codeOf Tryd.f6) rfl rfl ?_
  unfold spec_NatBoard_m at h
  conv => whnf
  refine seq_in tOk ?_
  conv => whnf
  obtain ⟨x1, hx1, h⟩ := bd_some h
  refine cC 0 (spec_NatBookOk_c hx1) ?_
  clear hx1
  conv => whnf
  refine andI h (fun _ h => ?_) (fun _ h => ?_)
  · conv => whnf
    obtain rfl := Option.some.inj h
    exact lfP []
  · conv => whnf
    obtain ⟨x2, hx2, h⟩ := bd_some h
    refine cC 0 (spec_l24Dec_c hx2) ?_
    clear hx2
    conv => whnf
    refine gdI h (fun h => ?_)
    conv => whnf
    refine gdI h (fun h => ?_)
    conv => whnf
    refine seq_in tOk ?_
    conv => whnf
    obtain ⟨x8, hx8, h⟩ := bd_some h
    refine loop_m tOk hx8 (fun s5 => ⟨0, 65, [(1, .ref 1 0 0), (3, .d (.str s5.1)), (4, .d (.int .i64 s5.2))], [], [(1, .box 31 [.d (.int .i64 a0.Addr), .d (.int .i64 a0.Len), .d (.int .i64 a0.Own), .d (.int .i64 a0.Low), .d (.int .i64 a0.High), .d (slD NatDoor.enc a0.Doors), .d (.int .i64 a0.Now), .d (slD NatEntry.enc a0.Entries)])], []⟩) ?_ ?_
    · exact leX []
    · clear hx8
      intro s5 y6 g7 hy6
      conv => whnf
      refine seq_in tOk ?_
      conv => whnf
      refine andI g7 (fun _ g7 => ?_) (fun _ g7 => ?_)
      · conv => whnf
        refine seq_in tOk ?_
        conv => whnf
        refine gdI g7 (fun g7 => ?_)
        conv => whnf
        obtain ⟨g10, g7⟩ := gd_some g7
        obtain ⟨x11, hx11, g7⟩ := bd_some g7
        obtain ⟨g12, g7⟩ := gd_some g7
        obtain ⟨g13, g7⟩ := gd_some g7
        obtain ⟨x14, hx14, g7⟩ := bd_some g7
        obtain ⟨g15, g7⟩ := gd_some g7
        obtain ⟨g16, g7⟩ := gd_some g7
        obtain ⟨x17, hx17, g7⟩ := bd_some g7
        obtain ⟨g18, g7⟩ := gd_some g7
        obtain ⟨g19, g7⟩ := gd_some g7
        refine draw_u tOk [.u 4 0 (.d (.str x11)) [], .u 11 0 (.d (.str x14)) [], .u 18 0 (.d (.str x17)) []] 21 [] [0, 1, 0, 4, 12, 31, 63, 0, 128, 0, 512, 1948, 4095, 8191, 0, 16384, 0, 65536, 249756, 524287, 1048575] [2097151] ?_
        conv => whnf
        refine And.intro g10 ?_
        clear g10
        conv => whnf
        refine And.intro (callD_any (spec_l24Dec_c hx11) (by kernel_rfl)) ?_
        conv => whnf
        refine And.intro g12 ?_
        clear g12
        conv => whnf
        refine And.intro g13 ?_
        clear g13
        conv => whnf
        refine And.intro (callD_any (spec_l24At_c hx14) (by kernel_rfl)) ?_
        conv => whnf
        refine And.intro g15 ?_
        clear g15
        conv => whnf
        refine And.intro g16 ?_
        clear g16
        conv => whnf
        refine And.intro (callD_any (spec_l24At_c hx17) (by kernel_rfl)) ?_
        conv => whnf
        refine And.intro g18 ?_
        clear g18
        conv => whnf
        refine And.intro g19 ?_
        clear g19
        conv => whnf
        refine And.intro (by kernel_rfl) ?_
        conv => whnf
        obtain rfl := Option.some.inj g7
        exact ⟨_, rfl, leX []⟩
      · conv => whnf
        obtain rfl := Option.some.inj g7
        obtain rfl := hy6 _ rfl
        refine seq_in tOk ?_
        conv => whnf
        obtain ⟨x24, hx24, h⟩ := bd_some h
        refine loop_m tOk hx24 (fun s21 => ⟨0, 65, [(1, .ref 1 0 0), (3, .d (.str s21.1)), (6, .d (.int .i64 s21.2))], [], [(1, .box 31 [.d (.int .i64 a0.Addr), .d (.int .i64 a0.Len), .d (.int .i64 a0.Own), .d (.int .i64 a0.Low), .d (.int .i64 a0.High), .d (slD NatDoor.enc a0.Doors), .d (.int .i64 a0.Now), .d (slD NatEntry.enc a0.Entries)])], []⟩) ?_ ?_
        · exact leX []
        · clear hx24
          intro s21 y22 g23 hy22
          conv => whnf
          refine seq_in tOk ?_
          conv => whnf
          refine andI g23 (fun _ g23 => ?_) (fun _ g23 => ?_)
          · conv => whnf
            refine seq_in tOk ?_
            conv => whnf
            obtain ⟨g25, g23⟩ := gd_some g23
            obtain ⟨x26, hx26, g23⟩ := bd_some g23
            obtain ⟨g27, g23⟩ := gd_some g23
            refine draw_u tOk [.u 7 0 (.d (.str x26)) []] 9 [] [0, 0, 0, 4, 0, 28, 60, 126, 255] [511] ?_
            conv => whnf
            refine And.intro g25 ?_
            clear g25
            conv => whnf
            refine And.intro (callD_any (spec_l24Entry_c hx26) (by kernel_rfl)) ?_
            conv => whnf
            refine And.intro g27 ?_
            clear g27
            conv => whnf
            refine And.intro (by kernel_rfl) ?_
            conv => whnf
            obtain rfl := Option.some.inj g23
            exact ⟨_, rfl, leX []⟩
          · conv => whnf
            obtain rfl := Option.some.inj g23
            obtain rfl := hy22 _ rfl
            obtain rfl := Option.some.inj h
            exact lfP []

noncomputable def impl_within_m (a0 : Int) (a1 : Int) (a2 : Int) : Option (Bool) :=
 some ((decide (a1 ≤ a0)) && (decide (a0 ≤ a2)))

theorem impl_within_c {a0 : Int} {a1 : Int} {a2 : Int} {r : Bool} (h : impl_within_m a0 a1 a2 = some r) : PureC Tryd.prog 36 [.d (.int .i64 a0), .d (.int .i64 a1), .d (.int .i64 a2)] (.d (.bool r)) [] := by
  refine pureC_x tOk (fn := Tryd.f36) (c := codeOf Tryd.f36) rfl rfl ?_
  unfold impl_within_m at h
  conv => whnf
  obtain rfl := Option.some.inj h
  exact lfP []

noncomputable def impl_NetPrefix_size_m (a0 : NetPrefix) : Option (Int) :=
 gd ((0 : Int) ≤ (IntKind.i64.wrap (16 - a0.Len))) <|
 some (IntKind.i64.wrap (1 * 2 ^ min (IntKind.i64.wrap (16 - a0.Len) : Int).toNat IntKind.i64.bits))

theorem impl_NetPrefix_size_c {a0 : NetPrefix} {r : Int} (h : impl_NetPrefix_size_m a0 = some r) : PureC Tryd.prog 56 [.agg [.d (.int .i64 a0.Addr), .d (.int .i64 a0.Len)]] (.d (.int .i64 r)) [] := by
  refine pureC_x tOk (fn := Tryd.f56) (c := codeOf Tryd.f56) rfl rfl ?_
  unfold impl_NetPrefix_size_m at h
  conv => whnf
  refine gdI h (fun h => ?_)
  conv => whnf
  obtain rfl := Option.some.inj h
  exact lfP []

noncomputable def impl_NetOk_m (a0 : NetPrefix) : Option (Bool) :=
 bd (impl_within_m a0.Len 0 16) fun x1 =>
 bd (gcall (x1 = true) (impl_within_m a0.Addr 0 65535)) fun x2 =>
 bd (gcall ((x1 && x2) = true) (impl_NetPrefix_size_m a0)) fun x3 =>
 gd ((x1 && x2) = true → ((x3 : Int) ≠ 0)) <|
 some ((x1 && x2) && (((a0.Addr : Int).tmod x3) == 0))

theorem impl_NetOk_c {a0 : NetPrefix} {r : Bool} (h : impl_NetOk_m a0 = some r) : PureC Tryd.prog 35 [.agg [.d (.int .i64 a0.Addr), .d (.int .i64 a0.Len)]] (.d (.bool r)) [] := by
  refine pureC_x tOk (fn := Tryd.f35) (c := codeOf Tryd.f35) rfl rfl ?_
  unfold impl_NetOk_m at h
  conv => whnf
  obtain ⟨x1, hx1, h⟩ := bd_some h
  obtain ⟨x2, hx2, h⟩ := bd_some h
  obtain ⟨x3, hx3, h⟩ := bd_some h
  obtain ⟨g4, h⟩ := gd_some h
  refine draw_u tOk [.u 2 0 (.d (.bool x1)) [], .u 6 0 (.d (.bool x2)) [], .u 12 0 (.d (.int .i64 x3)) []] 17 [] [0, 1, 3, 7, 15, 31, 63, 127, 255, 511, 1023, 511, 2559, 8191, 16383, 32767, 65535] [] ?_
  conv => whnf
  refine And.intro (callD_any (impl_within_c hx1) (by kernel_rfl)) ?_
  conv => whnf
  refine And.intro (callDG_if rfl rfl rfl rfl (by intro c0; exact impl_within_c (gcall_some hx2 c0))) ?_
  conv => whnf
  refine And.intro (callDG_if rfl rfl rfl rfl (by intro c0; exact impl_NetPrefix_size_c (gcall_some hx3 c0))) ?_
  conv => whnf
  refine And.intro g4 ?_
  clear g4
  conv => whnf
  refine And.intro (by kernel_rfl) ?_
  conv => whnf
  obtain rfl := Option.some.inj h
  exact lfP []

noncomputable def impl_NetPrefix_last_m (a0 : NetPrefix) : Option (Int) :=
 bd (impl_NetPrefix_size_m a0) fun x1 =>
 some (IntKind.i64.wrap ((IntKind.i64.wrap (a0.Addr + x1)) - 1))

theorem impl_NetPrefix_last_c {a0 : NetPrefix} {r : Int} (h : impl_NetPrefix_last_m a0 = some r) : PureC Tryd.prog 71 [.agg [.d (.int .i64 a0.Addr), .d (.int .i64 a0.Len)]] (.d (.int .i64 r)) [] := by
  refine pureC_x tOk (fn := Tryd.f71) (c := codeOf Tryd.f71) rfl rfl ?_
  unfold impl_NetPrefix_last_m at h
  conv => whnf
  obtain ⟨x1, hx1, h⟩ := bd_some h
  refine draw_u tOk [.u 3 0 (.d (.int .i64 x1)) []] 7 [] [0, 1, 0, 4, 15, 31, 63] [] ?_
  conv => whnf
  refine And.intro (callD_any (impl_NetPrefix_size_c hx1) (by kernel_rfl)) ?_
  conv => whnf
  refine And.intro (by kernel_rfl) ?_
  conv => whnf
  obtain rfl := Option.some.inj h
  exact lfP []

noncomputable def impl_NetPrefix_has_m (a0 : NetPrefix) (a1 : Int) : Option (Bool) :=
 bd (impl_NetPrefix_last_m a0) fun x1 =>
 bd (impl_within_m a1 a0.Addr x1) fun x2 =>
 some x2

theorem impl_NetPrefix_has_c {a0 : NetPrefix} {a1 : Int} {r : Bool} (h : impl_NetPrefix_has_m a0 a1 = some r) : PureC Tryd.prog 57 [.agg [.d (.int .i64 a0.Addr), .d (.int .i64 a0.Len)], .d (.int .i64 a1)] (.d (.bool r)) [] := by
  refine pureC_x tOk (fn := Tryd.f57) (c := codeOf Tryd.f57) rfl rfl ?_
  unfold impl_NetPrefix_has_m at h
  conv => whnf
  obtain ⟨x1, hx1, h⟩ := bd_some h
  obtain ⟨x2, hx2, h⟩ := bd_some h
  refine draw_u tOk [.u 4 0 (.d (.int .i64 x1)) [], .u 5 0 (.d (.bool x2)) []] 7 [] [0, 0, 2, 0, 8, 31, 63] [] ?_
  conv => whnf
  refine And.intro (callD_any (impl_NetPrefix_last_c hx1) (by kernel_rfl)) ?_
  conv => whnf
  refine And.intro (callD_any (impl_within_c hx2) (by kernel_rfl)) ?_
  conv => whnf
  refine And.intro (by kernel_rfl) ?_
  conv => whnf
  obtain rfl := Option.some.inj h
  exact lfP []

noncomputable def impl_NatBook_inside_m (a0 : NatBook) (a1 : Int) : Option (Bool) :=
 bd (impl_NetPrefix_has_m (⟨a0.Addr, a0.Len⟩ : NetPrefix) a1) fun x1 =>
 some x1

theorem impl_NatBook_inside_c {a0 : NatBook} {a1 : Int} {r : Bool} (h : impl_NatBook_inside_m a0 a1 = some r) : PureC Tryd.prog 37 [.agg [.d (.int .i64 a0.Addr), .d (.int .i64 a0.Len), .d (.int .i64 a0.Own), .d (.int .i64 a0.Low), .d (.int .i64 a0.High), .d (slD NatDoor.enc a0.Doors), .d (.int .i64 a0.Now), .d (slD NatEntry.enc a0.Entries)], .d (.int .i64 a1)] (.d (.bool r)) [] := by
  refine pureC_x tOk (fn := Tryd.f37) (c := codeOf Tryd.f37) rfl rfl ?_
  unfold impl_NatBook_inside_m at h
  conv => whnf
  obtain ⟨x1, hx1, h⟩ := bd_some h
  refine cC 0 (impl_NetPrefix_has_c hx1) ?_
  clear hx1
  conv => whnf
  obtain rfl := Option.some.inj h
  exact lfP []

noncomputable def cmp_isNaN_int_m (a0 : Int) : Option (Bool) :=
 some (a0 != a0)

theorem cmp_isNaN_int_c {a0 : Int} {r : Bool} (h : cmp_isNaN_int_m a0 = some r) : PureC Tryd.prog 72 [.d (.int .i64 a0)] (.d (.bool r)) [] := by
  refine pureC_x tOk (fn := Tryd.f72) (c := codeOf Tryd.f72) rfl rfl ?_
  unfold cmp_isNaN_int_m at h
  conv => whnf
  obtain rfl := Option.some.inj h
  exact lfP []

noncomputable def cmp_Compare_int_m (a0 : Int) (a1 : Int) : Option (Int) :=
 bd (cmp_isNaN_int_m a0) fun x1 =>
 bd (cmp_isNaN_int_m a1) fun x2 =>
(if x1 = true then
(if x2 = true then
 some 0
else
 some (-1))
else
(if x2 = true then
 some 1
else
(if (decide (a0 < a1)) = true then
 some (-1)
else
(if (decide (a0 > a1)) = true then
 some 1
else
 some 0))))

theorem cmp_Compare_int_c {a0 : Int} {a1 : Int} {r : Int} (h : cmp_Compare_int_m a0 a1 = some r) : PureC Tryd.prog 59 [.d (.int .i64 a0), .d (.int .i64 a1)] (.d (.int .i64 r)) [] := by
  refine pureC_x tOk (fn := Tryd.f59) (c := codeOf Tryd.f59) rfl rfl ?_
  unfold cmp_Compare_int_m at h
  conv => whnf
  obtain ⟨x1, hx1, h⟩ := bd_some h
  refine cC 0 (cmp_isNaN_int_c hx1) ?_
  clear hx1
  conv => whnf
  obtain ⟨x2, hx2, h⟩ := bd_some h
  refine cC 0 (cmp_isNaN_int_c hx2) ?_
  clear hx2
  conv => whnf
  refine seq_in tOk ?_
  conv => whnf
  refine andI h (fun _ h => ?_) (fun _ h => ?_)
  · conv => whnf
    refine seq_in tOk ?_
    conv => whnf
    refine andI h (fun _ h => ?_) (fun _ h => ?_)
    · conv => whnf
      obtain rfl := Option.some.inj h
      exact lfP []
    · conv => whnf
      obtain rfl := Option.some.inj h
      exact lfP []
  · conv => whnf
    refine seq_in tOk ?_
    conv => whnf
    refine andI h (fun _ h => ?_) (fun _ h => ?_)
    · conv => whnf
      obtain rfl := Option.some.inj h
      exact lfP []
    · conv => whnf
      refine seq_in tOk ?_
      conv => whnf
      refine andI h (fun _ h => ?_) (fun _ h => ?_)
      · conv => whnf
        obtain rfl := Option.some.inj h
        exact lfP []
      · conv => whnf
        refine seq_in tOk ?_
        conv => whnf
        refine andI h (fun _ h => ?_) (fun _ h => ?_)
        · conv => whnf
          obtain rfl := Option.some.inj h
          exact lfP []
        · conv => whnf
          obtain rfl := Option.some.inj h
          exact lfP []

noncomputable def cmp_Or_int_m (a0 : (List Int)) : Option (Int) :=
 bd (lp (σ := Int) (β := (Int ⊕ Unit)) (fun s1 =>
(if (decide (s1 < ((a0.length : Nat) : Int))) = true then
 gd ((0 : Int) ≤ s1 ∧ s1 < ((a0.length : Nat) : Int)) <|
(if ((a0.getD s1.toNat default) != 0) = true then
 some (.inr (.inl (a0.getD s1.toNat default)))
else
 some (.inl (IntKind.i64.wrap (s1 + 1))))
else
 some (.inr (.inr ())))) 0) fun x4 =>
(match x4 with
| .inl d6 =>
 some d6
| .inr d7 =>
 some 0)

theorem cmp_Or_int_c {a0 : (List Int)} {r : Int} (h : cmp_Or_int_m a0 = some r) : PureC Tryd.prog 58 [.d (slD encInt a0)] (.d (.int .i64 r)) [] := by
  refine pureC_x tOk (fn := Tryd.f58) (c := codeOf Tryd.f58) rfl rfl ?_
  unfold cmp_Or_int_m at h
  conv => whnf
  refine seq_in tOk ?_
  conv => whnf
  obtain ⟨x4, hx4, h⟩ := bd_some h
  refine loop_m tOk hx4 (fun s1 => ⟨0, 18, [(3, .d (.int .i64 0)), (6, .d (slD encInt a0)), (7, .d (.int .i64 ((a0.length : Nat) : Int))), (8, .d (.int .i64 s1))], [], [], []⟩) ?_ ?_
  · exact leX []
  · clear hx4
    intro s1 y2 g3 hy2
    conv => whnf
    refine seq_in tOk ?_
    conv => whnf
    refine andI g3 (fun _ g3 => ?_) (fun _ g3 => ?_)
    · conv => whnf
      refine seq_in tOk ?_
      conv => whnf
      refine gdI g3 (fun g3 => ?_)
      conv => whnf
      refine andI g3 (fun _ g3 => ?_) (fun _ g3 => ?_)
      · conv => whnf
        obtain rfl := Option.some.inj g3
        obtain rfl := hy2 _ rfl
        obtain rfl := Option.some.inj h
        exact lfP []
      · conv => whnf
        obtain rfl := Option.some.inj g3
        exact ⟨_, rfl, leX []⟩
    · conv => whnf
      obtain rfl := Option.some.inj g3
      obtain rfl := hy2 _ rfl
      obtain rfl := Option.some.inj h
      exact lfP []

noncomputable def impl_NatBook_doorsOk_m (a0 : NatBook) : Option (Bool) :=
 bd (lp (σ := Int) (β := (Unit ⊕ Unit)) (fun s1 =>
(if (decide (s1 < ((a0.Doors.length : Nat) : Int))) = true then
 gd ((0 : Int) ≤ s1 ∧ s1 < ((a0.Doors.length : Nat) : Int)) <|
 bd (impl_within_m ((a0.Doors.getD s1.toNat default).Kind) 1 7) fun x6 =>
 bd (gcall ((!x6) = false) (impl_within_m ((a0.Doors.getD s1.toNat default).Outer) 1 65535)) fun x7 =>
 bd (gcall (((!x6) || (!x7)) = false) (impl_within_m ((a0.Doors.getD s1.toNat default).Outer) a0.Low a0.High)) fun x8 =>
 bd (gcall ((((!x6) || (!x7)) || x8) = false) (impl_NatBook_inside_m a0 ((a0.Doors.getD s1.toNat default).Inner))) fun x9 =>
 bd (gcall (((((!x6) || (!x7)) || x8) || (!x9)) = false) (impl_within_m ((a0.Doors.getD s1.toNat default).InnerPort) 1 65535)) fun x10 =>
(if (((((!x6) || (!x7)) || x8) || (!x9)) || (!x10)) = true then
 some (.inr (.inl ()))
else
 gd ((decide (s1 > 0)) = true → ((0 : Int) ≤ IntKind.i64.wrap (s1 - 1) ∧ IntKind.i64.wrap (s1 - 1) < ((a0.Doors.length : Nat) : Int))) <|
 bd (gcall ((decide (s1 > 0)) = true) (cmp_Compare_int_m ((a0.Doors.getD ((IntKind.i64.wrap (s1 - 1)).toNat) default).Kind) ((a0.Doors.getD s1.toNat default).Kind))) fun x12 =>
 gd ((decide (s1 > 0)) = true → ((0 : Int) ≤ IntKind.i64.wrap (s1 - 1) ∧ IntKind.i64.wrap (s1 - 1) < ((a0.Doors.length : Nat) : Int))) <|
 bd (gcall ((decide (s1 > 0)) = true) (cmp_Compare_int_m ((a0.Doors.getD ((IntKind.i64.wrap (s1 - 1)).toNat) default).Outer) ((a0.Doors.getD s1.toNat default).Outer))) fun x14 =>
 bd (gcall ((decide (s1 > 0)) = true) (cmp_Or_int_m ([x12, x14] : List Int))) fun x15 =>
(if ((decide (s1 > 0)) && (decide (x15 ≥ 0))) = true then
 some (.inr (.inl ()))
else
 gd ((0 : Int) ≤ (0 : Int) ∧ (0 : Int) ≤ s1 ∧ s1 ≤ ((a0.Doors.length : Nat) : Int)) <|
 bd (lp (σ := Int) (β := (Unit ⊕ Unit)) (fun s17 =>
(if (decide (s17 < ((s1.toNat : Nat) : Int))) = true then
 gd ((0 : Int) ≤ s17 ∧ s17 < ((s1.toNat : Nat) : Int)) <|
(if (((((a0.Doors.getD s17.toNat default).Kind) == ((a0.Doors.getD s1.toNat default).Kind)) && (((a0.Doors.getD s17.toNat default).Inner) == ((a0.Doors.getD s1.toNat default).Inner))) && (((a0.Doors.getD s17.toNat default).InnerPort) == ((a0.Doors.getD s1.toNat default).InnerPort))) = true then
 some (.inr (.inl ()))
else
 some (.inl (IntKind.i64.wrap (s17 + 1))))
else
 some (.inr (.inr ())))) 0) fun x20 =>
(match x20 with
| .inl d22 =>
 some (.inr (.inl ()))
| .inr d23 =>
 some (.inl (IntKind.i64.wrap (s1 + 1))))))
else
 some (.inr (.inr ())))) 0) fun x4 =>
(match x4 with
| .inl d24 =>
 some false
| .inr d25 =>
 some (decide (((a0.Doors.length : Nat) : Int) ≤ 6)))

theorem impl_NatBook_doorsOk_c {a0 : NatBook} {r : Bool} (h : impl_NatBook_doorsOk_m a0 = some r) : PureC Tryd.prog 38 [.agg [.d (.int .i64 a0.Addr), .d (.int .i64 a0.Len), .d (.int .i64 a0.Own), .d (.int .i64 a0.Low), .d (.int .i64 a0.High), .d (slD NatDoor.enc a0.Doors), .d (.int .i64 a0.Now), .d (slD NatEntry.enc a0.Entries)]] (.d (.bool r)) [] := by
  refine pureC_x tOk (fn := Tryd.f38) (c := codeOf Tryd.f38) rfl rfl ?_
  unfold impl_NatBook_doorsOk_m at h
  conv => whnf
  refine seq_in tOk ?_
  conv => whnf
  obtain ⟨x4, hx4, h⟩ := bd_some h
  refine loop_m tOk hx4 (fun s1 => ⟨0, 108, [(1, .ref 1 0 0), (8, .d (slD NatDoor.enc a0.Doors)), (9, .d (.int .i64 ((a0.Doors.length : Nat) : Int))), (10, .d (.int .i64 s1))], [], [(1, .box 31 [.d (.int .i64 a0.Addr), .d (.int .i64 a0.Len), .d (.int .i64 a0.Own), .d (.int .i64 a0.Low), .d (.int .i64 a0.High), .d (slD NatDoor.enc a0.Doors), .d (.int .i64 a0.Now), .d (slD NatEntry.enc a0.Entries)])], []⟩) ?_ ?_
  · exact leX []
  · clear hx4
    intro s1 y2 g3 hy2
    conv => whnf
    refine seq_in tOk ?_
    conv => whnf
    refine andI g3 (fun _ g3 => ?_) (fun _ g3 => ?_)
    · conv => whnf
      refine seq_in tOk ?_
      conv => whnf
      refine gdI g3 (fun g3 => ?_)
      conv => whnf
      refine seq_in tOk ?_
      conv => whnf
      obtain ⟨x6, hx6, g3⟩ := bd_some g3
      refine cC 0 (impl_within_c hx6) ?_
      clear hx6
      conv => whnf
      obtain ⟨x7, hx7, g3⟩ := bd_some g3
      refine cG (fun c0 => impl_within_c (gcall_some hx7 c0)) ?_
      conv => whnf
      obtain ⟨x8, hx8, g3⟩ := bd_some g3
      refine cG (fun c0 => impl_within_c (gcall_some hx8 c0)) ?_
      conv => whnf
      obtain ⟨x9, hx9, g3⟩ := bd_some g3
      refine cG (fun c0 => impl_NatBook_inside_c (gcall_some hx9 c0)) ?_
      conv => whnf
      obtain ⟨x10, hx10, g3⟩ := bd_some g3
      refine cG (fun c0 => impl_within_c (gcall_some hx10 c0)) ?_
      conv => whnf
      refine andI g3 (fun _ g3 => ?_) (fun _ g3 => ?_)
      · conv => whnf
        obtain rfl := Option.some.inj g3
        obtain rfl := hy2 _ rfl
        obtain rfl := Option.some.inj h
        exact lfP []
      · conv => whnf
        refine seq_in tOk ?_
        conv => whnf
        obtain ⟨g11, g3⟩ := gd_some g3
        obtain ⟨x12, hx12, g3⟩ := bd_some g3
        obtain ⟨g13, g3⟩ := gd_some g3
        obtain ⟨x14, hx14, g3⟩ := bd_some g3
        obtain ⟨x15, hx15, g3⟩ := bd_some g3
        refine draw_u tOk [.u 12 0 (.d (.int .i64 x12)) [], .u 22 0 (.d (.int .i64 x14)) [], .u 24 0 (.d (.int .i64 x15)) []] 27 [] [0, 1, 3, 7, 15, 7, 39, 127, 255, 511, 7, 1031, 4095, 7, 8199, 7, 32775, 122887, 253959, 516103, 7, 1048583, 4194303, 8388607, 16777215, 33554431, 67108863] [] ?_
        conv => whnf
        refine And.intro g11 ?_
        clear g11
        conv => whnf
        refine And.intro (callDG_if rfl rfl rfl rfl (by intro c0; exact cmp_Compare_int_c (gcall_some hx12 c0))) ?_
        conv => whnf
        refine And.intro g13 ?_
        clear g13
        conv => whnf
        refine And.intro (callDG_if rfl rfl rfl rfl (by intro c0; exact cmp_Compare_int_c (gcall_some hx14 c0))) ?_
        conv => whnf
        refine And.intro (callDG_if rfl rfl rfl rfl (by intro c0;  exact (cmp_Or_int_c (gcall_some hx15 c0)).le argA)) ?_
        conv => whnf
        refine And.intro (by kernel_rfl) ?_
        conv => whnf
        refine andI g3 (fun _ g3 => ?_) (fun _ g3 => ?_)
        · conv => whnf
          obtain rfl := Option.some.inj g3
          obtain rfl := hy2 _ rfl
          obtain rfl := Option.some.inj h
          exact lfP []
        · conv => whnf
          obtain ⟨g16, g3⟩ := gd_some g3
          refine And.intro ⟨g16, .inr rfl⟩ ?_
          conv => whnf
          obtain ⟨x20, hx20, g3⟩ := bd_some g3
          refine loop_m tOk hx20 (fun s17 => ⟨0, 108, [(1, .ref 1 0 0), (4, .ref 4 0 0), (8, .d (slD NatDoor.enc a0.Doors)), (9, .d (.int .i64 ((a0.Doors.length : Nat) : Int))), (10, .d (.int .i64 s1)), (77, .d (.sl s1.toNat (rows NatDoor.enc a0.Doors))), (78, .d (.int .i64 ((s1.toNat : Nat) : Int))), (79, .d (.int .i64 s17))], [], [(4, .box 43 [.d (.int .i64 ((a0.Doors.getD s1.toNat default).Kind)), .d (.int .i64 ((a0.Doors.getD s1.toNat default).Outer)), .d (.int .i64 ((a0.Doors.getD s1.toNat default).Inner)), .d (.int .i64 ((a0.Doors.getD s1.toNat default).InnerPort))]), (1, .box 31 [.d (.int .i64 a0.Addr), .d (.int .i64 a0.Len), .d (.int .i64 a0.Own), .d (.int .i64 a0.Low), .d (.int .i64 a0.High), .d (slD NatDoor.enc a0.Doors), .d (.int .i64 a0.Now), .d (slD NatEntry.enc a0.Entries)])], []⟩) ?_ ?_
          · exact leX []
          · clear hx20
            intro s17 y18 g19 hy18
            conv => whnf
            refine seq_in tOk ?_
            conv => whnf
            refine andI g19 (fun _ g19 => ?_) (fun _ g19 => ?_)
            · conv => whnf
              refine seq_in tOk ?_
              conv => whnf
              refine gdI g19 (fun g19 => ?_)
              conv => whnf
              refine andI g19 (fun _ g19 => ?_) (fun _ g19 => ?_)
              · conv => whnf
                obtain rfl := Option.some.inj g19
                obtain rfl := hy18 _ rfl
                obtain rfl := Option.some.inj g3
                obtain rfl := hy2 _ rfl
                obtain rfl := Option.some.inj h
                exact lfP []
              · conv => whnf
                obtain rfl := Option.some.inj g19
                exact ⟨_, rfl, leX []⟩
            · conv => whnf
              obtain rfl := Option.some.inj g19
              obtain rfl := hy18 _ rfl
              obtain rfl := Option.some.inj g3
              exact ⟨_, rfl, leX []⟩
    · conv => whnf
      obtain rfl := Option.some.inj g3
      obtain rfl := hy2 _ rfl
      obtain rfl := Option.some.inj h
      exact lfP []

noncomputable def impl_NatEntry_flow_m (a0 : NatEntry) : Option (NatFlow) :=
 some (⟨a0.Kind, a0.Inner, a0.InnerPort, a0.Peer, a0.PeerPort⟩ : NatFlow)

theorem impl_NatEntry_flow_c {a0 : NatEntry} {r : NatFlow} (h : impl_NatEntry_flow_m a0 = some r) : PureC Tryd.prog 62 [.agg [.d (.int .i64 a0.Kind), .d (.int .i64 a0.Peer), .d (.int .i64 a0.PeerPort), .d (.int .i64 a0.Outer), .d (.int .i64 a0.Inner), .d (.int .i64 a0.InnerPort), .d (.int .i64 a0.Last)]] (.agg [.d (.int .i64 r.Kind), .d (.int .i64 r.From), .d (.int .i64 r.FromPort), .d (.int .i64 r.To), .d (.int .i64 r.ToPort)]) [] := by
  refine pureC_x tOk (fn := Tryd.f62) (c := codeOf Tryd.f62) rfl rfl ?_
  unfold impl_NatEntry_flow_m at h
  conv => whnf
  obtain rfl := Option.some.inj h
  exact lfP []

noncomputable def impl_NatFlowOk_m (a0 : NatFlow) : Option (Bool) :=
 bd (impl_within_m a0.Kind 1 7) fun x1 =>
 bd (gcall (x1 = true) (impl_within_m a0.From 0 65535)) fun x2 =>
 bd (gcall ((x1 && x2) = true) (impl_within_m a0.To 0 65535)) fun x3 =>
 bd (gcall (((x1 && x2) && x3) = true) (impl_within_m a0.FromPort 1 65535)) fun x4 =>
 bd (gcall ((((x1 && x2) && x3) && x4) = true) (impl_within_m a0.ToPort 1 65535)) fun x5 =>
 some ((((x1 && x2) && x3) && x4) && x5)

theorem impl_NatFlowOk_c {a0 : NatFlow} {r : Bool} (h : impl_NatFlowOk_m a0 = some r) : PureC Tryd.prog 73 [.agg [.d (.int .i64 a0.Kind), .d (.int .i64 a0.From), .d (.int .i64 a0.FromPort), .d (.int .i64 a0.To), .d (.int .i64 a0.ToPort)]] (.d (.bool r)) [] := by
  refine pureC_x tOk (fn := Tryd.f73) (c := codeOf Tryd.f73) rfl rfl ?_
  unfold impl_NatFlowOk_m at h
  conv => whnf
  obtain ⟨x1, hx1, h⟩ := bd_some h
  refine cC 0 (impl_within_c hx1) ?_
  clear hx1
  conv => whnf
  obtain ⟨x2, hx2, h⟩ := bd_some h
  refine cG (fun c0 => impl_within_c (gcall_some hx2 c0)) ?_
  conv => whnf
  obtain ⟨x3, hx3, h⟩ := bd_some h
  refine cG (fun c0 => impl_within_c (gcall_some hx3 c0)) ?_
  conv => whnf
  obtain ⟨x4, hx4, h⟩ := bd_some h
  refine cG (fun c0 => impl_within_c (gcall_some hx4 c0)) ?_
  conv => whnf
  obtain ⟨x5, hx5, h⟩ := bd_some h
  refine cG (fun c0 => impl_within_c (gcall_some hx5 c0)) ?_
  conv => whnf
  obtain rfl := Option.some.inj h
  exact lfP []

noncomputable def impl_NatBook_age_m (a0 : NatBook) (a1 : NatEntry) : Option (Int) :=
 some (IntKind.i64.wrap (a0.Now - a1.Last))

theorem impl_NatBook_age_c {a0 : NatBook} {a1 : NatEntry} {r : Int} (h : impl_NatBook_age_m a0 a1 = some r) : PureC Tryd.prog 23 [.agg [.d (.int .i64 a0.Addr), .d (.int .i64 a0.Len), .d (.int .i64 a0.Own), .d (.int .i64 a0.Low), .d (.int .i64 a0.High), .d (slD NatDoor.enc a0.Doors), .d (.int .i64 a0.Now), .d (slD NatEntry.enc a0.Entries)], .agg [.d (.int .i64 a1.Kind), .d (.int .i64 a1.Peer), .d (.int .i64 a1.PeerPort), .d (.int .i64 a1.Outer), .d (.int .i64 a1.Inner), .d (.int .i64 a1.InnerPort), .d (.int .i64 a1.Last)]] (.d (.int .i64 r)) [] := by
  refine pureC_x tOk (fn := Tryd.f23) (c := codeOf Tryd.f23) rfl rfl ?_
  unfold impl_NatBook_age_m at h
  conv => whnf
  obtain rfl := Option.some.inj h
  exact lfP []

noncomputable def impl_NatBook_entryOk_m (a0 : NatBook) (a1 : NatEntry) : Option (Bool) :=
 bd (impl_NatEntry_flow_m a1) fun x1 =>
 bd (impl_NatFlowOk_m x1) fun x2 =>
 bd (gcall (x2 = true) (impl_within_m a1.Outer a0.Low a0.High)) fun x3 =>
 bd (gcall ((x2 && x3) = true) (impl_NatBook_inside_m a0 a1.Inner)) fun x4 =>
 bd (gcall (((x2 && x3) && x4) = true) (impl_NatBook_inside_m a0 a1.Peer)) fun x5 =>
 bd (gcall (((((x2 && x3) && x4) && (!x5)) && (a1.Peer != a0.Own)) = true) (impl_within_m a1.Last 0 a0.Now)) fun x6 =>
 bd (gcall ((((((x2 && x3) && x4) && (!x5)) && (a1.Peer != a0.Own)) && x6) = true) (impl_NatBook_age_m a0 a1)) fun x7 =>
 some ((((((x2 && x3) && x4) && (!x5)) && (a1.Peer != a0.Own)) && x6) && (decide (x7 < 12)))

theorem impl_NatBook_entryOk_c {a0 : NatBook} {a1 : NatEntry} {r : Bool} (h : impl_NatBook_entryOk_m a0 a1 = some r) : PureC Tryd.prog 60 [.agg [.d (.int .i64 a0.Addr), .d (.int .i64 a0.Len), .d (.int .i64 a0.Own), .d (.int .i64 a0.Low), .d (.int .i64 a0.High), .d (slD NatDoor.enc a0.Doors), .d (.int .i64 a0.Now), .d (slD NatEntry.enc a0.Entries)], .agg [.d (.int .i64 a1.Kind), .d (.int .i64 a1.Peer), .d (.int .i64 a1.PeerPort), .d (.int .i64 a1.Outer), .d (.int .i64 a1.Inner), .d (.int .i64 a1.InnerPort), .d (.int .i64 a1.Last)]] (.d (.bool r)) [] := by
  refine pureC_x tOk (fn := Tryd.f60) (c := codeOf Tryd.f60) rfl rfl ?_
  unfold impl_NatBook_entryOk_m at h
  conv => whnf
  obtain ⟨x1, hx1, h⟩ := bd_some h
  refine cC 0 (impl_NatEntry_flow_c hx1) ?_
  clear hx1
  conv => whnf
  obtain ⟨x2, hx2, h⟩ := bd_some h
  refine cC 0 (impl_NatFlowOk_c hx2) ?_
  clear hx2
  conv => whnf
  obtain ⟨x3, hx3, h⟩ := bd_some h
  refine cG (fun c0 => impl_within_c (gcall_some hx3 c0)) ?_
  conv => whnf
  obtain ⟨x4, hx4, h⟩ := bd_some h
  refine cG (fun c0 => impl_NatBook_inside_c (gcall_some hx4 c0)) ?_
  conv => whnf
  obtain ⟨x5, hx5, h⟩ := bd_some h
  refine cG (fun c0 => impl_NatBook_inside_c (gcall_some hx5 c0)) ?_
  conv => whnf
  obtain ⟨x6, hx6, h⟩ := bd_some h
  refine cG (fun c0 => impl_within_c (gcall_some hx6 c0)) ?_
  conv => whnf
  obtain ⟨x7, hx7, h⟩ := bd_some h
  refine cG (fun c0 => impl_NatBook_age_c (gcall_some hx7 c0)) ?_
  conv => whnf
  obtain rfl := Option.some.inj h
  exact lfP []

noncomputable def impl_NatEntry_compare_m (a0 : NatEntry) (a1 : NatEntry) : Option (Int) :=
 bd (cmp_Compare_int_m a0.Kind a1.Kind) fun x1 =>
 bd (cmp_Compare_int_m a0.Peer a1.Peer) fun x2 =>
 bd (cmp_Compare_int_m a0.PeerPort a1.PeerPort) fun x3 =>
 bd (cmp_Compare_int_m a0.Outer a1.Outer) fun x4 =>
 bd (cmp_Or_int_m ([x1, x2, x3, x4] : List Int)) fun x5 =>
 some x5

theorem impl_NatEntry_compare_c {a0 : NatEntry} {a1 : NatEntry} {r : Int} (h : impl_NatEntry_compare_m a0 a1 = some r) : PureC Tryd.prog 61 [.agg [.d (.int .i64 a0.Kind), .d (.int .i64 a0.Peer), .d (.int .i64 a0.PeerPort), .d (.int .i64 a0.Outer), .d (.int .i64 a0.Inner), .d (.int .i64 a0.InnerPort), .d (.int .i64 a0.Last)], .agg [.d (.int .i64 a1.Kind), .d (.int .i64 a1.Peer), .d (.int .i64 a1.PeerPort), .d (.int .i64 a1.Outer), .d (.int .i64 a1.Inner), .d (.int .i64 a1.InnerPort), .d (.int .i64 a1.Last)]] (.d (.int .i64 r)) [] := by
  refine pureC_x tOk (fn := Tryd.f61) (c := codeOf Tryd.f61) rfl rfl ?_
  unfold impl_NatEntry_compare_m at h
  conv => whnf
  obtain ⟨x1, hx1, h⟩ := bd_some h
  obtain ⟨x2, hx2, h⟩ := bd_some h
  obtain ⟨x3, hx3, h⟩ := bd_some h
  obtain ⟨x4, hx4, h⟩ := bd_some h
  obtain ⟨x5, hx5, h⟩ := bd_some h
  refine draw_u tOk [.u 4 0 (.d (.int .i64 x1)) [], .u 9 0 (.d (.int .i64 x2)) [], .u 14 0 (.d (.int .i64 x3)) [], .u 19 0 (.d (.int .i64 x4)) [], .u 21 0 (.d (.int .i64 x5)) []] 23 [] [0, 1, 0, 4, 15, 0, 32, 0, 128, 511, 0, 1024, 0, 4096, 16383, 0, 32768, 0, 131072, 524287, 1048575, 2097151, 4194303] [] ?_
  conv => whnf
  refine And.intro (callD_any (cmp_Compare_int_c hx1) (by kernel_rfl)) ?_
  conv => whnf
  refine And.intro (callD_any (cmp_Compare_int_c hx2) (by kernel_rfl)) ?_
  conv => whnf
  refine And.intro (callD_any (cmp_Compare_int_c hx3) (by kernel_rfl)) ?_
  conv => whnf
  refine And.intro (callD_any (cmp_Compare_int_c hx4) (by kernel_rfl)) ?_
  conv => whnf
  refine bldS (enc := encInt) ([x1, x2, x3, x4] : List Int) ?_
  conv => whnf
  refine And.intro (callD_any (cmp_Or_int_c hx5) (by kernel_rfl)) ?_
  conv => whnf
  refine And.intro (by kernel_rfl) ?_
  conv => whnf
  obtain rfl := Option.some.inj h
  exact lfP []

noncomputable def impl_NatBook_lives_m (a0 : NatBook) (a1 : NatEntry) : Option (Bool) :=
 bd (impl_NatBook_age_m a0 a1) fun x1 =>
 some (decide (x1 < 8))

theorem impl_NatBook_lives_c {a0 : NatBook} {a1 : NatEntry} {r : Bool} (h : impl_NatBook_lives_m a0 a1 = some r) : PureC Tryd.prog 24 [.agg [.d (.int .i64 a0.Addr), .d (.int .i64 a0.Len), .d (.int .i64 a0.Own), .d (.int .i64 a0.Low), .d (.int .i64 a0.High), .d (slD NatDoor.enc a0.Doors), .d (.int .i64 a0.Now), .d (slD NatEntry.enc a0.Entries)], .agg [.d (.int .i64 a1.Kind), .d (.int .i64 a1.Peer), .d (.int .i64 a1.PeerPort), .d (.int .i64 a1.Outer), .d (.int .i64 a1.Inner), .d (.int .i64 a1.InnerPort), .d (.int .i64 a1.Last)]] (.d (.bool r)) [] := by
  refine pureC_x tOk (fn := Tryd.f24) (c := codeOf Tryd.f24) rfl rfl ?_
  unfold impl_NatBook_lives_m at h
  conv => whnf
  obtain ⟨x1, hx1, h⟩ := bd_some h
  refine cC 0 (impl_NatBook_age_c hx1) ?_
  clear hx1
  conv => whnf
  obtain rfl := Option.some.inj h
  exact lfP []

noncomputable def impl_NatBook_entriesOk_m (a0 : NatBook) : Option (Bool) :=
 bd (lp (σ := Int) (β := (Unit ⊕ Unit)) (fun s1 =>
(if (decide (s1 < ((a0.Entries.length : Nat) : Int))) = true then
 gd ((0 : Int) ≤ s1 ∧ s1 < ((a0.Entries.length : Nat) : Int)) <|
 bd (impl_NatBook_entryOk_m a0 (a0.Entries.getD s1.toNat default)) fun x6 =>
 gd ((decide (s1 > 0)) = true → ((!x6) = false → ((0 : Int) ≤ IntKind.i64.wrap (s1 - 1) ∧ IntKind.i64.wrap (s1 - 1) < ((a0.Entries.length : Nat) : Int)))) <|
 bd (gcall ((decide (s1 > 0)) = true ∧ (!x6) = false) (impl_NatEntry_compare_m (a0.Entries.getD ((IntKind.i64.wrap (s1 - 1)).toNat) default) (a0.Entries.getD s1.toNat default))) fun x8 =>
(if ((!x6) || ((decide (s1 > 0)) && (decide (x8 ≥ 0)))) = true then
 some (.inr (.inl ()))
else
 gd ((0 : Int) ≤ (0 : Int) ∧ (0 : Int) ≤ s1 ∧ s1 ≤ ((a0.Entries.length : Nat) : Int)) <|
 bd (lp (σ := Int) (β := (Unit ⊕ Unit)) (fun s10 =>
(if (decide (s10 < ((s1.toNat : Nat) : Int))) = true then
 gd ((0 : Int) ≤ s10 ∧ s10 < ((s1.toNat : Nat) : Int)) <|
 bd (impl_NatBook_lives_m a0 (a0.Entries.getD s1.toNat default)) fun x15 =>
 bd (gcall (x15 = true) (impl_NatBook_lives_m a0 (a0.Entries.getD s10.toNat default))) fun x16 =>
 bd (gcall ((x15 && x16) = true) (impl_NatEntry_flow_m (a0.Entries.getD s1.toNat default))) fun x17 =>
 bd (gcall ((x15 && x16) = true) (impl_NatEntry_flow_m (a0.Entries.getD s10.toNat default))) fun x18 =>
(if ((x15 && x16) && ((x17.Kind == x18.Kind) && ((x17.From == x18.From) && ((x17.FromPort == x18.FromPort) && ((x17.To == x18.To) && ((x17.ToPort == x18.ToPort) && true)))))) = true then
 some (.inr (.inl ()))
else
 some (.inl (IntKind.i64.wrap (s10 + 1))))
else
 some (.inr (.inr ())))) 0) fun x13 =>
(match x13 with
| .inl d19 =>
 some (.inr (.inl ()))
| .inr d20 =>
 some (.inl (IntKind.i64.wrap (s1 + 1)))))
else
 some (.inr (.inr ())))) 0) fun x4 =>
(match x4 with
| .inl d21 =>
 some false
| .inr d22 =>
 some (decide (((a0.Entries.length : Nat) : Int) ≤ 16)))

theorem impl_NatBook_entriesOk_c {a0 : NatBook} {r : Bool} (h : impl_NatBook_entriesOk_m a0 = some r) : PureC Tryd.prog 39 [.agg [.d (.int .i64 a0.Addr), .d (.int .i64 a0.Len), .d (.int .i64 a0.Own), .d (.int .i64 a0.Low), .d (.int .i64 a0.High), .d (slD NatDoor.enc a0.Doors), .d (.int .i64 a0.Now), .d (slD NatEntry.enc a0.Entries)]] (.d (.bool r)) [] := by
  refine pureC_x tOk (fn := Tryd.f39) (c := codeOf Tryd.f39) rfl rfl ?_
  unfold impl_NatBook_entriesOk_m at h
  conv => whnf
  refine seq_in tOk ?_
  conv => whnf
  obtain ⟨x4, hx4, h⟩ := bd_some h
  refine loop_m tOk hx4 (fun s1 => ⟨0, 64, [(1, .ref 1 0 0), (8, .d (slD NatEntry.enc a0.Entries)), (9, .d (.int .i64 ((a0.Entries.length : Nat) : Int))), (10, .d (.int .i64 s1))], [], [(1, .box 31 [.d (.int .i64 a0.Addr), .d (.int .i64 a0.Len), .d (.int .i64 a0.Own), .d (.int .i64 a0.Low), .d (.int .i64 a0.High), .d (slD NatDoor.enc a0.Doors), .d (.int .i64 a0.Now), .d (slD NatEntry.enc a0.Entries)])], []⟩) ?_ ?_
  · exact leX []
  · clear hx4
    intro s1 y2 g3 hy2
    conv => whnf
    refine seq_in tOk ?_
    conv => whnf
    refine andI g3 (fun _ g3 => ?_) (fun _ g3 => ?_)
    · conv => whnf
      refine seq_in tOk ?_
      conv => whnf
      refine gdI g3 (fun g3 => ?_)
      conv => whnf
      refine seq_in tOk ?_
      conv => whnf
      obtain ⟨x6, hx6, g3⟩ := bd_some g3
      obtain ⟨g7, g3⟩ := gd_some g3
      obtain ⟨x8, hx8, g3⟩ := bd_some g3
      refine draw_u tOk [.u 2 0 (.d (.bool x6)) [], .u 15 0 (.d (.int .i64 x8)) []] 19 [] [0, 0, 3, 7, 15, 31, 63, 127, 255, 511, 255, 1279, 4095, 8191, 255, 32767, 65535, 131071, 262143] [] ?_
      conv => whnf
      refine And.intro (callD_any (impl_NatBook_entryOk_c hx6) (by kernel_rfl)) ?_
      conv => whnf
      refine And.intro g7 ?_
      clear g7
      conv => whnf
      refine And.intro (callDG_if rfl rfl rfl rfl (by intro c0 c1; exact impl_NatEntry_compare_c (gcall_some hx8 ⟨c0, c1⟩))) ?_
      conv => whnf
      refine And.intro (by kernel_rfl) ?_
      conv => whnf
      refine andI g3 (fun _ g3 => ?_) (fun _ g3 => ?_)
      · conv => whnf
        obtain rfl := Option.some.inj g3
        obtain rfl := hy2 _ rfl
        obtain rfl := Option.some.inj h
        exact lfP []
      · conv => whnf
        obtain ⟨g9, g3⟩ := gd_some g3
        refine And.intro ⟨g9, .inr rfl⟩ ?_
        conv => whnf
        obtain ⟨x13, hx13, g3⟩ := bd_some g3
        refine loop_m tOk hx13 (fun s10 => ⟨0, 64, [(1, .ref 1 0 0), (4, .ref 4 0 0), (8, .d (slD NatEntry.enc a0.Entries)), (9, .d (.int .i64 ((a0.Entries.length : Nat) : Int))), (10, .d (.int .i64 s1)), (37, .d (.sl s1.toNat (rows NatEntry.enc a0.Entries))), (38, .d (.int .i64 ((s1.toNat : Nat) : Int))), (39, .d (.int .i64 s10))], [], [(4, .box 47 [.d (.int .i64 ((a0.Entries.getD s1.toNat default).Kind)), .d (.int .i64 ((a0.Entries.getD s1.toNat default).Peer)), .d (.int .i64 ((a0.Entries.getD s1.toNat default).PeerPort)), .d (.int .i64 ((a0.Entries.getD s1.toNat default).Outer)), .d (.int .i64 ((a0.Entries.getD s1.toNat default).Inner)), .d (.int .i64 ((a0.Entries.getD s1.toNat default).InnerPort)), .d (.int .i64 ((a0.Entries.getD s1.toNat default).Last))]), (1, .box 31 [.d (.int .i64 a0.Addr), .d (.int .i64 a0.Len), .d (.int .i64 a0.Own), .d (.int .i64 a0.Low), .d (.int .i64 a0.High), .d (slD NatDoor.enc a0.Doors), .d (.int .i64 a0.Now), .d (slD NatEntry.enc a0.Entries)])], []⟩) ?_ ?_
        · exact leX []
        · clear hx13
          intro s10 y11 g12 hy11
          conv => whnf
          refine seq_in tOk ?_
          conv => whnf
          refine andI g12 (fun _ g12 => ?_) (fun _ g12 => ?_)
          · conv => whnf
            refine seq_in tOk ?_
            conv => whnf
            refine gdI g12 (fun g12 => ?_)
            conv => whnf
            obtain ⟨x15, hx15, g12⟩ := bd_some g12
            obtain ⟨x16, hx16, g12⟩ := bd_some g12
            obtain ⟨x17, hx17, g12⟩ := bd_some g12
            obtain ⟨x18, hx18, g12⟩ := bd_some g12
            refine draw_u tOk [.u 2 0 (.d (.bool x15)) [], .u 6 0 (.d (.bool x16)) [], .u 10 0 (.agg [.d (.int .i64 x17.Kind), .d (.int .i64 x17.From), .d (.int .i64 x17.FromPort), .d (.int .i64 x17.To), .d (.int .i64 x17.ToPort)]) [], .u 12 0 (.agg [.d (.int .i64 x18.Kind), .d (.int .i64 x18.From), .d (.int .i64 x18.FromPort), .d (.int .i64 x18.To), .d (.int .i64 x18.ToPort)]) []] 15 [] [0, 0, 3, 7, 15, 15, 63, 127, 255, 511, 1023, 511, 4095, 8191, 16383] [] ?_
            conv => whnf
            refine And.intro (callD_any (impl_NatBook_lives_c hx15) (by kernel_rfl)) ?_
            conv => whnf
            refine And.intro (callDG_if rfl rfl rfl rfl (by intro c0; exact impl_NatBook_lives_c (gcall_some hx16 c0))) ?_
            conv => whnf
            refine And.intro (callDG_if rfl rfl rfl rfl (by intro c0; exact impl_NatEntry_flow_c (gcall_some hx17 c0))) ?_
            conv => whnf
            refine And.intro (callDG_if rfl rfl rfl rfl (by intro c0; exact impl_NatEntry_flow_c (gcall_some hx18 c0))) ?_
            conv => whnf
            refine And.intro (by kernel_rfl) ?_
            conv => whnf
            refine andI g12 (fun _ g12 => ?_) (fun _ g12 => ?_)
            · conv => whnf
              obtain rfl := Option.some.inj g12
              obtain rfl := hy11 _ rfl
              obtain rfl := Option.some.inj g3
              obtain rfl := hy2 _ rfl
              obtain rfl := Option.some.inj h
              exact lfP []
            · conv => whnf
              obtain rfl := Option.some.inj g12
              exact ⟨_, rfl, leX []⟩
          · conv => whnf
            obtain rfl := Option.some.inj g12
            obtain rfl := hy11 _ rfl
            obtain rfl := Option.some.inj g3
            exact ⟨_, rfl, leX []⟩
    · conv => whnf
      obtain rfl := Option.some.inj g3
      obtain rfl := hy2 _ rfl
      obtain rfl := Option.some.inj h
      exact lfP []

noncomputable def impl_NatBookOk_m (a0 : NatBook) : Option (Bool) :=
 bd (impl_NetOk_m (⟨a0.Addr, a0.Len⟩ : NetPrefix)) fun x1 =>
 bd (gcall ((!x1) = false) (impl_within_m a0.Own 0 65535)) fun x2 =>
 bd (gcall (((!x1) || (!x2)) = false) (impl_NatBook_inside_m a0 a0.Own)) fun x3 =>
 bd (gcall (((((((!x1) || (!x2)) || x3) || (decide (a0.Low < 1))) || (decide (a0.Low > a0.High))) || (decide (a0.High > 65535))) = false) (impl_within_m a0.Now 0 1000000)) fun x4 =>
(if (((((((!x1) || (!x2)) || x3) || (decide (a0.Low < 1))) || (decide (a0.Low > a0.High))) || (decide (a0.High > 65535))) || (!x4)) = true then
 some false
else
 bd (impl_NatBook_doorsOk_m a0) fun x5 =>
 bd (gcall (x5 = true) (impl_NatBook_entriesOk_m a0)) fun x6 =>
 some (x5 && x6))

theorem impl_NatBookOk_c {a0 : NatBook} {r : Bool} (h : impl_NatBookOk_m a0 = some r) : PureC Tryd.prog 19 [.agg [.d (.int .i64 a0.Addr), .d (.int .i64 a0.Len), .d (.int .i64 a0.Own), .d (.int .i64 a0.Low), .d (.int .i64 a0.High), .d (slD NatDoor.enc a0.Doors), .d (.int .i64 a0.Now), .d (slD NatEntry.enc a0.Entries)]] (.d (.bool r)) [] := by
  refine pureC_x tOk (fn := Tryd.f19) (c := codeOf Tryd.f19) rfl rfl ?_
  unfold impl_NatBookOk_m at h
  conv => whnf
  refine seq_in tOk ?_
  conv => whnf
  obtain ⟨x1, hx1, h⟩ := bd_some h
  refine cC 0 (impl_NetOk_c hx1) ?_
  clear hx1
  conv => whnf
  obtain ⟨x2, hx2, h⟩ := bd_some h
  refine cG (fun c0 => impl_within_c (gcall_some hx2 c0)) ?_
  conv => whnf
  obtain ⟨x3, hx3, h⟩ := bd_some h
  refine cG (fun c0 => impl_NatBook_inside_c (gcall_some hx3 c0)) ?_
  conv => whnf
  obtain ⟨x4, hx4, h⟩ := bd_some h
  refine cG (fun c0 => impl_within_c (gcall_some hx4 c0)) ?_
  conv => whnf
  refine andI h (fun _ h => ?_) (fun _ h => ?_)
  · conv => whnf
    obtain rfl := Option.some.inj h
    exact lfP []
  · conv => whnf
    obtain ⟨x5, hx5, h⟩ := bd_some h
    refine cC 0 (impl_NatBook_doorsOk_c hx5) ?_
    clear hx5
    conv => whnf
    obtain ⟨x6, hx6, h⟩ := bd_some h
    refine cG (fun c0 => impl_NatBook_entriesOk_c (gcall_some hx6 c0)) ?_
    conv => whnf
    obtain rfl := Option.some.inj h
    exact lfP []

noncomputable def strconv_Itoa_m (a0 : Int) : Option (ByteArray) :=
 gd (-9223372036854775808 ≤ a0 ∧ a0 ≤ 9223372036854775807) <|
 some (itoaB a0)

theorem strconv_Itoa_c {a0 : Int} {r : ByteArray} (h : strconv_Itoa_m a0 = some r) : PureC Tryd.prog 21 [.d (.int .i64 a0)] (.d (.str r)) [] := by
  unfold strconv_Itoa_m at h
  obtain ⟨⟨g0, g1⟩, h⟩ := gd_some h
  obtain rfl := Option.some.inj h
  exact pureC_itoa (by kernel_rfl) ⟨Tryd.f21, rfl, by kernel_rfl, by kernel_rfl⟩ (by kernel_rfl) (fun n h0 h1 w ht => Any.strconv_Itoa Lay.itoa n h0 h1 w ht) g0 g1

noncomputable def strings_Join_m (a0 : (List ByteArray)) (a1 : ByteArray) : Option (ByteArray) :=
 gd (a0.length ≤ 140737488355328 ∧ (joinB a0 a1).size ≤ 140737488355328) <|
 some (joinB a0 a1)

theorem strings_Join_c {a0 : (List ByteArray)} {a1 : ByteArray} {r : ByteArray} (h : strings_Join_m a0 a1 = some r) : PureC Tryd.prog 40 [.d (slD encStr a0), .d (.str a1)] (.d (.str r)) [] := by
  unfold strings_Join_m at h
  obtain ⟨⟨g0, g1⟩, h⟩ := gd_some h
  obtain rfl := Option.some.inj h
  exact pureC_join ⟨Tryd.f40, rfl, by kernel_rfl, by kernel_rfl⟩ (fun bk o c xs sep w h1 h2 h3 h4 h5 => Any.strings_Join Lay.joi Lay.joiX bk o c xs sep w h1 h2 h3 h4 h5) (fun a c sep w => Any.strings_Join_none Lay.joi Lay.joiX a c sep w) g0 g1

noncomputable def impl_line_m (a0 : (List ByteArray)) : Option (ByteArray) :=
 bd (strings_Join_m a0 (⟨#[32]⟩ : ByteArray)) fun x1 =>
 gd (x1.size + (⟨#[10]⟩ : ByteArray).size ≤ 9223372036854775807) <|
 some (x1 ++ (⟨#[10]⟩ : ByteArray))

theorem impl_line_c {a0 : (List ByteArray)} {r : ByteArray} (h : impl_line_m a0 = some r) : PureC Tryd.prog 20 [.d (slD encStr a0)] (.d (.str r)) [] := by
  refine pureC_x tOk (fn := Tryd.f20) (c := codeOf Tryd.f20) rfl rfl ?_
  unfold impl_line_m at h
  conv => whnf
  obtain ⟨x1, hx1, h⟩ := bd_some h
  refine cC 0 (strings_Join_c hx1) ?_
  clear hx1
  conv => whnf
  refine gdI h (fun h => ?_)
  conv => whnf
  obtain rfl := Option.some.inj h
  exact lfP []

noncomputable def impl_NetAddrText_m (a0 : Int) : Option (ByteArray) :=
 bd (impl_within_m a0 0 65535) fun x1 =>
(if (!x1) = true then
 some (⟨#[]⟩ : ByteArray)
else
 gd ((256 : Int) ≠ 0) <|
 bd (strconv_Itoa_m (IntKind.i64.wrap ((a0 : Int).tdiv 256))) fun x3 =>
 gd (x3.size + (⟨#[46]⟩ : ByteArray).size ≤ 9223372036854775807) <|
 gd ((256 : Int) ≠ 0) <|
 bd (strconv_Itoa_m ((a0 : Int).tmod 256)) fun x6 =>
 gd ((x3 ++ (⟨#[46]⟩ : ByteArray)).size + x6.size ≤ 9223372036854775807) <|
 some ((x3 ++ (⟨#[46]⟩ : ByteArray)) ++ x6))

theorem impl_NetAddrText_c {a0 : Int} {r : ByteArray} (h : impl_NetAddrText_m a0 = some r) : PureC Tryd.prog 42 [.d (.int .i64 a0)] (.d (.str r)) [] := by
  refine pureC_x tOk (fn := Tryd.f42) (c := codeOf Tryd.f42) rfl rfl ?_
  unfold impl_NetAddrText_m at h
  conv => whnf
  refine seq_in tOk ?_
  conv => whnf
  obtain ⟨x1, hx1, h⟩ := bd_some h
  refine cC 0 (impl_within_c hx1) ?_
  clear hx1
  conv => whnf
  refine andI h (fun _ h => ?_) (fun _ h => ?_)
  · conv => whnf
    obtain rfl := Option.some.inj h
    exact lfP []
  · conv => whnf
    refine gdI h (fun h => ?_)
    conv => whnf
    obtain ⟨x3, hx3, h⟩ := bd_some h
    refine cC 0 (strconv_Itoa_c hx3) ?_
    clear hx3
    conv => whnf
    refine gdI h (fun h => ?_)
    conv => whnf
    refine gdI h (fun h => ?_)
    conv => whnf
    obtain ⟨x6, hx6, h⟩ := bd_some h
    refine cC 0 (strconv_Itoa_c hx6) ?_
    clear hx6
    conv => whnf
    refine gdI h (fun h => ?_)
    conv => whnf
    obtain rfl := Option.some.inj h
    exact lfP []

noncomputable def impl_endText_m (a0 : Int) (a1 : Int) : Option (ByteArray) :=
 bd (impl_NetAddrText_m a0) fun x1 =>
 gd (x1.size + (⟨#[58]⟩ : ByteArray).size ≤ 9223372036854775807) <|
 bd (strconv_Itoa_m a1) fun x3 =>
 gd ((x1 ++ (⟨#[58]⟩ : ByteArray)).size + x3.size ≤ 9223372036854775807) <|
 some ((x1 ++ (⟨#[58]⟩ : ByteArray)) ++ x3)

theorem impl_endText_c {a0 : Int} {a1 : Int} {r : ByteArray} (h : impl_endText_m a0 a1 = some r) : PureC Tryd.prog 22 [.d (.int .i64 a0), .d (.int .i64 a1)] (.d (.str r)) [] := by
  refine pureC_x tOk (fn := Tryd.f22) (c := codeOf Tryd.f22) rfl rfl ?_
  unfold impl_endText_m at h
  conv => whnf
  obtain ⟨x1, hx1, h⟩ := bd_some h
  refine cC 0 (impl_NetAddrText_c hx1) ?_
  clear hx1
  conv => whnf
  refine gdI h (fun h => ?_)
  conv => whnf
  obtain ⟨x3, hx3, h⟩ := bd_some h
  refine cC 0 (strconv_Itoa_c hx3) ?_
  clear hx3
  conv => whnf
  refine gdI h (fun h => ?_)
  conv => whnf
  obtain rfl := Option.some.inj h
  exact lfP []

end Go.Proofs.YtjgjdobkahdgfaaDoor
