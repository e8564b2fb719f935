/-
  What some of the program's functions compute: their models, and that the functions compute these; no condition.
-/
import Derived.Test.YtjgjdobkahdgfaaDoorTyz
import Derived.Test.YtjgjdobkahdgfaaDoorTbz
import Derived.Test.YtjgjdobkahdgfaaDoorLay4z
import Derived.Test.YtjgjdobkahdgfaaDoorAbz8
import Derived.Test.YtjgjdobkahdgfaaDoorKz1
set_option linter.all false
namespace Go.Proofs.YtjgjdobkahdgfaaDoor
open Go Go.Ab
set_option maxRecDepth 100000
set_option maxHeartbeats 40000000
noncomputable def impl_NatBoard_m (a0 : NatBook) : Option (ByteArray) :=
 bd (impl_NatBookOk_m a0) fun x1 =>
(if (!x1) = true then
 some (⟨#[]⟩ : ByteArray)
else
 bd (strconv_Itoa_m a0.Now) fun x2 =>
 bd (impl_line_m ([(⟨#[110, 111, 119]⟩ : ByteArray), x2] : List ByteArray)) fun x3 =>
 bd (lp (σ := Int × ByteArray) (β := (ByteArray)) (fun s4 =>
(if (decide (s4.1 < ((a0.Doors.length : Nat) : Int))) = true then
 gd ((0 : Int) ≤ s4.1 ∧ s4.1 < ((a0.Doors.length : Nat) : Int)) <|
 bd (strconv_Itoa_m ((a0.Doors.getD s4.1.toNat default).Kind)) fun x9 =>
 bd (impl_endText_m a0.Own ((a0.Doors.getD s4.1.toNat default).Outer)) fun x10 =>
 bd (impl_endText_m ((a0.Doors.getD s4.1.toNat default).Inner) ((a0.Doors.getD s4.1.toNat default).InnerPort)) fun x11 =>
 bd (impl_line_m ([(⟨#[100, 111, 111, 114]⟩ : ByteArray), x9, x10, (⟨#[116, 111]⟩ : ByteArray), x11] : List ByteArray)) fun x12 =>
 gd (s4.2.size + x12.size ≤ 9223372036854775807) <|
 some (.inl (IntKind.i64.wrap (s4.1 + 1), (s4.2 ++ x12)))
else
 some (.inr s4.2))) (0, x3)) fun x7 =>
 bd (lp (σ := ByteArray × Int) (β := (ByteArray)) (fun s15 =>
(if (decide (s15.2 < ((a0.Entries.length : Nat) : Int))) = true then
 gd ((0 : Int) ≤ s15.2 ∧ s15.2 < ((a0.Entries.length : Nat) : Int)) <|
 bd (impl_NatBook_age_m a0 (a0.Entries.getD s15.2.toNat default)) fun x20 =>
 bd (α := ByteArray × Int) (bd (impl_NatBook_lives_m a0 (a0.Entries.getD s15.2.toNat default)) fun x24 =>
(if (!x24) = true then
 some ((⟨#[114, 101, 115, 116, 115]⟩ : ByteArray), IntKind.i64.wrap ((IntKind.i64.wrap (8 - x20)) + 4))
else
 some ((⟨#[108, 101, 102, 116]⟩ : ByteArray), IntKind.i64.wrap (8 - x20)))) fun x21 =>
 bd (strconv_Itoa_m ((a0.Entries.getD s15.2.toNat default).Kind)) fun x25 =>
 bd (impl_endText_m ((a0.Entries.getD s15.2.toNat default).Inner) ((a0.Entries.getD s15.2.toNat default).InnerPort)) fun x26 =>
 bd (impl_endText_m a0.Own ((a0.Entries.getD s15.2.toNat default).Outer)) fun x27 =>
 bd (impl_endText_m ((a0.Entries.getD s15.2.toNat default).Peer) ((a0.Entries.getD s15.2.toNat default).PeerPort)) fun x28 =>
 bd (strconv_Itoa_m x21.2) fun x29 =>
 bd (impl_line_m ([(⟨#[102, 108, 111, 119]⟩ : ByteArray), x25, x26, (⟨#[97, 115]⟩ : ByteArray), x27, (⟨#[116, 111]⟩ : ByteArray), x28, x21.1, x29] : List ByteArray)) fun x30 =>
 gd (s15.1.size + x30.size ≤ 9223372036854775807) <|
 some (.inl ((s15.1 ++ x30), IntKind.i64.wrap (s15.2 + 1)))
else
 some (.inr s15.1))) (x7, 0)) fun x18 =>
 some x18)

theorem impl_NatBoard_c {a0 : NatBook} {r : ByteArray} (h : impl_NatBoard_m a0 = some r) : PureC Tryd.prog 8 [.agg [.d (.int .i64 a0.Addr), .d (.int .i64 a0.Len), .d (.int .i64 a0.Own), .d (.int .i64 a0.Low), .d (.int .i64 a0.High), .d (slD NatDoor.enc a0.Doors), .d (.int .i64 a0.Now), .d (slD NatEntry.enc a0.Entries)]] (.d (.str r)) [] := by
  refine pureC_x tOk (fn := Tryd.f8) (c := codeOf Tryd.f8) rfl rfl ?_
  unfold impl_NatBoard_m at h
  conv => whnf
  refine seq_in tOk ?_
  conv => whnf
  obtain ⟨x1, hx1, h⟩ := bd_some h
  refine cC 0 (impl_NatBookOk_c hx1) ?_
  clear hx1
  conv => whnf
  refine andI h (fun _ h => ?_) (fun _ h => ?_)
  · conv => whnf
    obtain rfl := Option.some.inj h
    exact lfP []
  · conv => whnf
    obtain ⟨x2, hx2, h⟩ := bd_some h
    refine cC 0 (strconv_Itoa_c hx2) ?_
    clear hx2
    conv => whnf
    refine bldS (enc := encStr) ([(⟨#[110, 111, 119]⟩ : ByteArray), x2] : List ByteArray) ?_
    conv => whnf
    obtain ⟨x3, hx3, h⟩ := bd_some h
    refine cC 0 (impl_line_c hx3) ?_
    clear hx3
    conv => whnf
    refine seq_in tOk ?_
    conv => whnf
    obtain ⟨x7, hx7, h⟩ := bd_some h
    refine loop_m tOk hx7 (fun s4 => ⟨0, 87, [(1, .ref 1 0 0), (3, .d (.str s4.2)), (19, .d (slD NatDoor.enc a0.Doors)), (20, .d (.int .i64 ((a0.Doors.length : Nat) : Int))), (21, .d (.int .i64 s4.1))], [], [(1, .box 31 [.d (.int .i64 a0.Addr), .d (.int .i64 a0.Len), .d (.int .i64 a0.Own), .d (.int .i64 a0.Low), .d (.int .i64 a0.High), .d (slD NatDoor.enc a0.Doors), .d (.int .i64 a0.Now), .d (slD NatEntry.enc a0.Entries)])], []⟩) ?_ ?_
    · exact leX []
    · clear hx7
      intro s4 y5 g6 hy5
      conv => whnf
      refine seq_in tOk ?_
      conv => whnf
      refine andI g6 (fun _ g6 => ?_) (fun _ g6 => ?_)
      · conv => whnf
        refine seq_in tOk ?_
        conv => whnf
        refine gdI g6 (fun g6 => ?_)
        conv => whnf
        obtain ⟨x9, hx9, g6⟩ := bd_some g6
        obtain ⟨x10, hx10, g6⟩ := bd_some g6
        obtain ⟨x11, hx11, g6⟩ := bd_some g6
        obtain ⟨x12, hx12, g6⟩ := bd_some g6
        obtain ⟨g13, g6⟩ := gd_some g6
        refine draw_u tOk [.u 3 0 (.d (.str x9)) [], .u 8 0 (.d (.str x10)) [], .u 13 0 (.d (.str x11)) [], .u 15 0 (.d (.str x12)) []] 17 [] [0, 0, 2, 6, 0, 16, 0, 64, 254, 0, 512, 0, 2048, 8190, 16382, 32766, 65535] [131071] ?_
        conv => whnf
        refine And.intro (callD_any (strconv_Itoa_c hx9) (by kernel_rfl)) ?_
        conv => whnf
        refine And.intro (callD_any (impl_endText_c hx10) (by kernel_rfl)) ?_
        conv => whnf
        refine And.intro (callD_any (impl_endText_c hx11) (by kernel_rfl)) ?_
        conv => whnf
        refine bldS (enc := encStr) ([(⟨#[100, 111, 111, 114]⟩ : ByteArray), x9, x10, (⟨#[116, 111]⟩ : ByteArray), x11] : List ByteArray) ?_
        conv => whnf
        refine And.intro (callD_any (impl_line_c hx12) (by kernel_rfl)) ?_
        conv => whnf
        refine And.intro g13 ?_
        clear g13
        conv => whnf
        refine And.intro (by kernel_rfl) ?_
        conv => whnf
        obtain rfl := Option.some.inj g6
        exact ⟨_, rfl, leX []⟩
      · conv => whnf
        obtain rfl := Option.some.inj g6
        obtain rfl := hy5 _ rfl
        refine seq_in tOk ?_
        conv => whnf
        obtain ⟨x18, hx18, h⟩ := bd_some h
        refine loop_m tOk hx18 (fun s15 => ⟨0, 87, [(1, .ref 1 0 0), (3, .d (.str s15.1)), (44, .d (slD NatEntry.enc a0.Entries)), (45, .d (.int .i64 ((a0.Entries.length : Nat) : Int))), (46, .d (.int .i64 s15.2))], [], [(1, .box 31 [.d (.int .i64 a0.Addr), .d (.int .i64 a0.Len), .d (.int .i64 a0.Own), .d (.int .i64 a0.Low), .d (.int .i64 a0.High), .d (slD NatDoor.enc a0.Doors), .d (.int .i64 a0.Now), .d (slD NatEntry.enc a0.Entries)])], []⟩) ?_ ?_
        · exact leX []
        · clear hx18
          intro s15 y16 g17 hy16
          conv => whnf
          refine seq_in tOk ?_
          conv => whnf
          refine andI g17 (fun _ g17 => ?_) (fun _ g17 => ?_)
          · conv => whnf
            refine seq_in tOk ?_
            conv => whnf
            refine gdI g17 (fun g17 => ?_)
            conv => whnf
            obtain ⟨x20, hx20, g17⟩ := bd_some g17
            refine cC 0 (impl_NatBook_age_c hx20) ?_
            clear hx20
            conv => whnf
            obtain ⟨x21, hx21, g17⟩ := bd_some g17
            refine seq_join tOk (fun s22 => ⟨0, 87, [(1, .ref 1 0 0), (3, .d (.str s15.1)), (7, .ref 7 0 0), (8, .d (.str s22.1)), (9, .d (.int .i64 s22.2)), (44, .d (slD NatEntry.enc a0.Entries)), (45, .d (.int .i64 ((a0.Entries.length : Nat) : Int))), (46, .d (.int .i64 s15.2))], [], [(7, .box 47 [.d (.int .i64 ((a0.Entries.getD s15.2.toNat default).Kind)), .d (.int .i64 ((a0.Entries.getD s15.2.toNat default).Peer)), .d (.int .i64 ((a0.Entries.getD s15.2.toNat default).PeerPort)), .d (.int .i64 ((a0.Entries.getD s15.2.toNat default).Outer)), .d (.int .i64 ((a0.Entries.getD s15.2.toNat default).Inner)), .d (.int .i64 ((a0.Entries.getD s15.2.toNat default).InnerPort)), .d (.int .i64 ((a0.Entries.getD s15.2.toNat default).Last))]), (1, .box 31 [.d (.int .i64 a0.Addr), .d (.int .i64 a0.Len), .d (.int .i64 a0.Own), .d (.int .i64 a0.Low), .d (.int .i64 a0.High), .d (slD NatDoor.enc a0.Doors), .d (.int .i64 a0.Now), .d (slD NatEntry.enc a0.Entries)])], []⟩) (fun s22 => x21 = s22) ?_ ?_
            · conv => whnf
              obtain ⟨x24, hx24, hx21⟩ := bd_some hx21
              refine cC 0 (impl_NatBook_lives_c hx24) ?_
              clear hx24
              conv => whnf
              refine andI hx21 (fun _ hx21 => ?_) (fun _ hx21 => ?_)
              · conv => whnf
                obtain rfl := Option.some.inj hx21
                exact ⟨_, rfl, leX []⟩
              · conv => whnf
                obtain rfl := Option.some.inj hx21
                exact ⟨_, rfl, leX []⟩
            · rintro _ rfl
              conv => whnf
              obtain ⟨x25, hx25, g17⟩ := bd_some g17
              obtain ⟨x26, hx26, g17⟩ := bd_some g17
              obtain ⟨x27, hx27, g17⟩ := bd_some g17
              obtain ⟨x28, hx28, g17⟩ := bd_some g17
              obtain ⟨x29, hx29, g17⟩ := bd_some g17
              obtain ⟨x30, hx30, g17⟩ := bd_some g17
              obtain ⟨g31, g17⟩ := gd_some g17
              refine draw_u tOk [.u 3 0 (.d (.str x25)) [], .u 8 0 (.d (.str x26)) [], .u 13 0 (.d (.str x27)) [], .u 18 0 (.d (.str x28)) [], .u 21 0 (.d (.str x29)) [], .u 23 0 (.d (.str x30)) []] 25 [] [0, 0, 2, 6, 0, 16, 0, 64, 254, 0, 512, 0, 2048, 8190, 0, 16384, 0, 65536, 262142, 0, 0, 1572862, 4194302, 8388606, 16777215] [33554431] ?_
              conv => whnf
              refine And.intro (callD_any (strconv_Itoa_c hx25) (by kernel_rfl)) ?_
              conv => whnf
              refine And.intro (callD_any (impl_endText_c hx26) (by kernel_rfl)) ?_
              conv => whnf
              refine And.intro (callD_any (impl_endText_c hx27) (by kernel_rfl)) ?_
              conv => whnf
              refine And.intro (callD_any (impl_endText_c hx28) (by kernel_rfl)) ?_
              conv => whnf
              refine And.intro (callD_any (strconv_Itoa_c hx29) (by kernel_rfl)) ?_
              conv => whnf
              refine bldS (enc := encStr) ([(⟨#[102, 108, 111, 119]⟩ : ByteArray), x25, x26, (⟨#[97, 115]⟩ : ByteArray), x27, (⟨#[116, 111]⟩ : ByteArray), x28, x21.1, x29] : List ByteArray) ?_
              conv => whnf
              refine And.intro (callD_any (impl_line_c hx30) (by kernel_rfl)) ?_
              conv => whnf
              refine And.intro g31 ?_
              clear g31
              conv => whnf
              refine And.intro (by kernel_rfl) ?_
              conv => whnf
              obtain rfl := Option.some.inj g17
              exact ⟨_, rfl, leX []⟩
          · conv => whnf
            obtain rfl := Option.some.inj g17
            obtain rfl := hy16 _ rfl
            obtain rfl := Option.some.inj h
            exact lfP []

noncomputable def laws_eqNatDoor_m (a0 : NatDoor) (a1 : NatDoor) : Option (Bool) :=
(if (a0.Kind != a1.Kind) = true then
 some false
else
(if (a0.Outer != a1.Outer) = true then
 some false
else
(if (a0.Inner != a1.Inner) = true then
 some false
else
(if (a0.InnerPort != a1.InnerPort) = true then
 some false
else
 some true))))

theorem laws_eqNatDoor_c {a0 : NatDoor} {a1 : NatDoor} {r : Bool} (h : laws_eqNatDoor_m a0 a1 = some r) : PureC Tryd.prog 43 [.agg [.d (.int .i64 a0.Kind), .d (.int .i64 a0.Outer), .d (.int .i64 a0.Inner), .d (.int .i64 a0.InnerPort)], .agg [.d (.int .i64 a1.Kind), .d (.int .i64 a1.Outer), .d (.int .i64 a1.Inner), .d (.int .i64 a1.InnerPort)]] (.d (.bool r)) [] := by
  refine pureC_x tOk (fn := Tryd.f43) (c := codeOf Tryd.f43) rfl rfl ?_
  unfold laws_eqNatDoor_m at h
  conv => whnf
  refine seq_in tOk ?_
  conv => whnf
  refine andI h (fun _ h => ?_) (fun _ h => ?_)
  · conv => whnf
    obtain rfl := Option.some.inj h
    exact lfP []
  · conv => whnf
    refine seq_in tOk ?_
    conv => whnf
    refine andI h (fun _ h => ?_) (fun _ h => ?_)
    · conv => whnf
      obtain rfl := Option.some.inj h
      exact lfP []
    · conv => whnf
      refine seq_in tOk ?_
      conv => whnf
      refine andI h (fun _ h => ?_) (fun _ h => ?_)
      · conv => whnf
        obtain rfl := Option.some.inj h
        exact lfP []
      · conv => whnf
        refine seq_in tOk ?_
        conv => whnf
        refine andI h (fun _ h => ?_) (fun _ h => ?_)
        · conv => whnf
          obtain rfl := Option.some.inj h
          exact lfP []
        · conv => whnf
          obtain rfl := Option.some.inj h
          exact lfP []

noncomputable def laws_eqNatDoorS_m (a0 : (List NatDoor)) (a1 : (List NatDoor)) : Option (Bool) :=
(if (((a0.length : Nat) : Int) != ((a1.length : Nat) : Int)) = true then
 some false
else
 bd (lp (σ := Int) (β := (Unit ⊕ Unit)) (fun s1 =>
(if (decide (s1 < ((a0.length : Nat) : Int))) = true then
 gd ((0 : Int) ≤ s1 ∧ s1 < ((a0.length : Nat) : Int)) <|
 gd ((0 : Int) ≤ s1 ∧ s1 < ((a1.length : Nat) : Int)) <|
 bd (laws_eqNatDoor_m (a0.getD s1.toNat default) (a1.getD s1.toNat default)) fun x7 =>
(if (!x7) = true then
 some (.inr (.inl ()))
else
 some (.inl (IntKind.i64.wrap (s1 + 1))))
else
 some (.inr (.inr ())))) 0) fun x4 =>
(match x4 with
| .inl d8 =>
 some false
| .inr d9 =>
 some true))

theorem laws_eqNatDoorS_c {a0 : (List NatDoor)} {a1 : (List NatDoor)} {r : Bool} (h : laws_eqNatDoorS_m a0 a1 = some r) : PureC Tryd.prog 25 [.d (slD NatDoor.enc a0), .d (slD NatDoor.enc a1)] (.d (.bool r)) [] := by
  refine pureC_x tOk (fn := Tryd.f25) (c := codeOf Tryd.f25) rfl rfl ?_
  unfold laws_eqNatDoorS_m at h
  conv => whnf
  refine seq_in tOk ?_
  conv => whnf
  refine andI h (fun _ h => ?_) (fun _ h => ?_)
  · conv => whnf
    obtain rfl := Option.some.inj h
    exact lfP []
  · conv => whnf
    refine seq_in tOk ?_
    conv => whnf
    obtain ⟨x4, hx4, h⟩ := bd_some h
    refine loop_m tOk hx4 (fun s1 => ⟨0, 27, [(0, .d (slD NatDoor.enc a0)), (1, .d (slD NatDoor.enc a1)), (5, .d (.int .i64 s1))], [], [], []⟩) ?_ ?_
    · exact leX []
    · clear hx4
      intro s1 y2 g3 hy2
      conv => whnf
      refine seq_in tOk ?_
      conv => whnf
      refine andI g3 (fun _ g3 => ?_) (fun _ g3 => ?_)
      · conv => whnf
        refine seq_in tOk ?_
        conv => whnf
        obtain ⟨g5, g3⟩ := gd_some g3
        obtain ⟨g6, g3⟩ := gd_some g3
        obtain ⟨x7, hx7, g3⟩ := bd_some g3
        refine draw_u tOk [.u 8 0 (.d (.bool x7)) []] 10 [] [0, 0, 3, 7, 0, 0, 48, 112, 255, 511] [] ?_
        conv => whnf
        refine And.intro g5 ?_
        clear g5
        conv => whnf
        refine And.intro g6 ?_
        clear g6
        conv => whnf
        refine And.intro (callD_any (laws_eqNatDoor_c hx7) (by kernel_rfl)) ?_
        conv => whnf
        refine And.intro (by kernel_rfl) ?_
        conv => whnf
        refine andI g3 (fun _ g3 => ?_) (fun _ g3 => ?_)
        · conv => whnf
          obtain rfl := Option.some.inj g3
          obtain rfl := hy2 _ rfl
          obtain rfl := Option.some.inj h
          exact lfP []
        · conv => whnf
          obtain rfl := Option.some.inj g3
          exact ⟨_, rfl, leX []⟩
      · conv => whnf
        obtain rfl := Option.some.inj g3
        obtain rfl := hy2 _ rfl
        obtain rfl := Option.some.inj h
        exact lfP []

noncomputable def laws_eqNatEntry_m (a0 : NatEntry) (a1 : NatEntry) : Option (Bool) :=
(if (a0.Kind != a1.Kind) = true then
 some false
else
(if (a0.Peer != a1.Peer) = true then
 some false
else
(if (a0.PeerPort != a1.PeerPort) = true then
 some false
else
(if (a0.Outer != a1.Outer) = true then
 some false
else
(if (a0.Inner != a1.Inner) = true then
 some false
else
(if (a0.InnerPort != a1.InnerPort) = true then
 some false
else
(if (a0.Last != a1.Last) = true then
 some false
else
 some true)))))))

theorem laws_eqNatEntry_c {a0 : NatEntry} {a1 : NatEntry} {r : Bool} (h : laws_eqNatEntry_m a0 a1 = some r) : PureC Tryd.prog 44 [.agg [.d (.int .i64 a0.Kind), .d (.int .i64 a0.Peer), .d (.int .i64 a0.PeerPort), .d (.int .i64 a0.Outer), .d (.int .i64 a0.Inner), .d (.int .i64 a0.InnerPort), .d (.int .i64 a0.Last)], .agg [.d (.int .i64 a1.Kind), .d (.int .i64 a1.Peer), .d (.int .i64 a1.PeerPort), .d (.int .i64 a1.Outer), .d (.int .i64 a1.Inner), .d (.int .i64 a1.InnerPort), .d (.int .i64 a1.Last)]] (.d (.bool r)) [] := by
  refine pureC_x tOk (fn := Tryd.f44) (c := codeOf Tryd.f44) rfl rfl ?_
  unfold laws_eqNatEntry_m at h
  conv => whnf
  refine seq_in tOk ?_
  conv => whnf
  refine andI h (fun _ h => ?_) (fun _ h => ?_)
  · conv => whnf
    obtain rfl := Option.some.inj h
    exact lfP []
  · conv => whnf
    refine seq_in tOk ?_
    conv => whnf
    refine andI h (fun _ h => ?_) (fun _ h => ?_)
    · conv => whnf
      obtain rfl := Option.some.inj h
      exact lfP []
    · conv => whnf
      refine seq_in tOk ?_
      conv => whnf
      refine andI h (fun _ h => ?_) (fun _ h => ?_)
      · conv => whnf
        obtain rfl := Option.some.inj h
        exact lfP []
      · conv => whnf
        refine seq_in tOk ?_
        conv => whnf
        refine andI h (fun _ h => ?_) (fun _ h => ?_)
        · conv => whnf
          obtain rfl := Option.some.inj h
          exact lfP []
        · conv => whnf
          refine seq_in tOk ?_
          conv => whnf
          refine andI h (fun _ h => ?_) (fun _ h => ?_)
          · conv => whnf
            obtain rfl := Option.some.inj h
            exact lfP []
          · conv => whnf
            refine seq_in tOk ?_
            conv => whnf
            refine andI h (fun _ h => ?_) (fun _ h => ?_)
            · conv => whnf
              obtain rfl := Option.some.inj h
              exact lfP []
            · conv => whnf
              refine seq_in tOk ?_
              conv => whnf
              refine andI h (fun _ h => ?_) (fun _ h => ?_)
              · conv => whnf
                obtain rfl := Option.some.inj h
                exact lfP []
              · conv => whnf
                obtain rfl := Option.some.inj h
                exact lfP []

noncomputable def laws_eqNatEntryS_m (a0 : (List NatEntry)) (a1 : (List NatEntry)) : Option (Bool) :=
(if (((a0.length : Nat) : Int) != ((a1.length : Nat) : Int)) = true then
 some false
else
 bd (lp (σ := Int) (β := (Unit ⊕ Unit)) (fun s1 =>
(if (decide (s1 < ((a0.length : Nat) : Int))) = true then
 gd ((0 : Int) ≤ s1 ∧ s1 < ((a0.length : Nat) : Int)) <|
 gd ((0 : Int) ≤ s1 ∧ s1 < ((a1.length : Nat) : Int)) <|
 bd (laws_eqNatEntry_m (a0.getD s1.toNat default) (a1.getD s1.toNat default)) fun x7 =>
(if (!x7) = true then
 some (.inr (.inl ()))
else
 some (.inl (IntKind.i64.wrap (s1 + 1))))
else
 some (.inr (.inr ())))) 0) fun x4 =>
(match x4 with
| .inl d8 =>
 some false
| .inr d9 =>
 some true))

theorem laws_eqNatEntryS_c {a0 : (List NatEntry)} {a1 : (List NatEntry)} {r : Bool} (h : laws_eqNatEntryS_m a0 a1 = some r) : PureC Tryd.prog 26 [.d (slD NatEntry.enc a0), .d (slD NatEntry.enc a1)] (.d (.bool r)) [] := by
  refine pureC_x tOk (fn := Tryd.f26) (c := codeOf Tryd.f26) rfl rfl ?_
  unfold laws_eqNatEntryS_m at h
  conv => whnf
  refine seq_in tOk ?_
  conv => whnf
  refine andI h (fun _ h => ?_) (fun _ h => ?_)
  · conv => whnf
    obtain rfl := Option.some.inj h
    exact lfP []
  · conv => whnf
    refine seq_in tOk ?_
    conv => whnf
    obtain ⟨x4, hx4, h⟩ := bd_some h
    refine loop_m tOk hx4 (fun s1 => ⟨0, 27, [(0, .d (slD NatEntry.enc a0)), (1, .d (slD NatEntry.enc a1)), (5, .d (.int .i64 s1))], [], [], []⟩) ?_ ?_
    · exact leX []
    · clear hx4
      intro s1 y2 g3 hy2
      conv => whnf
      refine seq_in tOk ?_
      conv => whnf
      refine andI g3 (fun _ g3 => ?_) (fun _ g3 => ?_)
      · conv => whnf
        refine seq_in tOk ?_
        conv => whnf
        obtain ⟨g5, g3⟩ := gd_some g3
        obtain ⟨g6, g3⟩ := gd_some g3
        obtain ⟨x7, hx7, g3⟩ := bd_some g3
        refine draw_u tOk [.u 8 0 (.d (.bool x7)) []] 10 [] [0, 0, 3, 7, 0, 0, 48, 112, 255, 511] [] ?_
        conv => whnf
        refine And.intro g5 ?_
        clear g5
        conv => whnf
        refine And.intro g6 ?_
        clear g6
        conv => whnf
        refine And.intro (callD_any (laws_eqNatEntry_c hx7) (by kernel_rfl)) ?_
        conv => whnf
        refine And.intro (by kernel_rfl) ?_
        conv => whnf
        refine andI g3 (fun _ g3 => ?_) (fun _ g3 => ?_)
        · conv => whnf
          obtain rfl := Option.some.inj g3
          obtain rfl := hy2 _ rfl
          obtain rfl := Option.some.inj h
          exact lfP []
        · conv => whnf
          obtain rfl := Option.some.inj g3
          exact ⟨_, rfl, leX []⟩
      · conv => whnf
        obtain rfl := Option.some.inj g3
        obtain rfl := hy2 _ rfl
        obtain rfl := Option.some.inj h
        exact lfP []

noncomputable def laws_eqNatBook_m (a0 : NatBook) (a1 : NatBook) : Option (Bool) :=
(if (a0.Addr != a1.Addr) = true then
 some false
else
(if (a0.Len != a1.Len) = true then
 some false
else
(if (a0.Own != a1.Own) = true then
 some false
else
(if (a0.Low != a1.Low) = true then
 some false
else
(if (a0.High != a1.High) = true then
 some false
else
 bd (laws_eqNatDoorS_m a0.Doors a1.Doors) fun x1 =>
(if (!x1) = true then
 some false
else
(if (a0.Now != a1.Now) = true then
 some false
else
 bd (laws_eqNatEntryS_m a0.Entries a1.Entries) fun x2 =>
(if (!x2) = true then
 some false
else
 some true))))))))

theorem laws_eqNatBook_c {a0 : NatBook} {a1 : NatBook} {r : Bool} (h : laws_eqNatBook_m a0 a1 = some r) : PureC Tryd.prog 9 [.agg [.d (.int .i64 a0.Addr), .d (.int .i64 a0.Len), .d (.int .i64 a0.Own), .d (.int .i64 a0.Low), .d (.int .i64 a0.High), .d (slD NatDoor.enc a0.Doors), .d (.int .i64 a0.Now), .d (slD NatEntry.enc a0.Entries)], .agg [.d (.int .i64 a1.Addr), .d (.int .i64 a1.Len), .d (.int .i64 a1.Own), .d (.int .i64 a1.Low), .d (.int .i64 a1.High), .d (slD NatDoor.enc a1.Doors), .d (.int .i64 a1.Now), .d (slD NatEntry.enc a1.Entries)]] (.d (.bool r)) [] := by
  refine pureC_x tOk (fn := Tryd.f9) (c := codeOf Tryd.f9) rfl rfl ?_
  unfold laws_eqNatBook_m at h
  conv => whnf
  refine seq_in tOk ?_
  conv => whnf
  refine andI h (fun _ h => ?_) (fun _ h => ?_)
  · conv => whnf
    obtain rfl := Option.some.inj h
    exact lfP []
  · conv => whnf
    refine seq_in tOk ?_
    conv => whnf
    refine andI h (fun _ h => ?_) (fun _ h => ?_)
    · conv => whnf
      obtain rfl := Option.some.inj h
      exact lfP []
    · conv => whnf
      refine seq_in tOk ?_
      conv => whnf
      refine andI h (fun _ h => ?_) (fun _ h => ?_)
      · conv => whnf
        obtain rfl := Option.some.inj h
        exact lfP []
      · conv => whnf
        refine seq_in tOk ?_
        conv => whnf
        refine andI h (fun _ h => ?_) (fun _ h => ?_)
        · conv => whnf
          obtain rfl := Option.some.inj h
          exact lfP []
        · conv => whnf
          refine seq_in tOk ?_
          conv => whnf
          refine andI h (fun _ h => ?_) (fun _ h => ?_)
          · conv => whnf
            obtain rfl := Option.some.inj h
            exact lfP []
          · conv => whnf
            refine seq_in tOk ?_
            conv => whnf
            obtain ⟨x1, hx1, h⟩ := bd_some h
            refine cC 0 (laws_eqNatDoorS_c hx1) ?_
            clear hx1
            conv => whnf
            refine andI h (fun _ h => ?_) (fun _ h => ?_)
            · conv => whnf
              obtain rfl := Option.some.inj h
              exact lfP []
            · conv => whnf
              refine seq_in tOk ?_
              conv => whnf
              refine andI h (fun _ h => ?_) (fun _ h => ?_)
              · conv => whnf
                obtain rfl := Option.some.inj h
                exact lfP []
              · conv => whnf
                refine seq_in tOk ?_
                conv => whnf
                obtain ⟨x2, hx2, h⟩ := bd_some h
                refine cC 0 (laws_eqNatEntryS_c hx2) ?_
                clear hx2
                conv => whnf
                refine andI h (fun _ h => ?_) (fun _ h => ?_)
                · conv => whnf
                  obtain rfl := Option.some.inj h
                  exact lfP []
                · conv => whnf
                  obtain rfl := Option.some.inj h
                  exact lfP []

noncomputable def laws_FnExactNatBoard_m (a0 : NatBook) : Option (Bool) :=
 bd (laws_szNatBook_m a0 1048576) fun x1 =>
(if (decide (x1 < 0)) = true then
 some true
else
 bd (laws_toNatBook_m a0) fun x2 =>
 bd (spec_NatBoard_m x2) fun x3 =>
 bd (laws_toNatBook_m a0) fun x4 =>
 bd (impl_NatBoard_m x4) fun x5 =>
(if (!(x5 == x3)) = true then
 some false
else
 bd (laws_toNatBook_m a0) fun x6 =>
 bd (laws_eqNatBook_m x4 x6) fun x7 =>
(if (!x7) = true then
 some false
else
 some true)))

theorem laws_FnExactNatBoard_c {a0 : NatBook} {r : Bool} (h : laws_FnExactNatBoard_m a0 = some r) : PureC Tryd.prog 3 [.agg [.d (.int .i64 a0.Addr), .d (.int .i64 a0.Len), .d (.int .i64 a0.Own), .d (.int .i64 a0.Low), .d (.int .i64 a0.High), .d (slD NatDoor.enc a0.Doors), .d (.int .i64 a0.Now), .d (slD NatEntry.enc a0.Entries)]] (.d (.bool r)) [] := by
  refine pureC_x tOk (fn := Tryd.f3) (c := codeOf Tryd.f3) rfl rfl ?_
  unfold laws_FnExactNatBoard_m at h
  conv => whnf
  obtain ⟨x1, hx1, h⟩ := bd_some h
  refine cC 0 (laws_szNatBook_c hx1) ?_
  clear hx1
  conv => whnf
  refine seq_in tOk ?_
  conv => whnf
  refine andI h (fun _ h => ?_) (fun _ h => ?_)
  · conv => whnf
    obtain rfl := Option.some.inj h
    exact lfP []
  · conv => whnf
    obtain ⟨x2, hx2, h⟩ := bd_some h
    refine cC 1000 (laws_toNatBook_c hx2) ?_
    clear hx2
    conv => whnf
    obtain ⟨x3, hx3, h⟩ := bd_some h
    refine cC 0 (spec_NatBoard_c hx3) ?_
    clear hx3
    conv => whnf
    obtain ⟨x4, hx4, h⟩ := bd_some h
    refine cC 2000 (laws_toNatBook_c hx4) ?_
    clear hx4
    conv => whnf
    obtain ⟨x5, hx5, h⟩ := bd_some h
    refine cC 0 (impl_NatBoard_c hx5) ?_
    clear hx5
    conv => whnf
    refine seq_in tOk ?_
    conv => whnf
    refine andI h (fun _ h => ?_) (fun _ h => ?_)
    · conv => whnf
      obtain rfl := Option.some.inj h
      exact lfP []
    · conv => whnf
      refine seq_in tOk ?_
      conv => whnf
      obtain ⟨x6, hx6, h⟩ := bd_some h
      obtain ⟨x7, hx7, h⟩ := bd_some h
      refine draw_u tOk [.u 2 3000 (.agg [.d (.int .i64 x6.Addr), .d (.int .i64 x6.Len), .d (.int .i64 x6.Own), .d (.int .i64 x6.Low), .d (.int .i64 x6.High), .osl 5001 0 x6.Doors.length, .d (.int .i64 x6.Now), .osl 5002 0 x6.Entries.length]) [⟨5001, 43, 4, x6.Doors.length, rows NatDoor.enc x6.Doors⟩, ⟨5002, 47, 7, x6.Entries.length, rows NatEntry.enc x6.Entries⟩], .u 3 0 (.d (.bool x7)) []] 5 [] [0, 0, 2, 7, 15] [] ?_
      conv => whnf
      refine And.intro (callD_any (laws_toNatBook_c hx6) (by kernel_rfl)) ?_
      conv => whnf
      refine And.intro (callD_any (laws_eqNatBook_c hx7) (by kernel_rfl)) ?_
      conv => whnf
      refine And.intro (by kernel_rfl) ?_
      conv => whnf
      refine andI h (fun _ h => ?_) (fun _ h => ?_)
      · conv => whnf
        obtain rfl := Option.some.inj h
        exact lfP []
      · conv => whnf
        obtain rfl := Option.some.inj h
        exact lfP []

end Go.Proofs.YtjgjdobkahdgfaaDoor
