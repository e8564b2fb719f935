/-
  What some of the program's functions compute: their models, and that the functions compute these; no condition.
-/
import Derived.Test.YtaoeomoepefojabTyz
import Derived.Test.YtaoeomoepefojabTbz
import Derived.Test.YtaoeomoepefojabAbz7
import Derived.Maps.OwnOps
import Derived.Maps.Views
import Derived.WalkKit
import Derived.Test.YtaoeomoepefojabKz2
set_option linter.all false
namespace Go.Proofs.Ytaoeomoepefojab
open Go Go.Ab
set_option maxRecDepth 100000
set_option maxHeartbeats 40000000
noncomputable def impl_NatOut_m (a0 : NatBook) (a1 : NatFlow) : Option (NatBook × NatFlow × Int) :=
 bd (impl_NatBookOk_m a0) fun x1 =>
(if (!x1) = true then
 some ((⟨0, 0, 0, 0, 0, [], 0, []⟩ : NatBook), (⟨0, 0, 0, 0, 0⟩ : NatFlow), 1)
else
 bd (impl_copyBook_m a0) fun x2 =>
 bd (impl_NatFlowOk_m a1) fun x3 =>
(if (!x3) = true then
 some (x2, (⟨0, 0, 0, 0, 0⟩ : NatFlow), 2)
else
 bd (impl_NatBook_inside_m a0 a1.From) fun x4 =>
 bd (gcall ((!x4) = false) (impl_NatBook_inside_m a0 a1.To)) fun x5 =>
(if (((!x4) || x5) || (a1.To == a0.Own)) = true then
 some (x2, (⟨0, 0, 0, 0, 0⟩ : NatFlow), 3)
else
 bd (impl_NatBook_outPort_m x2 a1) fun x6 =>
(if (x6.2.1 != 0) = true then
 some ({ x2 with Entries := x6.2.2.Entries }, (⟨0, 0, 0, 0, 0⟩ : NatFlow), x6.2.1)
else
 some ({ x2 with Entries := x6.2.2.Entries }, { a1 with From := a0.Own, FromPort := x6.1 }, 0)))))

theorem impl_NatOut_c {a0 : NatBook} {a1 : NatFlow} {r : NatBook × NatFlow × Int} (h : impl_NatOut_m a0 a1 = some r) : EffC Try.prog 9 [.agg [.d (.int .i64 a0.Addr), .d (.int .i64 a0.Len), .d (.int .i64 a0.Own), .d (.int .i64 a0.Low), .d (.int .i64 a0.High), .d (slD NatDoor.enc a0.Doors), .d (.int .i64 a0.Now), .d (slD NatEntry.enc a0.Entries)], .agg [.d (.int .i64 a1.Kind), .d (.int .i64 a1.From), .d (.int .i64 a1.FromPort), .d (.int .i64 a1.To), .d (.int .i64 a1.ToPort)]] [] (.tup [.agg [.d (.int .i64 r.1.Addr), .d (.int .i64 r.1.Len), .d (.int .i64 r.1.Own), .d (.int .i64 r.1.Low), .d (.int .i64 r.1.High), .d (slD NatDoor.enc r.1.Doors), .d (.int .i64 r.1.Now), .osl 5001 0 r.1.Entries.length], .agg [.d (.int .i64 r.2.1.Kind), .d (.int .i64 r.2.1.From), .d (.int .i64 r.2.1.FromPort), .d (.int .i64 r.2.1.To), .d (.int .i64 r.2.1.ToPort)], .d (.int .i64 r.2.2)]) [(5001, .arr 68 7 r.1.Entries.length (rows NatEntry.enc r.1.Entries))] := by
  refine effC_x tOk (fn := Try.f9) (c := codeOf Try.f9) rfl rfl ?_
  unfold impl_NatOut_m at h
  conv => whnf
  refine seq_in tOk ?_
  conv => whnf
  obtain ⟨x1, hx1, h⟩ := bd_some h
  refine cC 0 (impl_NatBookOk_c hx1) ?_
  clear hx1
  conv => whnf
  refine andI h (fun _ h => ?_) (fun _ h => ?_)
  · conv => whnf
    obtain rfl := Option.some.inj h
    exact lfE [.k [2, 3], .p 5001 68 7 (rows NatEntry.enc ([] : List NatEntry))]
  · conv => whnf
    obtain ⟨x2, hx2, h⟩ := bd_some h
    refine cC 1000 (impl_copyBook_c hx2) ?_
    clear hx2
    conv => whnf
    refine seq_in tOk ?_
    conv => whnf
    obtain ⟨x3, hx3, h⟩ := bd_some h
    refine cC 0 (impl_NatFlowOk_c hx3) ?_
    clear hx3
    conv => whnf
    refine andI h (fun _ h => ?_) (fun _ h => ?_)
    · conv => whnf
      obtain rfl := Option.some.inj h
      exact lfE [.f [6001], .s [(5001, 6002), (6002, 5001)]]
    · conv => whnf
      obtain ⟨x4, hx4, h⟩ := bd_some h
      refine cC 0 (impl_NatBook_inside_c hx4) ?_
      clear hx4
      conv => whnf
      obtain ⟨x5, hx5, h⟩ := bd_some h
      refine cG (fun c0 => impl_NatBook_inside_c (gcall_some hx5 c0)) ?_
      conv => whnf
      refine andI h (fun _ h => ?_) (fun _ h => ?_)
      · conv => whnf
        obtain rfl := Option.some.inj h
        exact lfE [.f [6001], .s [(5001, 6002), (6002, 5001)]]
      · conv => whnf
        obtain ⟨x6, hx6, h⟩ := bd_some h
        refine callFz [6001] ?_
        conv => whnf
        refine cE [(9000, 7), (9001, 6002)] 1000 (impl_NatBook_outPort_c hx6) ?_
        conv => whnf
        refine seq_in tOk ?_
        conv => whnf
        refine andI h (fun _ h => ?_) (fun _ h => ?_)
        · conv => whnf
          obtain rfl := Option.some.inj h
          exact lfE [.s [(5001, 6001), (6001, 5001)]]
        · conv => whnf
          refine draw_t tOk [.a 11 [(4, .box 26 [.d (.int .i64 0), .d (.int .i64 0), .d (.int .i64 0), .d (.int .i64 0), .d (.int .i64 0), .d (.nil), .d (.int .i64 0), .d (.nil)])] (.any) [(4, .box 26 [.d (.int .i64 x2.Addr), .d (.int .i64 x2.Len), .d (.int .i64 x2.Own), .d (.int .i64 x2.Low), .d (.int .i64 x2.High), .d (slD NatDoor.enc x2.Doors), .d (.int .i64 x2.Now), .osl 6001 0 x6.2.2.Entries.length])], .a 12 [(5, .box 31 [.d (.int .i64 0), .d (.int .i64 0), .d (.int .i64 0), .d (.int .i64 0), .d (.int .i64 0)])] (.any) [(5, .box 31 [.d (.int .i64 a1.Kind), .d (.int .i64 a0.Own), .d (.int .i64 x6.1), .d (.int .i64 a1.To), .d (.int .i64 a1.ToPort)])]] 14 [] [0, 0, 2, 0, 8, 0, 0, 64, 0, 256, 1022, 1, 4095, 8191] [] [4, 5] ?_
          conv => whnf
          refine And.intro (by (conv => whnf); exact ⟨rfl, rfl⟩) ?_
          conv => whnf
          refine And.intro (by (conv => whnf); exact ⟨rfl, rfl⟩) ?_
          conv => whnf
          refine And.intro (by kernel_rfl) ?_
          conv => whnf
          obtain rfl := Option.some.inj h
          exact lfE [.s [(5001, 6001), (6001, 5001)]]

noncomputable def laws_wvBook_m (a0 : NatBook) (a1 : NatBook) : Option (Bool) :=
(if ((((((((a0.Addr != a1.Addr) || (a0.Len != a1.Len)) || (a0.Own != a1.Own)) || (a0.Low != a1.Low)) || (a0.High != a1.High)) || (a0.Now != a1.Now)) || (((a0.Doors.length : Nat) : Int) != ((a1.Doors.length : Nat) : Int))) || (((a0.Entries.length : Nat) : Int) != ((a1.Entries.length : Nat) : Int))) = true then
 some false
else
 bd (lp (σ := Int) (β := (Unit ⊕ Unit)) (fun s1 =>
(if (decide (s1 < ((a0.Doors.length : Nat) : Int))) = true then
 gd ((0 : Int) ≤ s1 ∧ s1 < ((a0.Doors.length : Nat) : Int)) <|
 gd ((0 : Int) ≤ s1 ∧ s1 < ((a1.Doors.length : Nat) : Int)) <|
(if (!((((a0.Doors.getD s1.toNat default).Kind) == ((a1.Doors.getD s1.toNat default).Kind)) && ((((a0.Doors.getD s1.toNat default).Outer) == ((a1.Doors.getD s1.toNat default).Outer)) && ((((a0.Doors.getD s1.toNat default).Inner) == ((a1.Doors.getD s1.toNat default).Inner)) && ((((a0.Doors.getD s1.toNat default).InnerPort) == ((a1.Doors.getD s1.toNat default).InnerPort)) && true))))) = true then
 some (.inr (.inl ()))
else
 some (.inl (IntKind.i64.wrap (s1 + 1))))
else
 some (.inr (.inr ())))) 0) fun x4 =>
(match x4 with
| .inl d7 =>
 some false
| .inr d8 =>
 bd (lp (σ := Int) (β := (Unit ⊕ Unit)) (fun s9 =>
(if (decide (s9 < ((a0.Entries.length : Nat) : Int))) = true then
 gd ((0 : Int) ≤ s9 ∧ s9 < ((a0.Entries.length : Nat) : Int)) <|
 gd ((0 : Int) ≤ s9 ∧ s9 < ((a1.Entries.length : Nat) : Int)) <|
(if (!((((a0.Entries.getD s9.toNat default).Kind) == ((a1.Entries.getD s9.toNat default).Kind)) && ((((a0.Entries.getD s9.toNat default).Peer) == ((a1.Entries.getD s9.toNat default).Peer)) && ((((a0.Entries.getD s9.toNat default).PeerPort) == ((a1.Entries.getD s9.toNat default).PeerPort)) && ((((a0.Entries.getD s9.toNat default).Outer) == ((a1.Entries.getD s9.toNat default).Outer)) && ((((a0.Entries.getD s9.toNat default).Inner) == ((a1.Entries.getD s9.toNat default).Inner)) && ((((a0.Entries.getD s9.toNat default).InnerPort) == ((a1.Entries.getD s9.toNat default).InnerPort)) && ((((a0.Entries.getD s9.toNat default).Last) == ((a1.Entries.getD s9.toNat default).Last)) && true)))))))) = true then
 some (.inr (.inl ()))
else
 some (.inl (IntKind.i64.wrap (s9 + 1))))
else
 some (.inr (.inr ())))) 0) fun x12 =>
(match x12 with
| .inl d15 =>
 some false
| .inr d16 =>
 some true)))

theorem laws_wvBook_c {a0 : NatBook} {a1 : NatBook} {r : Bool} (h : laws_wvBook_m a0 a1 = some r) : PureC Try.prog 11 [.agg [.d (.int .i64 a0.Addr), .d (.int .i64 a0.Len), .d (.int .i64 a0.Own), .d (.int .i64 a0.Low), .d (.int .i64 a0.High), .d (slD NatDoor.enc a0.Doors), .d (.int .i64 a0.Now), .d (slD NatEntry.enc a0.Entries)], .agg [.d (.int .i64 a1.Addr), .d (.int .i64 a1.Len), .d (.int .i64 a1.Own), .d (.int .i64 a1.Low), .d (.int .i64 a1.High), .d (slD NatDoor.enc a1.Doors), .d (.int .i64 a1.Now), .d (slD NatEntry.enc a1.Entries)]] (.d (.bool r)) [] := by
  refine pureC_x tOk (fn := Try.f11) (c := codeOf Try.f11) rfl rfl ?_
  unfold laws_wvBook_m at h
  conv => whnf
  refine seq_in tOk ?_
  conv => whnf
  refine andI h (fun _ h => ?_) (fun _ h => ?_)
  · conv => whnf
    obtain rfl := Option.some.inj h
    exact lfP []
  · conv => whnf
    refine seq_in tOk ?_
    conv => whnf
    obtain ⟨x4, hx4, h⟩ := bd_some h
    refine loop_m tOk hx4 (fun s1 => ⟨0, 101, [(2, .ref 2 0 0), (3, .ref 3 0 0), (5, .d (.int .i64 s1))], [], [(3, .box 26 [.d (.int .i64 a1.Addr), .d (.int .i64 a1.Len), .d (.int .i64 a1.Own), .d (.int .i64 a1.Low), .d (.int .i64 a1.High), .d (slD NatDoor.enc a1.Doors), .d (.int .i64 a1.Now), .d (slD NatEntry.enc a1.Entries)]), (2, .box 26 [.d (.int .i64 a0.Addr), .d (.int .i64 a0.Len), .d (.int .i64 a0.Own), .d (.int .i64 a0.Low), .d (.int .i64 a0.High), .d (slD NatDoor.enc a0.Doors), .d (.int .i64 a0.Now), .d (slD NatEntry.enc a0.Entries)])], []⟩) ?_ ?_
    · exact leX []
    · clear hx4
      intro s1 y2 g3 hy2
      conv => whnf
      refine seq_in tOk ?_
      conv => whnf
      refine andI g3 (fun _ g3 => ?_) (fun _ g3 => ?_)
      · conv => whnf
        refine seq_in tOk ?_
        conv => whnf
        obtain ⟨g5, g3⟩ := gd_some g3
        obtain ⟨g6, g3⟩ := gd_some g3
        refine draw_u tOk [] 11 [] [0, 1, 0, 7, 15, 0, 32, 0, 224, 480, 1023] [] ?_
        conv => whnf
        refine And.intro g5 ?_
        clear g5
        conv => whnf
        refine And.intro g6 ?_
        clear g6
        conv => whnf
        refine And.intro (by kernel_rfl) ?_
        conv => whnf
        refine andI g3 (fun _ g3 => ?_) (fun _ g3 => ?_)
        · conv => whnf
          obtain rfl := Option.some.inj g3
          obtain rfl := hy2 _ rfl
          obtain rfl := Option.some.inj h
          exact lfP []
        · conv => whnf
          obtain rfl := Option.some.inj g3
          exact ⟨_, rfl, leX []⟩
      · conv => whnf
        obtain rfl := Option.some.inj g3
        obtain rfl := hy2 _ rfl
        refine seq_in tOk ?_
        conv => whnf
        obtain ⟨x12, hx12, h⟩ := bd_some h
        refine loop_m tOk hx12 (fun s9 => ⟨0, 101, [(2, .ref 2 0 0), (3, .ref 3 0 0), (6, .d (.int .i64 s9))], [], [(3, .box 26 [.d (.int .i64 a1.Addr), .d (.int .i64 a1.Len), .d (.int .i64 a1.Own), .d (.int .i64 a1.Low), .d (.int .i64 a1.High), .d (slD NatDoor.enc a1.Doors), .d (.int .i64 a1.Now), .d (slD NatEntry.enc a1.Entries)]), (2, .box 26 [.d (.int .i64 a0.Addr), .d (.int .i64 a0.Len), .d (.int .i64 a0.Own), .d (.int .i64 a0.Low), .d (.int .i64 a0.High), .d (slD NatDoor.enc a0.Doors), .d (.int .i64 a0.Now), .d (slD NatEntry.enc a0.Entries)])], []⟩) ?_ ?_
        · exact leX []
        · clear hx12
          intro s9 y10 g11 hy10
          conv => whnf
          refine seq_in tOk ?_
          conv => whnf
          refine andI g11 (fun _ g11 => ?_) (fun _ g11 => ?_)
          · conv => whnf
            refine seq_in tOk ?_
            conv => whnf
            obtain ⟨g13, g11⟩ := gd_some g11
            obtain ⟨g14, g11⟩ := gd_some g11
            refine draw_u tOk [] 11 [] [0, 1, 0, 7, 15, 0, 32, 0, 224, 480, 1023] [] ?_
            conv => whnf
            refine And.intro g13 ?_
            clear g13
            conv => whnf
            refine And.intro g14 ?_
            clear g14
            conv => whnf
            refine And.intro (by kernel_rfl) ?_
            conv => whnf
            refine andI g11 (fun _ g11 => ?_) (fun _ g11 => ?_)
            · conv => whnf
              obtain rfl := Option.some.inj g11
              obtain rfl := hy10 _ rfl
              obtain rfl := Option.some.inj h
              exact lfP []
            · conv => whnf
              obtain rfl := Option.some.inj g11
              exact ⟨_, rfl, leX []⟩
          · conv => whnf
            obtain rfl := Option.some.inj g11
            obtain rfl := hy10 _ rfl
            obtain rfl := Option.some.inj h
            exact lfP []

noncomputable def impl_NatBack_m (a0 : NatFlow) : Option (NatFlow) :=
 some (⟨a0.Kind, a0.To, a0.ToPort, a0.From, a0.FromPort⟩ : NatFlow)

theorem impl_NatBack_c {a0 : NatFlow} {r : NatFlow} (h : impl_NatBack_m a0 = some r) : PureC Try.prog 16 [.agg [.d (.int .i64 a0.Kind), .d (.int .i64 a0.From), .d (.int .i64 a0.FromPort), .d (.int .i64 a0.To), .d (.int .i64 a0.ToPort)]] (.agg [.d (.int .i64 r.Kind), .d (.int .i64 r.From), .d (.int .i64 r.FromPort), .d (.int .i64 r.To), .d (.int .i64 r.ToPort)]) [] := by
  refine pureC_x tOk (fn := Try.f16) (c := codeOf Try.f16) rfl rfl ?_
  unfold impl_NatBack_m at h
  conv => whnf
  obtain rfl := Option.some.inj h
  exact lfP []

noncomputable def impl_NatIn_m (a0 : NatBook) (a1 : NatFlow) : Option (NatFlow × Int) :=
 bd (impl_NatBookOk_m a0) fun x1 =>
(if (!x1) = true then
 some ((⟨0, 0, 0, 0, 0⟩ : NatFlow), 1)
else
 bd (impl_NatFlowOk_m a1) fun x2 =>
(if (!x2) = true then
 some ((⟨0, 0, 0, 0, 0⟩ : NatFlow), 2)
else
 bd (gcall ((a1.To != a0.Own) = false) (impl_NatBook_inside_m a0 a1.From)) fun x3 =>
(if (((a1.To != a0.Own) || x3) || (a1.From == a0.Own)) = true then
 some ((⟨0, 0, 0, 0, 0⟩ : NatFlow), 3)
else
 bd (lp (σ := Int) (β := ((Int × Int) ⊕ Unit)) (fun s4 =>
(if (decide (s4 < ((a0.Doors.length : Nat) : Int))) = true then
 gd ((0 : Int) ≤ s4 ∧ s4 < ((a0.Doors.length : Nat) : Int)) <|
(if ((((a0.Doors.getD s4.toNat default).Kind) == a1.Kind) && (((a0.Doors.getD s4.toNat default).Outer) == a1.ToPort)) = true then
 some (.inr (.inl ((a0.Doors.getD s4.toNat default).Inner, (a0.Doors.getD s4.toNat default).InnerPort)))
else
 some (.inl (IntKind.i64.wrap (s4 + 1))))
else
 some (.inr (.inr ())))) 0) fun x7 =>
(match x7 with
| .inl d9 =>
 some ({ a1 with To := d9.1, ToPort := d9.2 }, 0)
| .inr d10 =>
 bd (lp (σ := Int) (β := ((Int × Int × Int × Int × Int) ⊕ Unit)) (fun s11 =>
(if (decide (s11 < ((a0.Entries.length : Nat) : Int))) = true then
 gd ((0 : Int) ≤ s11 ∧ s11 < ((a0.Entries.length : Nat) : Int)) <|
 bd (impl_NatBook_lives_m a0 (a0.Entries.getD s11.toNat default)) fun x16 =>
(if ((((x16 && (((a0.Entries.getD s11.toNat default).Kind) == a1.Kind)) && (((a0.Entries.getD s11.toNat default).Peer) == a1.From)) && (((a0.Entries.getD s11.toNat default).PeerPort) == a1.FromPort)) && (((a0.Entries.getD s11.toNat default).Outer) == a1.ToPort)) = true then
 bd (impl_NatEntry_flow_m (a0.Entries.getD s11.toNat default)) fun x17 =>
 bd (impl_NatBack_m x17) fun x18 =>
 some (.inr (.inl (x18.Kind, x18.From, x18.FromPort, x18.To, x18.ToPort)))
else
 some (.inl (IntKind.i64.wrap (s11 + 1))))
else
 some (.inr (.inr ())))) 0) fun x14 =>
(match x14 with
| .inl d19 =>
 some ((⟨d19.1, d19.2.1, d19.2.2.1, d19.2.2.2.1, d19.2.2.2.2⟩ : NatFlow), 0)
| .inr d20 =>
 some ((⟨0, 0, 0, 0, 0⟩ : NatFlow), 6))))))

theorem impl_NatIn_c {a0 : NatBook} {a1 : NatFlow} {r : NatFlow × Int} (h : impl_NatIn_m a0 a1 = some r) : PureC Try.prog 15 [.agg [.d (.int .i64 a0.Addr), .d (.int .i64 a0.Len), .d (.int .i64 a0.Own), .d (.int .i64 a0.Low), .d (.int .i64 a0.High), .d (slD NatDoor.enc a0.Doors), .d (.int .i64 a0.Now), .d (slD NatEntry.enc a0.Entries)], .agg [.d (.int .i64 a1.Kind), .d (.int .i64 a1.From), .d (.int .i64 a1.FromPort), .d (.int .i64 a1.To), .d (.int .i64 a1.ToPort)]] (.tup [.agg [.d (.int .i64 r.1.Kind), .d (.int .i64 r.1.From), .d (.int .i64 r.1.FromPort), .d (.int .i64 r.1.To), .d (.int .i64 r.1.ToPort)], .d (.int .i64 r.2)]) [] := by
  refine pureC_x tOk (fn := Try.f15) (c := codeOf Try.f15) rfl rfl ?_
  unfold impl_NatIn_m at h
  conv => whnf
  refine seq_in tOk ?_
  conv => whnf
  obtain ⟨x1, hx1, h⟩ := bd_some h
  refine cC 0 (impl_NatBookOk_c hx1) ?_
  clear hx1
  conv => whnf
  refine andI h (fun _ h => ?_) (fun _ h => ?_)
  · conv => whnf
    obtain rfl := Option.some.inj h
    exact lfP []
  · conv => whnf
    obtain ⟨x2, hx2, h⟩ := bd_some h
    refine cC 0 (impl_NatFlowOk_c hx2) ?_
    clear hx2
    conv => whnf
    refine andI h (fun _ h => ?_) (fun _ h => ?_)
    · conv => whnf
      obtain rfl := Option.some.inj h
      exact lfP []
    · conv => whnf
      obtain ⟨x3, hx3, h⟩ := bd_some h
      refine cG (fun c0 => impl_NatBook_inside_c (gcall_some hx3 c0)) ?_
      conv => whnf
      refine andI h (fun _ h => ?_) (fun _ h => ?_)
      · conv => whnf
        obtain rfl := Option.some.inj h
        exact lfP []
      · conv => whnf
        refine seq_in tOk ?_
        conv => whnf
        obtain ⟨x7, hx7, h⟩ := bd_some h
        refine loop_m tOk hx7 (fun s4 => ⟨0, 114, [(2, .ref 2 0 0), (3, .ref 3 0 0), (4, .ref 4 0 0), (41, .d (slD NatDoor.enc a0.Doors)), (42, .d (.int .i64 ((a0.Doors.length : Nat) : Int))), (43, .d (.int .i64 s4))], [], [(4, .box 31 [.d (.int .i64 0), .d (.int .i64 0), .d (.int .i64 0), .d (.int .i64 0), .d (.int .i64 0)]), (3, .box 31 [.d (.int .i64 a1.Kind), .d (.int .i64 a1.From), .d (.int .i64 a1.FromPort), .d (.int .i64 a1.To), .d (.int .i64 a1.ToPort)]), (2, .box 26 [.d (.int .i64 a0.Addr), .d (.int .i64 a0.Len), .d (.int .i64 a0.Own), .d (.int .i64 a0.Low), .d (.int .i64 a0.High), .d (slD NatDoor.enc a0.Doors), .d (.int .i64 a0.Now), .d (slD NatEntry.enc a0.Entries)])], []⟩) ?_ ?_
        · exact leX []
        · clear hx7
          intro s4 y5 g6 hy5
          conv => whnf
          refine seq_in tOk ?_
          conv => whnf
          refine andI g6 (fun _ g6 => ?_) (fun _ g6 => ?_)
          · conv => whnf
            refine seq_in tOk ?_
            conv => whnf
            refine gdI g6 (fun g6 => ?_)
            conv => whnf
            refine andI g6 (fun _ g6 => ?_) (fun _ g6 => ?_)
            · conv => whnf
              obtain rfl := Option.some.inj g6
              obtain rfl := hy5 _ rfl
              obtain rfl := Option.some.inj h
              exact lfP []
            · conv => whnf
              obtain rfl := Option.some.inj g6
              exact ⟨_, rfl, leX []⟩
          · conv => whnf
            obtain rfl := Option.some.inj g6
            obtain rfl := hy5 _ rfl
            refine seq_in tOk ?_
            conv => whnf
            obtain ⟨x14, hx14, h⟩ := bd_some h
            refine loop_m tOk hx14 (fun s11 => ⟨0, 114, [(2, .ref 2 0 0), (3, .ref 3 0 0), (4, .ref 4 0 0), (72, .d (slD NatEntry.enc a0.Entries)), (73, .d (.int .i64 ((a0.Entries.length : Nat) : Int))), (74, .d (.int .i64 s11))], [], [(4, .box 31 [.d (.int .i64 0), .d (.int .i64 0), .d (.int .i64 0), .d (.int .i64 0), .d (.int .i64 0)]), (3, .box 31 [.d (.int .i64 a1.Kind), .d (.int .i64 a1.From), .d (.int .i64 a1.FromPort), .d (.int .i64 a1.To), .d (.int .i64 a1.ToPort)]), (2, .box 26 [.d (.int .i64 a0.Addr), .d (.int .i64 a0.Len), .d (.int .i64 a0.Own), .d (.int .i64 a0.Low), .d (.int .i64 a0.High), .d (slD NatDoor.enc a0.Doors), .d (.int .i64 a0.Now), .d (slD NatEntry.enc a0.Entries)])], []⟩) ?_ ?_
            · exact leX []
            · clear hx14
              intro s11 y12 g13 hy12
              conv => whnf
              refine seq_in tOk ?_
              conv => whnf
              refine andI g13 (fun _ g13 => ?_) (fun _ g13 => ?_)
              · conv => whnf
                refine seq_in tOk ?_
                conv => whnf
                refine gdI g13 (fun g13 => ?_)
                conv => whnf
                obtain ⟨x16, hx16, g13⟩ := bd_some g13
                refine cC 0 (impl_NatBook_lives_c hx16) ?_
                clear hx16
                conv => whnf
                refine andI g13 (fun _ g13 => ?_) (fun _ g13 => ?_)
                · conv => whnf
                  obtain ⟨x17, hx17, g13⟩ := bd_some g13
                  refine cC 0 (impl_NatEntry_flow_c hx17) ?_
                  clear hx17
                  conv => whnf
                  obtain ⟨x18, hx18, g13⟩ := bd_some g13
                  refine cC 0 (impl_NatBack_c hx18) ?_
                  clear hx18
                  conv => whnf
                  obtain rfl := Option.some.inj g13
                  obtain rfl := hy12 _ rfl
                  obtain rfl := Option.some.inj h
                  exact lfP []
                · conv => whnf
                  obtain rfl := Option.some.inj g13
                  exact ⟨_, rfl, leX []⟩
              · conv => whnf
                obtain rfl := Option.some.inj g13
                obtain rfl := hy12 _ rfl
                obtain rfl := Option.some.inj h
                exact lfP []

noncomputable def impl_NatBook_outPort_r05_m (a0 : NatBook) (a1 : NatFlow) : Option (Int × Int × NatBook) :=
 bd (lp (σ := Int) (β := (Int ⊕ Unit)) (fun s1 =>
(if (decide (s1 < ((a0.Doors.length : Nat) : Int))) = true then
 gd ((0 : Int) ≤ s1 ∧ s1 < ((a0.Doors.length : Nat) : Int)) <|
(if (((((a0.Doors.getD s1.toNat default).Kind) == a1.Kind) && (((a0.Doors.getD s1.toNat default).Inner) == a1.From)) && (((a0.Doors.getD s1.toNat default).InnerPort) == a1.FromPort)) = true then
 some (.inr (.inl ((a0.Doors.getD s1.toNat default).Outer)))
else
 some (.inl (IntKind.i64.wrap (s1 + 1))))
else
 some (.inr (.inr ())))) 0) fun x4 =>
(match x4 with
| .inl d6 =>
 some (d6, 0, a0)
| .inr d7 =>
 bd (lp (σ := Int) (β := ((Int × (List NatEntry)) ⊕ Unit)) (fun s8 =>
(if (decide (s8 < ((a0.Entries.length : Nat) : Int))) = true then
 gd ((0 : Int) ≤ s8 ∧ s8 < ((a0.Entries.length : Nat) : Int)) <|
 bd (impl_NatBook_lives_m a0 (a0.Entries.getD s8.toNat default)) fun x13 =>
 bd (gcall (x13 = true) (impl_NatEntry_flow_m (a0.Entries.getD s8.toNat default))) fun x14 =>
(if (x13 && ((x14.Kind == a1.Kind) && ((x14.From == a1.From) && ((x14.FromPort == a1.FromPort) && ((x14.To == a1.To) && ((x14.ToPort == a1.ToPort) && true)))))) = true then
 gd ((0 : Int) ≤ s8 ∧ s8 < ((a0.Entries.length : Nat) : Int)) <|
 some (.inr (.inl ((a0.Entries.getD s8.toNat default).Outer, a0.Entries.set s8.toNat ({ (a0.Entries.getD s8.toNat default) with Last := a0.Now }))))
else
 some (.inl (IntKind.i64.wrap (s8 + 1))))
else
 some (.inr (.inr ())))) 0) fun x11 =>
(match x11 with
| .inl d16 =>
 some (d16.1, 0, { a0 with Entries := d16.2 })
| .inr d17 =>
(if (((a0.Entries.length : Nat) : Int) == 16) = true then
 some (0, 4, a0)
else
 bd (impl_NatBook_freePort_m a0 a1) fun x18 =>
(if (x18 == 0) = true then
 some (0, 5, a0)
else
 bd (slices_BinarySearchFunc_NatEntry_NatEntry_NatEntry_impl_NatEntry_compare_m a0.Entries (⟨a1.Kind, a1.To, a1.ToPort, x18, a1.From, a1.FromPort, a0.Now⟩ : NatEntry)) fun x19 =>
 bd (slices_Insert_NatEntry_NatEntry_m a0.Entries x19.1 ([(⟨a1.Kind, a1.To, a1.ToPort, x18, a1.From, a1.FromPort, a0.Now⟩ : NatEntry)] : List NatEntry)) fun x20 =>
 some (x18, 0, { a0 with Entries := x20 })))))

theorem impl_NatBook_outPort_r05_c {a0 : NatBook} {a1 : NatFlow} {r : Int × Int × NatBook} (h : impl_NatBook_outPort_r05_m a0 a1 = some r) : EffC Try.prog 32 [.ref 9000 0 0, .agg [.d (.int .i64 a1.Kind), .d (.int .i64 a1.From), .d (.int .i64 a1.FromPort), .d (.int .i64 a1.To), .d (.int .i64 a1.ToPort)]] [(9000, .box 26 [.d (.int .i64 a0.Addr), .d (.int .i64 a0.Len), .d (.int .i64 a0.Own), .d (.int .i64 a0.Low), .d (.int .i64 a0.High), .osl 9001 0 a0.Doors.length, .d (.int .i64 a0.Now), .osl 9002 0 a0.Entries.length]), (9001, .arr 66 4 a0.Doors.length (rows NatDoor.enc a0.Doors)), (9002, .arr 68 7 a0.Entries.length (rows NatEntry.enc a0.Entries))] (.tup [.d (.int .i64 r.1), .d (.int .i64 r.2.1)]) [(9000, .box 26 [.d (.int .i64 a0.Addr), .d (.int .i64 a0.Len), .d (.int .i64 a0.Own), .d (.int .i64 a0.Low), .d (.int .i64 a0.High), .osl 5001 0 r.2.2.Doors.length, .d (.int .i64 a0.Now), .osl 5002 0 r.2.2.Entries.length]), (5001, .arr 66 4 r.2.2.Doors.length (rows NatDoor.enc r.2.2.Doors)), (5002, .arr 68 7 r.2.2.Entries.length (rows NatEntry.enc r.2.2.Entries))] := by
  refine effC_x tOk (fn := Try.f32) (c := codeOf Try.f32) rfl rfl ?_
  unfold impl_NatBook_outPort_r05_m at h
  conv => whnf
  refine seq_in tOk ?_
  conv => whnf
  obtain ⟨x4, hx4, h⟩ := bd_some h
  refine loop_m tOk hx4 (fun s1 => ⟨0, 130, [(0, .ref 9000 0 0), (3, .ref 3 0 0), (17, .osl 9001 0 a0.Doors.length), (18, .d (.int .i64 ((a0.Doors.length : Nat) : Int))), (19, .d (.int .i64 s1))], [], [(3, .box 31 [.d (.int .i64 a1.Kind), .d (.int .i64 a1.From), .d (.int .i64 a1.FromPort), .d (.int .i64 a1.To), .d (.int .i64 a1.ToPort)]), (9000, .box 26 [.d (.int .i64 a0.Addr), .d (.int .i64 a0.Len), .d (.int .i64 a0.Own), .d (.int .i64 a0.Low), .d (.int .i64 a0.High), .osl 9001 0 a0.Doors.length, .d (.int .i64 a0.Now), .osl 9002 0 a0.Entries.length]), (9001, .arr 66 4 a0.Doors.length (rows NatDoor.enc a0.Doors)), (9002, .arr 68 7 a0.Entries.length (rows NatEntry.enc a0.Entries))], [⟨[(0, .ref 9000 0 0)], []⟩]⟩) ?_ ?_
  · exact leX []
  · clear hx4
    intro s1 y2 g3 hy2
    conv => whnf
    refine seq_in tOk ?_
    conv => whnf
    refine andI g3 (fun _ g3 => ?_) (fun _ g3 => ?_)
    · conv => whnf
      refine seq_in tOk ?_
      conv => whnf
      refine gdI g3 (fun g3 => ?_)
      conv => whnf
      refine andI g3 (fun _ g3 => ?_) (fun _ g3 => ?_)
      · conv => whnf
        obtain rfl := Option.some.inj g3
        obtain rfl := hy2 _ rfl
        obtain rfl := Option.some.inj h
        exact lfE [.s [(5001, 9001), (5002, 9002), (9001, 5001), (9002, 5002)]]
      · conv => whnf
        obtain rfl := Option.some.inj g3
        exact ⟨_, rfl, leX []⟩
    · conv => whnf
      obtain rfl := Option.some.inj g3
      obtain rfl := hy2 _ rfl
      refine seq_in tOk ?_
      conv => whnf
      obtain ⟨x11, hx11, h⟩ := bd_some h
      refine loop_m tOk hx11 (fun s8 => ⟨0, 130, [(0, .ref 9000 0 0), (3, .ref 3 0 0), (48, .osl 9002 0 a0.Entries.length), (49, .d (.int .i64 ((a0.Entries.length : Nat) : Int))), (50, .d (.int .i64 s8))], [], [(3, .box 31 [.d (.int .i64 a1.Kind), .d (.int .i64 a1.From), .d (.int .i64 a1.FromPort), .d (.int .i64 a1.To), .d (.int .i64 a1.ToPort)]), (9000, .box 26 [.d (.int .i64 a0.Addr), .d (.int .i64 a0.Len), .d (.int .i64 a0.Own), .d (.int .i64 a0.Low), .d (.int .i64 a0.High), .osl 9001 0 a0.Doors.length, .d (.int .i64 a0.Now), .osl 9002 0 a0.Entries.length]), (9001, .arr 66 4 a0.Doors.length (rows NatDoor.enc a0.Doors)), (9002, .arr 68 7 a0.Entries.length (rows NatEntry.enc a0.Entries))], [⟨[(0, .ref 9000 0 0)], []⟩]⟩) ?_ ?_
      · exact leX []
      · clear hx11
        intro s8 y9 g10 hy9
        conv => whnf
        refine seq_in tOk ?_
        conv => whnf
        refine andI g10 (fun _ g10 => ?_) (fun _ g10 => ?_)
        · conv => whnf
          refine seq_in tOk ?_
          conv => whnf
          refine gdI g10 (fun g10 => ?_)
          conv => whnf
          obtain ⟨x13, hx13, g10⟩ := bd_some g10
          obtain ⟨x14, hx14, g10⟩ := bd_some g10
          refine draw_u tOk [.u 4 0 (.d (.bool x13)) [], .u 7 0 (.agg [.d (.int .i64 x14.Kind), .d (.int .i64 x14.From), .d (.int .i64 x14.FromPort), .d (.int .i64 x14.To), .d (.int .i64 x14.ToPort)]) []] 11 [] [0, 1, 3, 0, 15, 31, 63, 127, 63, 511, 1023] [] ?_
          conv => whnf
          refine And.intro (callD_any (impl_NatBook_lives_c hx13) (by kernel_rfl)) ?_
          conv => whnf
          refine And.intro (callDG_if rfl rfl rfl rfl (by intro c0; exact impl_NatEntry_flow_c (gcall_some hx14 c0))) ?_
          conv => whnf
          refine And.intro (by kernel_rfl) ?_
          conv => whnf
          refine andI g10 (fun _ g10 => ?_) (fun _ g10 => ?_)
          · conv => whnf
            obtain ⟨g15, g10⟩ := gd_some g10
            refine draw_u tOk [] 11 [] [0, 1, 3, 7, 0, 0, 32, 96, 224, 511, 1023] [2047] ?_
            conv => whnf
            refine And.intro g15 ?_
            clear g15
            conv => whnf
            refine And.intro (by kernel_rfl) ?_
            conv => whnf
            refine ⟨rows NatEntry.enc (a0.Entries.set s8.toNat ({ (a0.Entries.getD s8.toNat default) with Last := a0.Now })), store_rows' lenA rfl, ?_⟩
            conv => whnf
            obtain rfl := Option.some.inj g10
            obtain rfl := hy9 _ rfl
            obtain rfl := Option.some.inj h
            exact lfE [.s [(5001, 9001), (5002, 9002), (9001, 5001), (9002, 5002)]]
          · conv => whnf
            obtain rfl := Option.some.inj g10
            exact ⟨_, rfl, leX []⟩
        · conv => whnf
          obtain rfl := Option.some.inj g10
          obtain rfl := hy9 _ rfl
          refine seq_in tOk ?_
          conv => whnf
          refine andI h (fun _ h => ?_) (fun _ h => ?_)
          · conv => whnf
            obtain rfl := Option.some.inj h
            exact lfE [.s [(5001, 9001), (5002, 9002), (9001, 5001), (9002, 5002)]]
          · conv => whnf
            obtain ⟨x18, hx18, h⟩ := bd_some h
            refine draw_u tOk [.u 4 0 (.d (.int .i64 x18)) []] 6 [] [0, 1, 3, 0, 15, 31] [] ?_
            conv => whnf
            refine And.intro (callD_any (impl_NatBook_freePort_c hx18) (by kernel_rfl)) ?_
            conv => whnf
            refine And.intro (by kernel_rfl) ?_
            conv => whnf
            refine seq_in tOk ?_
            conv => whnf
            refine andI h (fun _ h => ?_) (fun _ h => ?_)
            · conv => whnf
              obtain rfl := Option.some.inj h
              exact lfE [.s [(5001, 9001), (5002, 9002), (9001, 5001), (9002, 5002)]]
            · conv => whnf
              refine draw_u tOk [] 17 [] [0, 1, 0, 4, 0, 16, 0, 0, 128, 0, 512, 0, 2048, 6144, 14336, 32767, 0] [131071] ?_
              conv => whnf
              refine And.intro (by kernel_rfl) ?_
              conv => whnf
              obtain ⟨x19, hx19, h⟩ := bd_some h
              refine draw_u tOk [.u 5 0 (.tup [.d (.int .i64 x19.1), .d (.bool x19.2)]) []] 11 [] [0, 1, 3, 7, 0, 31, 63, 127, 127, 255, 1023] [] ?_
              conv => whnf
              refine And.intro (callD_any (slices_BinarySearchFunc_NatEntry_NatEntry_NatEntry_impl_NatEntry_compare_c hx19) (by kernel_rfl)) ?_
              conv => whnf
              refine And.intro (by kernel_rfl) ?_
              conv => whnf
              obtain ⟨x20, hx20, h⟩ := bd_some h
              refine draw_t tOk [.a 7 [] (.osl 125 0 (([(⟨a1.Kind, a1.To, a1.ToPort, x18, a1.From, a1.FromPort, a0.Now⟩ : NatEntry)] : List NatEntry).length)) [(125, .arr 68 7 (([(⟨a1.Kind, a1.To, a1.ToPort, x18, a1.From, a1.FromPort, a0.Now⟩ : NatEntry)] : List NatEntry).length) (rows NatEntry.enc ([(⟨a1.Kind, a1.To, a1.ToPort, x18, a1.From, a1.FromPort, a0.Now⟩ : NatEntry)] : List NatEntry)))], .e 8 [(9002, .arr 68 7 a0.Entries.length (rows NatEntry.enc a0.Entries)), (125, .arr 68 7 (([(⟨a1.Kind, a1.To, a1.ToPort, x18, a1.From, a1.FromPort, a0.Now⟩ : NatEntry)] : List NatEntry).length) (rows NatEntry.enc ([(⟨a1.Kind, a1.To, a1.ToPort, x18, a1.From, a1.FromPort, a0.Now⟩ : NatEntry)] : List NatEntry)))] (.osl 6001 0 x20.length) [(6001, .arr 68 7 x20.length (rows NatEntry.enc x20))] []] 11 [] [0, 0, 2, 6, 14, 0, 0, 64, 254, 511, 1023] [2047] [9002] ?_
              conv => whnf
              refine And.intro (by (conv => whnf); exact bldS (enc := NatEntry.enc) ([(⟨a1.Kind, a1.To, a1.ToPort, x18, a1.From, a1.FromPort, a0.Now⟩ : NatEntry)] : List NatEntry) ⟨rfl, rfl⟩) ?_
              conv => whnf
              refine And.intro (eD [(9000, 9002), (9001, 125)] 1000 (slices_Insert_NatEntry_NatEntry_c hx20)) ?_
              conv => whnf
              refine And.intro (by kernel_rfl) ?_
              conv => whnf
              obtain rfl := Option.some.inj h
              exact lfE [.s [(5001, 9001), (5002, 6001), (6001, 5002), (9001, 5001)]]

noncomputable def impl_NatOut_pu_o05_07_m (a0 : NatBook) (a1 : NatFlow) : Option (NatBook × NatFlow × Int) :=
 bd (impl_NatBookOk_m a0) fun x1 =>
(if (!x1) = true then
 some ((⟨0, 0, 0, 0, 0, [], 0, []⟩ : NatBook), (⟨0, 0, 0, 0, 0⟩ : NatFlow), 1)
else
 bd (impl_copyBook_m a0) fun x2 =>
 bd (impl_NatFlowOk_m a1) fun x3 =>
(if (!x3) = true then
 some (x2, (⟨0, 0, 0, 0, 0⟩ : NatFlow), 2)
else
 bd (impl_NatBook_inside_m a0 a1.From) fun x4 =>
 bd (gcall ((!x4) = false) (impl_NatBook_inside_m a0 a1.To)) fun x5 =>
(if (((!x4) || x5) || (a1.To == a0.Own)) = true then
 some (x2, (⟨0, 0, 0, 0, 0⟩ : NatFlow), 3)
else
 bd (impl_NatBook_outPort_r05_m x2 a1) fun x6 =>
(if (x6.2.1 != 0) = true then
 some ({ x2 with Doors := x6.2.2.Doors, Entries := x6.2.2.Entries }, (⟨0, 0, 0, 0, 0⟩ : NatFlow), x6.2.1)
else
 some ({ x2 with Doors := x6.2.2.Doors, Entries := x6.2.2.Entries }, { a1 with From := a0.Own, FromPort := x6.1 }, 0)))))

theorem impl_NatOut_pu_o05_07_c {a0 : NatBook} {a1 : NatFlow} {r : NatBook × NatFlow × Int} (h : impl_NatOut_pu_o05_07_m a0 a1 = some r) : PureC Try.prog 9 [.agg [.d (.int .i64 a0.Addr), .d (.int .i64 a0.Len), .d (.int .i64 a0.Own), .d (.int .i64 a0.Low), .d (.int .i64 a0.High), .d (slD NatDoor.enc a0.Doors), .d (.int .i64 a0.Now), .d (slD NatEntry.enc a0.Entries)], .agg [.d (.int .i64 a1.Kind), .d (.int .i64 a1.From), .d (.int .i64 a1.FromPort), .d (.int .i64 a1.To), .d (.int .i64 a1.ToPort)]] (.tup [.agg [.d (.int .i64 r.1.Addr), .d (.int .i64 r.1.Len), .d (.int .i64 r.1.Own), .d (.int .i64 r.1.Low), .d (.int .i64 r.1.High), .osl 5001 0 r.1.Doors.length, .d (.int .i64 r.1.Now), .osl 5002 0 r.1.Entries.length], .agg [.d (.int .i64 r.2.1.Kind), .d (.int .i64 r.2.1.From), .d (.int .i64 r.2.1.FromPort), .d (.int .i64 r.2.1.To), .d (.int .i64 r.2.1.ToPort)], .d (.int .i64 r.2.2)]) [⟨5001, 66, 4, r.1.Doors.length, rows NatDoor.enc r.1.Doors⟩, ⟨5002, 68, 7, r.1.Entries.length, rows NatEntry.enc r.1.Entries⟩] := by
  refine EffC.pure (M := [(5001, .arr 66 4 r.1.Doors.length (rows NatDoor.enc r.1.Doors)), (5002, .arr 68 7 r.1.Entries.length (rows NatEntry.enc r.1.Entries))]) ?_
  refine effC_x tOk (fn := Try.f9) (c := codeOf Try.f9) rfl rfl ?_
  unfold impl_NatOut_pu_o05_07_m at h
  conv => whnf
  refine seq_in tOk ?_
  conv => whnf
  obtain ⟨x1, hx1, h⟩ := bd_some h
  refine cC 0 (impl_NatBookOk_c hx1) ?_
  clear hx1
  conv => whnf
  refine andI h (fun _ h => ?_) (fun _ h => ?_)
  · conv => whnf
    obtain rfl := Option.some.inj h
    exact lfE [.k [2, 3], .p 5001 66 4 (rows NatDoor.enc ([] : List NatDoor)), .p 5002 68 7 (rows NatEntry.enc ([] : List NatEntry))]
  · conv => whnf
    obtain ⟨x2, hx2, h⟩ := bd_some h
    refine cC 1000 (impl_copyBook_c hx2) ?_
    clear hx2
    conv => whnf
    refine seq_in tOk ?_
    conv => whnf
    obtain ⟨x3, hx3, h⟩ := bd_some h
    refine cC 0 (impl_NatFlowOk_c hx3) ?_
    clear hx3
    conv => whnf
    refine andI h (fun _ h => ?_) (fun _ h => ?_)
    · conv => whnf
      obtain rfl := Option.some.inj h
      exact lfE [.s [(5001, 6001), (5002, 6002), (6001, 5001), (6002, 5002)]]
    · conv => whnf
      obtain ⟨x4, hx4, h⟩ := bd_some h
      refine cC 0 (impl_NatBook_inside_c hx4) ?_
      clear hx4
      conv => whnf
      obtain ⟨x5, hx5, h⟩ := bd_some h
      refine cG (fun c0 => impl_NatBook_inside_c (gcall_some hx5 c0)) ?_
      conv => whnf
      refine andI h (fun _ h => ?_) (fun _ h => ?_)
      · conv => whnf
        obtain rfl := Option.some.inj h
        exact lfE [.s [(5001, 6001), (5002, 6002), (6001, 5001), (6002, 5002)]]
      · conv => whnf
        obtain ⟨x6, hx6, h⟩ := bd_some h
        refine cE [(9000, 7), (9001, 6001), (9002, 6002)] 2000 (impl_NatBook_outPort_r05_c hx6) ?_
        conv => whnf
        refine seq_in tOk ?_
        conv => whnf
        refine andI h (fun _ h => ?_) (fun _ h => ?_)
        · conv => whnf
          obtain rfl := Option.some.inj h
          exact lfE [.s [(5001, 7001), (5002, 7002), (7001, 5001), (7002, 5002)]]
        · conv => whnf
          refine draw_t tOk [.a 11 [(4, .box 26 [.d (.int .i64 0), .d (.int .i64 0), .d (.int .i64 0), .d (.int .i64 0), .d (.int .i64 0), .d (.nil), .d (.int .i64 0), .d (.nil)])] (.any) [(4, .box 26 [.d (.int .i64 x2.Addr), .d (.int .i64 x2.Len), .d (.int .i64 x2.Own), .d (.int .i64 x2.Low), .d (.int .i64 x2.High), .osl 7001 0 x6.2.2.Doors.length, .d (.int .i64 x2.Now), .osl 7002 0 x6.2.2.Entries.length])], .a 12 [(5, .box 31 [.d (.int .i64 0), .d (.int .i64 0), .d (.int .i64 0), .d (.int .i64 0), .d (.int .i64 0)])] (.any) [(5, .box 31 [.d (.int .i64 a1.Kind), .d (.int .i64 a0.Own), .d (.int .i64 x6.1), .d (.int .i64 a1.To), .d (.int .i64 a1.ToPort)])]] 14 [] [0, 0, 2, 0, 8, 0, 0, 64, 0, 256, 1022, 1, 4095, 8191] [] [4, 5] ?_
          conv => whnf
          refine And.intro (by (conv => whnf); exact ⟨rfl, rfl⟩) ?_
          conv => whnf
          refine And.intro (by (conv => whnf); exact ⟨rfl, rfl⟩) ?_
          conv => whnf
          refine And.intro (by kernel_rfl) ?_
          conv => whnf
          obtain rfl := Option.some.inj h
          exact lfE [.s [(5001, 7001), (5002, 7002), (7001, 5001), (7002, 5002)]]

noncomputable def laws_FnNatThere_m (a0 : (List Int)) : Option (Bool) :=
(if (decide (((a0.length : Nat) : Int) > 1048576)) = true then
 some true
else
 bd (spec_DrawNatOut_m a0) fun x1 =>
 bd (impl_NatOut_m x1.1 x1.2) fun x2 =>
 bd (spec_NatOut_m x1.1 x1.2) fun x3 =>
 bd (gcall (((x2.2.2 != x3.2.2) || (!((x2.2.1.Kind == x3.2.1.Kind) && ((x2.2.1.From == x3.2.1.From) && ((x2.2.1.FromPort == x3.2.1.FromPort) && ((x2.2.1.To == x3.2.1.To) && ((x2.2.1.ToPort == x3.2.1.ToPort) && true))))))) = false) (laws_wvBook_m x2.1 x3.1)) fun x4 =>
(if (((x2.2.2 != x3.2.2) || (!((x2.2.1.Kind == x3.2.1.Kind) && ((x2.2.1.From == x3.2.1.From) && ((x2.2.1.FromPort == x3.2.1.FromPort) && ((x2.2.1.To == x3.2.1.To) && ((x2.2.1.ToPort == x3.2.1.ToPort) && true))))))) || (!x4)) = true then
 some false
else
(if (x2.2.2 != 0) = true then
 bd (gcall ((x2.2.2 == 1) = false ∧ ((x2.2.1.Kind == 0) && ((x2.2.1.From == 0) && ((x2.2.1.FromPort == 0) && ((x2.2.1.To == 0) && ((x2.2.1.ToPort == 0) && true))))) = true) (laws_wvBook_m x2.1 x1.1)) fun x5 =>
 some (((x2.2.1.Kind == 0) && ((x2.2.1.From == 0) && ((x2.2.1.FromPort == 0) && ((x2.2.1.To == 0) && ((x2.2.1.ToPort == 0) && true))))) && ((x2.2.2 == 1) || x5))
else
 bd (impl_NatBack_m x2.2.1) fun x6 =>
 bd (impl_NatIn_m x2.1 x6) fun x7 =>
 bd (gcall ((x7.2 != 0) = false) (impl_NatBack_m x7.1)) fun x8 =>
(if (((((x7.2 != 0) || (!((x8.Kind == x1.2.Kind) && ((x8.From == x1.2.From) && ((x8.FromPort == x1.2.FromPort) && ((x8.To == x1.2.To) && ((x8.ToPort == x1.2.ToPort) && true))))))) || (x2.2.1.From != x1.1.Own)) || (x2.2.1.To != x1.2.To)) || (x2.2.1.ToPort != x1.2.ToPort)) = true then
 some false
else
 bd (impl_NatOut_pu_o05_07_m x2.1 x1.2) fun x9 =>
 bd (gcall (((x9.2.2 == 0) && ((x9.2.1.Kind == x2.2.1.Kind) && ((x9.2.1.From == x2.2.1.From) && ((x9.2.1.FromPort == x2.2.1.FromPort) && ((x9.2.1.To == x2.2.1.To) && ((x9.2.1.ToPort == x2.2.1.ToPort) && true)))))) = true) (laws_wvBook_m x9.1 x2.1)) fun x10 =>
 some (((x9.2.2 == 0) && ((x9.2.1.Kind == x2.2.1.Kind) && ((x9.2.1.From == x2.2.1.From) && ((x9.2.1.FromPort == x2.2.1.FromPort) && ((x9.2.1.To == x2.2.1.To) && ((x9.2.1.ToPort == x2.2.1.ToPort) && true)))))) && x10)))))

theorem laws_FnNatThere_c {a0 : (List Int)} {r : Bool} (h : laws_FnNatThere_m a0 = some r) : PureC Try.prog 4 [.d (slD encByte a0)] (.d (.bool r)) [] := by
  refine pureC_x tOk (fn := Try.f4) (c := codeOf Try.f4) rfl rfl ?_
  unfold laws_FnNatThere_m at h
  conv => whnf
  refine seq_in tOk ?_
  conv => whnf
  refine andI h (fun _ h => ?_) (fun _ h => ?_)
  · conv => whnf
    obtain rfl := Option.some.inj h
    exact lfP []
  · conv => whnf
    obtain ⟨x1, hx1, h⟩ := bd_some h
    refine cE [] 0 (spec_DrawNatOut_c hx1) ?_
    conv => whnf
    obtain ⟨x2, hx2, h⟩ := bd_some h
    refine cE [] 1000 (impl_NatOut_c hx2) ?_
    conv => whnf
    obtain ⟨x3, hx3, h⟩ := bd_some h
    refine cC 2000 (spec_NatOut_c hx3) ?_
    clear hx3
    conv => whnf
    refine seq_in tOk ?_
    conv => whnf
    obtain ⟨x4, hx4, h⟩ := bd_some h
    refine cG (fun c0 => laws_wvBook_c (gcall_some hx4 c0)) ?_
    conv => whnf
    refine andI h (fun _ h => ?_) (fun _ h => ?_)
    · conv => whnf
      obtain rfl := Option.some.inj h
      exact lfP []
    · conv => whnf
      refine seq_in tOk ?_
      conv => whnf
      refine andI h (fun _ h => ?_) (fun _ h => ?_)
      · conv => whnf
        obtain ⟨x5, hx5, h⟩ := bd_some h
        refine cG (fun c0 c1 => laws_wvBook_c (gcall_some hx5 ⟨c0, c1⟩)) ?_
        conv => whnf
        obtain rfl := Option.some.inj h
        exact lfP []
      · conv => whnf
        obtain ⟨x6, hx6, h⟩ := bd_some h
        obtain ⟨x7, hx7, h⟩ := bd_some h
        refine draw_u tOk [.u 2 0 (.agg [.d (.int .i64 x6.Kind), .d (.int .i64 x6.From), .d (.int .i64 x6.FromPort), .d (.int .i64 x6.To), .d (.int .i64 x6.ToPort)]) [], .u 3 0 (.tup [.agg [.d (.int .i64 x7.1.Kind), .d (.int .i64 x7.1.From), .d (.int .i64 x7.1.FromPort), .d (.int .i64 x7.1.To), .d (.int .i64 x7.1.ToPort)], .d (.int .i64 x7.2)]) []] 8 [6] [0, 0, 2, 7, 15, 31, 31, 0] [191, 511] ?_
        conv => whnf
        refine And.intro (callD_any (impl_NatBack_c hx6) (by kernel_rfl)) ?_
        conv => whnf
        refine And.intro (callD_any (impl_NatIn_c hx7) (by kernel_rfl)) ?_
        conv => whnf
        refine And.intro (by kernel_rfl) ?_
        conv => whnf
        refine seq_in tOk ?_
        conv => whnf
        obtain ⟨x8, hx8, h⟩ := bd_some h
        refine draw_u tOk [.u 4 0 (.agg [.d (.int .i64 x8.Kind), .d (.int .i64 x8.From), .d (.int .i64 x8.FromPort), .d (.int .i64 x8.To), .d (.int .i64 x8.ToPort)]) []] 29 [] [0, 1, 3, 7, 15, 7, 63, 127, 255, 511, 1023, 511, 2559, 8191, 16383, 32767, 65535, 131071, 65535, 327679, 1048575, 2097151, 4194303, 8388607, 16777215, 8388607, 41943039, 134217727, 268435455] [] ?_
        conv => whnf
        refine And.intro (callDG_if rfl rfl rfl rfl (by intro c0; exact impl_NatBack_c (gcall_some hx8 c0))) ?_
        conv => whnf
        refine And.intro (by kernel_rfl) ?_
        conv => whnf
        refine andI h (fun _ h => ?_) (fun _ h => ?_)
        · conv => whnf
          obtain rfl := Option.some.inj h
          exact lfP []
        · conv => whnf
          obtain ⟨x9, hx9, h⟩ := bd_some h
          refine cC 3000 (impl_NatOut_pu_o05_07_c hx9) ?_
          clear hx9
          conv => whnf
          obtain ⟨x10, hx10, h⟩ := bd_some h
          refine cG (fun c0 => laws_wvBook_c (gcall_some hx10 c0)) ?_
          conv => whnf
          obtain rfl := Option.some.inj h
          exact lfP []

end Go.Proofs.Ytaoeomoepefojab
