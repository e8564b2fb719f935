/-
  What some of the program's functions compute: their models, and that the functions compute these; no condition.
-/
import Derived.Test.YtaoeomoepefojabTyz
import Derived.Test.YtaoeomoepefojabTbz
import Derived.Test.YtaoeomoepefojabAbz7
import Derived.Maps.OwnOps
import Derived.Maps.Views
import Derived.WalkKit
import Derived.Test.YtaoeomoepefojabKz2
set_option linter.all false
namespace Go.Proofs.Ytaoeomoepefojab
open Go Go.Ab
set_option maxRecDepth 100000
set_option maxHeartbeats 40000000
noncomputable def laws_FnNatOrder_m (a0 : (List Int)) (a1 : (List Int)) : Option (Bool) :=
(if ((decide (((a0.length : Nat) : Int) > 1048576)) || (decide (((a1.length : Nat) : Int) > 1048576))) = true then
 some true
else
 bd (spec_DrawNatCome_m a0) fun x1 =>
 bd (lp (σ := List NatFlow × Int) (β := ((List NatFlow))) (fun s2 =>
(if ((decide (s2.2 < ((x1.2.length : Nat) : Int))) && (decide (((s2.1.length : Nat) : Int) < 16))) = true then
 gd ((0 : Int) ≤ s2.2 ∧ s2.2 < ((x1.2.length : Nat) : Int)) <|
 gd ((decide (((x1.2.getD s2.2.toNat default).Kind) > 0)) = true → ((0 : Int) ≤ s2.2 ∧ s2.2 < ((x1.2.length : Nat) : Int))) <|
 bd (gcall ((decide (((x1.2.getD s2.2.toNat default).Kind) > 0)) = true) (spec_NatInside_m x1.1 ((x1.2.getD s2.2.toNat default).From))) fun x8 =>
(if ((decide (((x1.2.getD s2.2.toNat default).Kind) > 0)) && x8) = true then
 gd ((0 : Int) ≤ s2.2 ∧ s2.2 < ((x1.2.length : Nat) : Int)) <|
 bd (laws_wvPut_m s2.1 (x1.2.getD s2.2.toNat default)) fun x10 =>
 some (.inl (x10, IntKind.i64.wrap (s2.2 + 1)))
else
 some (.inl (s2.1, IntKind.i64.wrap (s2.2 + 1))))
else
 some (.inr s2.1))) (([] : List NatFlow), 0)) fun x5 =>
 bd (lp (σ := List NatFlow × Int × Int × Int × Int × Int × List NatDoor × Int × List NatEntry × Int) (β := (Unit ⊕ (Nat × (List NatFlow) × Int × Int × Int × Int × Int × (List NatDoor) × Int × (List NatEntry)))) (fun s12 =>
(if (decide (s12.2.2.2.2.2.2.2.2.2 < ((x5.length : Nat) : Int))) = true then
 gd ((0 : Int) ≤ s12.2.2.2.2.2.2.2.2.2 ∧ s12.2.2.2.2.2.2.2.2.2 < ((x5.length : Nat) : Int)) <|
 bd (impl_NatOut_m (⟨s12.2.1, s12.2.2.1, s12.2.2.2.1, s12.2.2.2.2.1, s12.2.2.2.2.2.1, s12.2.2.2.2.2.2.1, s12.2.2.2.2.2.2.2.1, s12.2.2.2.2.2.2.2.2.1⟩ : NatBook) (x5.getD s12.2.2.2.2.2.2.2.2.2.toNat default)) fun x17 =>
 gd ((0 : Int) ≤ s12.2.2.2.2.2.2.2.2.2 ∧ s12.2.2.2.2.2.2.2.2.2 < ((x5.length : Nat) : Int)) <|
 bd (spec_NatOut_m (⟨s12.2.1, s12.2.2.1, s12.2.2.2.1, s12.2.2.2.2.1, s12.2.2.2.2.2.1, s12.2.2.2.2.2.2.1, s12.2.2.2.2.2.2.2.1, s12.2.2.2.2.2.2.2.2.1⟩ : NatBook) (x5.getD s12.2.2.2.2.2.2.2.2.2.toNat default)) fun x19 =>
 bd (gcall (((x17.2.2 != x19.2.2) || (!((x17.2.1.Kind == x19.2.1.Kind) && ((x17.2.1.From == x19.2.1.From) && ((x17.2.1.FromPort == x19.2.1.FromPort) && ((x17.2.1.To == x19.2.1.To) && ((x17.2.1.ToPort == x19.2.1.ToPort) && true))))))) = false) (laws_wvBook_m x17.1 x19.1)) fun x20 =>
(if (((x17.2.2 != x19.2.2) || (!((x17.2.1.Kind == x19.2.1.Kind) && ((x17.2.1.From == x19.2.1.From) && ((x17.2.1.FromPort == x19.2.1.FromPort) && ((x17.2.1.To == x19.2.1.To) && ((x17.2.1.ToPort == x19.2.1.ToPort) && true))))))) || (!x20)) = true then
 some (.inr (.inl ()))
else
 gd (((s12.1.length) + (([x17.2.1] : List NatFlow).length)) * (40 + 1) ≤ 70368744177664) <|
 some (.inl ((s12.1 ++ ([x17.2.1] : List NatFlow)), x17.1.Addr, x17.1.Len, x17.1.Own, x17.1.Low, x17.1.High, x17.1.Doors, x17.1.Now, x17.1.Entries, IntKind.i64.wrap (s12.2.2.2.2.2.2.2.2.2 + 1))))
else
 some (.inr (.inr (s12.1.length, s12.1, s12.2.1, s12.2.2.1, s12.2.2.2.1, s12.2.2.2.2.1, s12.2.2.2.2.2.1, s12.2.2.2.2.2.2.1, s12.2.2.2.2.2.2.2.1, s12.2.2.2.2.2.2.2.2.1))))) (([] : List NatFlow), x1.1.Addr, x1.1.Len, x1.1.Own, x1.1.Low, x1.1.High, x1.1.Doors, x1.1.Now, x1.1.Entries, 0)) fun x15 =>
(match x15 with
| .inl d22 =>
 some false
| .inr d23 =>
 bd (α := Int) ((if (decide (((x5.length : Nat) : Int) > 0)) = true then
 gd ((((x5.length : Nat) : Int) : Int) ≠ 0) <|
 some ((((a1.length : Nat) : Int) : Int).tmod ((x5.length : Nat) : Int))
else
 some 0)) fun x24 =>
 bd (lp (σ := Int × Int × Int × Int × Int × List NatDoor × Int × List NatEntry × Int) (β := (Unit ⊕ (Int × Int × Int × Int × Int × (List NatDoor) × Int × (List NatEntry)))) (fun s28 =>
(if (decide (s28.2.2.2.2.2.2.2.2 < ((x5.length : Nat) : Int))) = true then
 gd ((((x5.length : Nat) : Int) : Int) ≠ 0) <|
 bd (α := Int) (gd ((2 : Int) ≠ 0) <|
(if (((((a0.length : Nat) : Int) : Int).tmod 2) == 1) = true then
 some (IntKind.i64.wrap ((IntKind.i64.wrap (((x5.length : Nat) : Int) - 1)) - ((IntKind.i64.wrap (s28.2.2.2.2.2.2.2.2 + x24) : Int).tmod ((x5.length : Nat) : Int))))
else
 some ((IntKind.i64.wrap (s28.2.2.2.2.2.2.2.2 + x24) : Int).tmod ((x5.length : Nat) : Int)))) fun x33 =>
 gd ((0 : Int) ≤ x33 ∧ x33 < ((x5.length : Nat) : Int)) <|
 bd (impl_NatOut_m (⟨s28.1, s28.2.1, s28.2.2.1, s28.2.2.2.1, s28.2.2.2.2.1, s28.2.2.2.2.2.1, s28.2.2.2.2.2.2.1, s28.2.2.2.2.2.2.2.1⟩ : NatBook) (x5.getD x33.toNat default)) fun x38 =>
 gd ((0 : Int) ≤ x33 ∧ x33 < ((d23.1 : Nat) : Int)) <|
(if (!((x38.2.1.Kind == ((d23.2.1.getD x33.toNat default).Kind)) && ((x38.2.1.From == ((d23.2.1.getD x33.toNat default).From)) && ((x38.2.1.FromPort == ((d23.2.1.getD x33.toNat default).FromPort)) && ((x38.2.1.To == ((d23.2.1.getD x33.toNat default).To)) && ((x38.2.1.ToPort == ((d23.2.1.getD x33.toNat default).ToPort)) && true)))))) = true then
 some (.inr (.inl ()))
else
 some (.inl (x38.1.Addr, x38.1.Len, x38.1.Own, x38.1.Low, x38.1.High, x38.1.Doors, x38.1.Now, x38.1.Entries, IntKind.i64.wrap (s28.2.2.2.2.2.2.2.2 + 1))))
else
 some (.inr (.inr (s28.1, s28.2.1, s28.2.2.1, s28.2.2.2.1, s28.2.2.2.2.1, s28.2.2.2.2.2.1, s28.2.2.2.2.2.2.1, s28.2.2.2.2.2.2.2.1))))) (x1.1.Addr, x1.1.Len, x1.1.Own, x1.1.Low, x1.1.High, x1.1.Doors, x1.1.Now, x1.1.Entries, 0)) fun x31 =>
(match x31 with
| .inl d40 =>
 some false
| .inr d41 =>
 bd (laws_wvBook_m (⟨d23.2.2.1, d23.2.2.2.1, d23.2.2.2.2.1, d23.2.2.2.2.2.1, d23.2.2.2.2.2.2.1, d23.2.2.2.2.2.2.2.1, d23.2.2.2.2.2.2.2.2.1, d23.2.2.2.2.2.2.2.2.2⟩ : NatBook) (⟨d41.1, d41.2.1, d41.2.2.1, d41.2.2.2.1, d41.2.2.2.2.1, d41.2.2.2.2.2.1, d41.2.2.2.2.2.2.1, d41.2.2.2.2.2.2.2⟩ : NatBook)) fun x42 =>
 bd (gcall (x42 = true) (impl_NatBookOk_m (⟨d23.2.2.1, d23.2.2.2.1, d23.2.2.2.2.1, d23.2.2.2.2.2.1, d23.2.2.2.2.2.2.1, d23.2.2.2.2.2.2.2.1, d23.2.2.2.2.2.2.2.2.1, d23.2.2.2.2.2.2.2.2.2⟩ : NatBook))) fun x43 =>
 bd (gcall (x42 = true) (spec_NatBookOk_m (⟨d23.2.2.1, d23.2.2.2.1, d23.2.2.2.2.1, d23.2.2.2.2.2.1, d23.2.2.2.2.2.2.1, d23.2.2.2.2.2.2.2.1, d23.2.2.2.2.2.2.2.2.1, d23.2.2.2.2.2.2.2.2.2⟩ : NatBook))) fun x44 =>
 some (x42 && (x43 == x44)))))

theorem laws_FnNatOrder_c {a0 : (List Int)} {a1 : (List Int)} {r : Bool} (h : laws_FnNatOrder_m a0 a1 = some r) : PureC Try.prog 3 [.d (slD encByte a0), .d (slD encByte a1)] (.d (.bool r)) [] := by
  refine pureC_x tOk (fn := Try.f3) (c := codeOf Try.f3) rfl rfl ?_
  unfold laws_FnNatOrder_m at h
  conv => whnf
  refine seq_in tOk ?_
  conv => whnf
  refine andI h (fun _ h => ?_) (fun _ h => ?_)
  · conv => whnf
    obtain rfl := Option.some.inj h
    exact lfP []
  · conv => whnf
    obtain ⟨x1, hx1, h⟩ := bd_some h
    refine cE [] 1000 (spec_DrawNatCome_c hx1) ?_
    conv => whnf
    refine seq_in tOk ?_
    conv => whnf
    obtain ⟨x5, hx5, h⟩ := bd_some h
    refine loop_m tOk hx5 (fun s2 => ⟨0, 175, [(0, .d (slD encByte a0)), (1, .d (slD encByte a1)), (5, .ref 5 0 0), (6, .osl 6001 0 x1.2.length), (7, .d (slD NatFlow.enc s2.1)), (8, .d (.int .i64 s2.2))], [], [(5, .box 26 [.d (.int .i64 x1.1.Addr), .d (.int .i64 x1.1.Len), .d (.int .i64 x1.1.Own), .d (.int .i64 x1.1.Low), .d (.int .i64 x1.1.High), .d (slD NatDoor.enc x1.1.Doors), .d (.int .i64 x1.1.Now), .d (slD NatEntry.enc x1.1.Entries)]), (6001, .arr 31 5 x1.2.length (rows NatFlow.enc x1.2))], []⟩) ?_ ?_
    · exact leX []
    · clear hx5
      intro s2 y3 g4 hy3
      conv => whnf
      refine seq_in tOk ?_
      conv => whnf
      refine andI g4 (fun _ g4 => ?_) (fun _ g4 => ?_)
      · conv => whnf
        refine seq_in tOk ?_
        conv => whnf
        obtain ⟨g6, g4⟩ := gd_some g4
        obtain ⟨g7, g4⟩ := gd_some g4
        obtain ⟨x8, hx8, g4⟩ := bd_some g4
        refine draw_u tOk [.u 13 0 (.d (.bool x8)) []] 15 [] [0, 0, 3, 7, 15, 31, 63, 127, 127, 127, 895, 1919, 3967, 8191, 16383] [] ?_
        conv => whnf
        refine And.intro g6 ?_
        clear g6
        conv => whnf
        refine And.intro g7 ?_
        clear g7
        conv => whnf
        refine And.intro (callDG_if rfl rfl rfl rfl (by intro c0; exact spec_NatInside_c (gcall_some hx8 c0))) ?_
        conv => whnf
        refine And.intro (by kernel_rfl) ?_
        conv => whnf
        refine andI g4 (fun _ g4 => ?_) (fun _ g4 => ?_)
        · conv => whnf
          refine gdI g4 (fun g4 => ?_)
          conv => whnf
          obtain ⟨x10, hx10, g4⟩ := bd_some g4
          refine cE [] 0 (laws_wvPut_c hx10) ?_
          conv => whnf
          obtain rfl := Option.some.inj g4
          exact ⟨_, rfl, leX []⟩
        · conv => whnf
          obtain rfl := Option.some.inj g4
          exact ⟨_, rfl, leX []⟩
      · conv => whnf
        obtain rfl := Option.some.inj g4
        obtain rfl := hy3 _ rfl
        refine seq_in tOk ?_
        conv => whnf
        obtain ⟨x15, hx15, h⟩ := bd_some h
        refine loop_m tOk hx15 (fun s12 => ⟨0, 175, [(0, .d (slD encByte a0)), (1, .d (slD encByte a1)), (7, .d (slD NatFlow.enc s2.1)), (9, .ref 9 0 0), (10, .ref 10 0 0), (11, .osl 7001 0 s12.1.length), (12, .d (.int .i64 s12.2.2.2.2.2.2.2.2.2))], [], [(7001, .arr 31 5 s12.1.length (rows NatFlow.enc s12.1)), (10, .box 26 [.d (.int .i64 x1.1.Addr), .d (.int .i64 x1.1.Len), .d (.int .i64 x1.1.Own), .d (.int .i64 x1.1.Low), .d (.int .i64 x1.1.High), .d (slD NatDoor.enc x1.1.Doors), .d (.int .i64 x1.1.Now), .d (slD NatEntry.enc x1.1.Entries)]), (9, .box 26 [.d (.int .i64 s12.2.1), .d (.int .i64 s12.2.2.1), .d (.int .i64 s12.2.2.2.1), .d (.int .i64 s12.2.2.2.2.1), .d (.int .i64 s12.2.2.2.2.2.1), .d (slD NatDoor.enc s12.2.2.2.2.2.2.1), .d (.int .i64 s12.2.2.2.2.2.2.2.1), .d (slD NatEntry.enc s12.2.2.2.2.2.2.2.2.1)])], []⟩) ?_ ?_
        · exact leX [.p 7001 31 5 (rows NatFlow.enc ([] : List NatFlow))]
        · clear hx15
          intro s12 y13 g14 hy13
          conv => whnf
          refine seq_in tOk ?_
          conv => whnf
          refine andI g14 (fun _ g14 => ?_) (fun _ g14 => ?_)
          · conv => whnf
            refine seq_in tOk ?_
            conv => whnf
            obtain ⟨g16, g14⟩ := gd_some g14
            obtain ⟨x17, hx17, g14⟩ := bd_some g14
            refine draw_t tOk [.e 5 [] (.tup [.agg [.d (.int .i64 x17.1.Addr), .d (.int .i64 x17.1.Len), .d (.int .i64 x17.1.Own), .d (.int .i64 x17.1.Low), .d (.int .i64 x17.1.High), .d (slD NatDoor.enc x17.1.Doors), .d (.int .i64 x17.1.Now), .osl 6001 0 x17.1.Entries.length], .agg [.d (.int .i64 x17.2.1.Kind), .d (.int .i64 x17.2.1.From), .d (.int .i64 x17.2.1.FromPort), .d (.int .i64 x17.2.1.To), .d (.int .i64 x17.2.1.ToPort)], .d (.int .i64 x17.2.2)]) [(6001, .arr 68 7 x17.1.Entries.length (rows NatEntry.enc x17.1.Entries))] []] 12 [8, 9] [0, 0, 0, 6, 14, 31, 63, 127, 127, 127, 0, 0] [3327, 7679, 16383] [] ?_
            conv => whnf
            refine And.intro g16 ?_
            clear g16
            conv => whnf
            refine And.intro (eD [] 1000 (impl_NatOut_c hx17)) ?_
            conv => whnf
            refine And.intro (by kernel_rfl) ?_
            conv => whnf
            obtain ⟨g18, g14⟩ := gd_some g14
            obtain ⟨x19, hx19, g14⟩ := bd_some g14
            refine draw_u tOk [.u 5 3000 (.tup [.agg [.d (.int .i64 x19.1.Addr), .d (.int .i64 x19.1.Len), .d (.int .i64 x19.1.Own), .d (.int .i64 x19.1.Low), .d (.int .i64 x19.1.High), .osl 5001 0 x19.1.Doors.length, .d (.int .i64 x19.1.Now), .osl 5002 0 x19.1.Entries.length], .agg [.d (.int .i64 x19.2.1.Kind), .d (.int .i64 x19.2.1.From), .d (.int .i64 x19.2.1.FromPort), .d (.int .i64 x19.2.1.To), .d (.int .i64 x19.2.1.ToPort)], .d (.int .i64 x19.2.2)]) [⟨5001, 66, 4, x19.1.Doors.length, rows NatDoor.enc x19.1.Doors⟩, ⟨5002, 68, 7, x19.1.Entries.length, rows NatEntry.enc x19.1.Entries⟩]] 12 [8, 9] [0, 0, 0, 6, 14, 31, 63, 127, 127, 127, 0, 0] [3327, 7679, 16383] ?_
            conv => whnf
            refine And.intro g18 ?_
            clear g18
            conv => whnf
            refine And.intro (callD_any (spec_NatOut_c hx19) (by kernel_rfl)) ?_
            conv => whnf
            refine And.intro (by kernel_rfl) ?_
            conv => whnf
            refine seq_in tOk ?_
            conv => whnf
            obtain ⟨x20, hx20, g14⟩ := bd_some g14
            refine cG (fun c0 => laws_wvBook_c (gcall_some hx20 c0)) ?_
            conv => whnf
            refine andI g14 (fun _ g14 => ?_) (fun _ g14 => ?_)
            · conv => whnf
              obtain rfl := Option.some.inj g14
              obtain rfl := hy13 _ rfl
              obtain rfl := Option.some.inj h
              exact lfP []
            · conv => whnf
              refine bldS (enc := NatFlow.enc) ([x17.2.1] : List NatFlow) ?_
              conv => whnf
              refine gdI g14 (fun g14 => ?_)
              refine appS (enc := NatFlow.enc) (xs := s12.1) (ys := ([x17.2.1] : List NatFlow)) ?_
              conv => whnf
              obtain rfl := Option.some.inj g14
              exact ⟨_, rfl, leX [.f [6001]]⟩
          · conv => whnf
            obtain rfl := Option.some.inj g14
            obtain rfl := hy13 _ rfl
            obtain ⟨x24, hx24, h⟩ := bd_some h
            refine seq_join tOk (fun s25 => ⟨0, 175, [(0, .d (slD encByte a0)), (7, .d (slD NatFlow.enc s2.1)), (9, .ref 9 0 0), (10, .ref 10 0 0), (11, .osl 7001 0 (s12.1.length, s12.1, s12.2.1, s12.2.2.1, s12.2.2.2.1, s12.2.2.2.2.1, s12.2.2.2.2.2.1, s12.2.2.2.2.2.2.1, s12.2.2.2.2.2.2.2.1, s12.2.2.2.2.2.2.2.2.1).1), (19, .d (.int .i64 s25))], [], [(7001, .arr 31 5 (s12.1.length, s12.1, s12.2.1, s12.2.2.1, s12.2.2.2.1, s12.2.2.2.2.1, s12.2.2.2.2.2.1, s12.2.2.2.2.2.2.1, s12.2.2.2.2.2.2.2.1, s12.2.2.2.2.2.2.2.2.1).1 (rows NatFlow.enc (s12.1.length, s12.1, s12.2.1, s12.2.2.1, s12.2.2.2.1, s12.2.2.2.2.1, s12.2.2.2.2.2.1, s12.2.2.2.2.2.2.1, s12.2.2.2.2.2.2.2.1, s12.2.2.2.2.2.2.2.2.1).2.1)), (10, .box 26 [.d (.int .i64 x1.1.Addr), .d (.int .i64 x1.1.Len), .d (.int .i64 x1.1.Own), .d (.int .i64 x1.1.Low), .d (.int .i64 x1.1.High), .d (slD NatDoor.enc x1.1.Doors), .d (.int .i64 x1.1.Now), .d (slD NatEntry.enc x1.1.Entries)]), (9, .box 26 [.d (.int .i64 (s12.1.length, s12.1, s12.2.1, s12.2.2.1, s12.2.2.2.1, s12.2.2.2.2.1, s12.2.2.2.2.2.1, s12.2.2.2.2.2.2.1, s12.2.2.2.2.2.2.2.1, s12.2.2.2.2.2.2.2.2.1).2.2.1), .d (.int .i64 (s12.1.length, s12.1, s12.2.1, s12.2.2.1, s12.2.2.2.1, s12.2.2.2.2.1, s12.2.2.2.2.2.1, s12.2.2.2.2.2.2.1, s12.2.2.2.2.2.2.2.1, s12.2.2.2.2.2.2.2.2.1).2.2.2.1), .d (.int .i64 (s12.1.length, s12.1, s12.2.1, s12.2.2.1, s12.2.2.2.1, s12.2.2.2.2.1, s12.2.2.2.2.2.1, s12.2.2.2.2.2.2.1, s12.2.2.2.2.2.2.2.1, s12.2.2.2.2.2.2.2.2.1).2.2.2.2.1), .d (.int .i64 (s12.1.length, s12.1, s12.2.1, s12.2.2.1, s12.2.2.2.1, s12.2.2.2.2.1, s12.2.2.2.2.2.1, s12.2.2.2.2.2.2.1, s12.2.2.2.2.2.2.2.1, s12.2.2.2.2.2.2.2.2.1).2.2.2.2.2.1), .d (.int .i64 (s12.1.length, s12.1, s12.2.1, s12.2.2.1, s12.2.2.2.1, s12.2.2.2.2.1, s12.2.2.2.2.2.1, s12.2.2.2.2.2.2.1, s12.2.2.2.2.2.2.2.1, s12.2.2.2.2.2.2.2.2.1).2.2.2.2.2.2.1), .d (slD NatDoor.enc (s12.1.length, s12.1, s12.2.1, s12.2.2.1, s12.2.2.2.1, s12.2.2.2.2.1, s12.2.2.2.2.2.1, s12.2.2.2.2.2.2.1, s12.2.2.2.2.2.2.2.1, s12.2.2.2.2.2.2.2.2.1).2.2.2.2.2.2.2.1), .d (.int .i64 (s12.1.length, s12.1, s12.2.1, s12.2.2.1, s12.2.2.2.1, s12.2.2.2.2.1, s12.2.2.2.2.2.1, s12.2.2.2.2.2.2.1, s12.2.2.2.2.2.2.2.1, s12.2.2.2.2.2.2.2.2.1).2.2.2.2.2.2.2.2.1), .d (slD NatEntry.enc (s12.1.length, s12.1, s12.2.1, s12.2.2.1, s12.2.2.2.1, s12.2.2.2.2.1, s12.2.2.2.2.2.1, s12.2.2.2.2.2.2.1, s12.2.2.2.2.2.2.2.1, s12.2.2.2.2.2.2.2.2.1).2.2.2.2.2.2.2.2.2)])], []⟩) (fun s25 => x24 = s25) ?_ ?_
            · conv => whnf
              refine andI hx24 (fun _ hx24 => ?_) (fun _ hx24 => ?_)
              · conv => whnf
                refine gdI hx24 (fun hx24 => ?_)
                conv => whnf
                obtain rfl := Option.some.inj hx24
                exact ⟨_, rfl, leX []⟩
              · conv => whnf
                obtain rfl := Option.some.inj hx24
                exact ⟨_, rfl, leX []⟩
            · rintro _ rfl
              conv => whnf
              refine seq_in tOk ?_
              conv => whnf
              obtain ⟨x31, hx31, h⟩ := bd_some h
              refine loop_m tOk hx31 (fun s28 => ⟨0, 175, [(0, .d (slD encByte a0)), (7, .d (slD NatFlow.enc s2.1)), (9, .ref 9 0 0), (10, .ref 10 0 0), (11, .osl 7001 0 (s12.1.length, s12.1, s12.2.1, s12.2.2.1, s12.2.2.2.1, s12.2.2.2.2.1, s12.2.2.2.2.2.1, s12.2.2.2.2.2.2.1, s12.2.2.2.2.2.2.2.1, s12.2.2.2.2.2.2.2.2.1).1), (19, .d (.int .i64 x24)), (20, .d (.int .i64 s28.2.2.2.2.2.2.2.2))], [], [(7001, .arr 31 5 (s12.1.length, s12.1, s12.2.1, s12.2.2.1, s12.2.2.2.1, s12.2.2.2.2.1, s12.2.2.2.2.2.1, s12.2.2.2.2.2.2.1, s12.2.2.2.2.2.2.2.1, s12.2.2.2.2.2.2.2.2.1).1 (rows NatFlow.enc (s12.1.length, s12.1, s12.2.1, s12.2.2.1, s12.2.2.2.1, s12.2.2.2.2.1, s12.2.2.2.2.2.1, s12.2.2.2.2.2.2.1, s12.2.2.2.2.2.2.2.1, s12.2.2.2.2.2.2.2.2.1).2.1)), (10, .box 26 [.d (.int .i64 s28.1), .d (.int .i64 s28.2.1), .d (.int .i64 s28.2.2.1), .d (.int .i64 s28.2.2.2.1), .d (.int .i64 s28.2.2.2.2.1), .d (slD NatDoor.enc s28.2.2.2.2.2.1), .d (.int .i64 s28.2.2.2.2.2.2.1), .d (slD NatEntry.enc s28.2.2.2.2.2.2.2.1)]), (9, .box 26 [.d (.int .i64 (s12.1.length, s12.1, s12.2.1, s12.2.2.1, s12.2.2.2.1, s12.2.2.2.2.1, s12.2.2.2.2.2.1, s12.2.2.2.2.2.2.1, s12.2.2.2.2.2.2.2.1, s12.2.2.2.2.2.2.2.2.1).2.2.1), .d (.int .i64 (s12.1.length, s12.1, s12.2.1, s12.2.2.1, s12.2.2.2.1, s12.2.2.2.2.1, s12.2.2.2.2.2.1, s12.2.2.2.2.2.2.1, s12.2.2.2.2.2.2.2.1, s12.2.2.2.2.2.2.2.2.1).2.2.2.1), .d (.int .i64 (s12.1.length, s12.1, s12.2.1, s12.2.2.1, s12.2.2.2.1, s12.2.2.2.2.1, s12.2.2.2.2.2.1, s12.2.2.2.2.2.2.1, s12.2.2.2.2.2.2.2.1, s12.2.2.2.2.2.2.2.2.1).2.2.2.2.1), .d (.int .i64 (s12.1.length, s12.1, s12.2.1, s12.2.2.1, s12.2.2.2.1, s12.2.2.2.2.1, s12.2.2.2.2.2.1, s12.2.2.2.2.2.2.1, s12.2.2.2.2.2.2.2.1, s12.2.2.2.2.2.2.2.2.1).2.2.2.2.2.1), .d (.int .i64 (s12.1.length, s12.1, s12.2.1, s12.2.2.1, s12.2.2.2.1, s12.2.2.2.2.1, s12.2.2.2.2.2.1, s12.2.2.2.2.2.2.1, s12.2.2.2.2.2.2.2.1, s12.2.2.2.2.2.2.2.2.1).2.2.2.2.2.2.1), .d (slD NatDoor.enc (s12.1.length, s12.1, s12.2.1, s12.2.2.1, s12.2.2.2.1, s12.2.2.2.2.1, s12.2.2.2.2.2.1, s12.2.2.2.2.2.2.1, s12.2.2.2.2.2.2.2.1, s12.2.2.2.2.2.2.2.2.1).2.2.2.2.2.2.2.1), .d (.int .i64 (s12.1.length, s12.1, s12.2.1, s12.2.2.1, s12.2.2.2.1, s12.2.2.2.2.1, s12.2.2.2.2.2.1, s12.2.2.2.2.2.2.1, s12.2.2.2.2.2.2.2.1, s12.2.2.2.2.2.2.2.2.1).2.2.2.2.2.2.2.2.1), .d (slD NatEntry.enc (s12.1.length, s12.1, s12.2.1, s12.2.2.1, s12.2.2.2.1, s12.2.2.2.2.1, s12.2.2.2.2.2.1, s12.2.2.2.2.2.2.1, s12.2.2.2.2.2.2.2.1, s12.2.2.2.2.2.2.2.2.1).2.2.2.2.2.2.2.2.2)])], []⟩) ?_ ?_
              · exact leX []
              · clear hx31
                intro s28 y29 g30 hy29
                conv => whnf
                refine seq_in tOk ?_
                conv => whnf
                refine andI g30 (fun _ g30 => ?_) (fun _ g30 => ?_)
                · conv => whnf
                  refine seq_in tOk ?_
                  conv => whnf
                  refine gdI g30 (fun g30 => ?_)
                  conv => whnf
                  obtain ⟨x33, hx33, g30⟩ := bd_some g30
                  refine seq_join tOk (fun s34 => ⟨0, 175, [(0, .d (slD encByte a0)), (7, .d (slD NatFlow.enc s2.1)), (9, .ref 9 0 0), (10, .ref 10 0 0), (11, .osl 7001 0 (s12.1.length, s12.1, s12.2.1, s12.2.2.1, s12.2.2.2.1, s12.2.2.2.2.1, s12.2.2.2.2.2.1, s12.2.2.2.2.2.2.1, s12.2.2.2.2.2.2.2.1, s12.2.2.2.2.2.2.2.2.1).1), (19, .d (.int .i64 x24)), (20, .d (.int .i64 s28.2.2.2.2.2.2.2.2)), (21, .d (.int .i64 s34))], [], [(7001, .arr 31 5 (s12.1.length, s12.1, s12.2.1, s12.2.2.1, s12.2.2.2.1, s12.2.2.2.2.1, s12.2.2.2.2.2.1, s12.2.2.2.2.2.2.1, s12.2.2.2.2.2.2.2.1, s12.2.2.2.2.2.2.2.2.1).1 (rows NatFlow.enc (s12.1.length, s12.1, s12.2.1, s12.2.2.1, s12.2.2.2.1, s12.2.2.2.2.1, s12.2.2.2.2.2.1, s12.2.2.2.2.2.2.1, s12.2.2.2.2.2.2.2.1, s12.2.2.2.2.2.2.2.2.1).2.1)), (10, .box 26 [.d (.int .i64 s28.1), .d (.int .i64 s28.2.1), .d (.int .i64 s28.2.2.1), .d (.int .i64 s28.2.2.2.1), .d (.int .i64 s28.2.2.2.2.1), .d (slD NatDoor.enc s28.2.2.2.2.2.1), .d (.int .i64 s28.2.2.2.2.2.2.1), .d (slD NatEntry.enc s28.2.2.2.2.2.2.2.1)]), (9, .box 26 [.d (.int .i64 (s12.1.length, s12.1, s12.2.1, s12.2.2.1, s12.2.2.2.1, s12.2.2.2.2.1, s12.2.2.2.2.2.1, s12.2.2.2.2.2.2.1, s12.2.2.2.2.2.2.2.1, s12.2.2.2.2.2.2.2.2.1).2.2.1), .d (.int .i64 (s12.1.length, s12.1, s12.2.1, s12.2.2.1, s12.2.2.2.1, s12.2.2.2.2.1, s12.2.2.2.2.2.1, s12.2.2.2.2.2.2.1, s12.2.2.2.2.2.2.2.1, s12.2.2.2.2.2.2.2.2.1).2.2.2.1), .d (.int .i64 (s12.1.length, s12.1, s12.2.1, s12.2.2.1, s12.2.2.2.1, s12.2.2.2.2.1, s12.2.2.2.2.2.1, s12.2.2.2.2.2.2.1, s12.2.2.2.2.2.2.2.1, s12.2.2.2.2.2.2.2.2.1).2.2.2.2.1), .d (.int .i64 (s12.1.length, s12.1, s12.2.1, s12.2.2.1, s12.2.2.2.1, s12.2.2.2.2.1, s12.2.2.2.2.2.1, s12.2.2.2.2.2.2.1, s12.2.2.2.2.2.2.2.1, s12.2.2.2.2.2.2.2.2.1).2.2.2.2.2.1), .d (.int .i64 (s12.1.length, s12.1, s12.2.1, s12.2.2.1, s12.2.2.2.1, s12.2.2.2.2.1, s12.2.2.2.2.2.1, s12.2.2.2.2.2.2.1, s12.2.2.2.2.2.2.2.1, s12.2.2.2.2.2.2.2.2.1).2.2.2.2.2.2.1), .d (slD NatDoor.enc (s12.1.length, s12.1, s12.2.1, s12.2.2.1, s12.2.2.2.1, s12.2.2.2.2.1, s12.2.2.2.2.2.1, s12.2.2.2.2.2.2.1, s12.2.2.2.2.2.2.2.1, s12.2.2.2.2.2.2.2.2.1).2.2.2.2.2.2.2.1), .d (.int .i64 (s12.1.length, s12.1, s12.2.1, s12.2.2.1, s12.2.2.2.1, s12.2.2.2.2.1, s12.2.2.2.2.2.1, s12.2.2.2.2.2.2.1, s12.2.2.2.2.2.2.2.1, s12.2.2.2.2.2.2.2.2.1).2.2.2.2.2.2.2.2.1), .d (slD NatEntry.enc (s12.1.length, s12.1, s12.2.1, s12.2.2.1, s12.2.2.2.1, s12.2.2.2.2.1, s12.2.2.2.2.2.1, s12.2.2.2.2.2.2.1, s12.2.2.2.2.2.2.2.1, s12.2.2.2.2.2.2.2.2.1).2.2.2.2.2.2.2.2.2)])], []⟩) (fun s34 => x33 = s34) ?_ ?_
                  · conv => whnf
                    refine gdI hx33 (fun hx33 => ?_)
                    conv => whnf
                    refine andI hx33 (fun _ hx33 => ?_) (fun _ hx33 => ?_)
                    · conv => whnf
                      obtain rfl := Option.some.inj hx33
                      exact ⟨_, rfl, leX []⟩
                    · conv => whnf
                      obtain rfl := Option.some.inj hx33
                      exact ⟨_, rfl, leX []⟩
                  · rintro _ rfl
                    conv => whnf
                    obtain ⟨g37, g30⟩ := gd_some g30
                    obtain ⟨x38, hx38, g30⟩ := bd_some g30
                    refine draw_t tOk [.e 5 [] (.tup [.agg [.d (.int .i64 x38.1.Addr), .d (.int .i64 x38.1.Len), .d (.int .i64 x38.1.Own), .d (.int .i64 x38.1.Low), .d (.int .i64 x38.1.High), .d (slD NatDoor.enc x38.1.Doors), .d (.int .i64 x38.1.Now), .osl 6001 0 x38.1.Entries.length], .agg [.d (.int .i64 x38.2.1.Kind), .d (.int .i64 x38.2.1.From), .d (.int .i64 x38.2.1.FromPort), .d (.int .i64 x38.2.1.To), .d (.int .i64 x38.2.1.ToPort)], .d (.int .i64 x38.2.2)]) [(6001, .arr 68 7 x38.1.Entries.length (rows NatEntry.enc x38.1.Entries))] []] 12 [8, 9] [0, 0, 0, 6, 14, 31, 63, 127, 127, 127, 0, 0] [3327, 7679, 16383] [] ?_
                    conv => whnf
                    refine And.intro g37 ?_
                    clear g37
                    conv => whnf
                    refine And.intro (eD [] 1000 (impl_NatOut_c hx38)) ?_
                    conv => whnf
                    refine And.intro (by kernel_rfl) ?_
                    conv => whnf
                    refine seq_in tOk ?_
                    conv => whnf
                    obtain ⟨g39, g30⟩ := gd_some g30
                    refine draw_u tOk [] 6 [] [0, 0, 0, 6, 14, 31] [] ?_
                    conv => whnf
                    refine And.intro g39 ?_
                    clear g39
                    conv => whnf
                    refine And.intro (by kernel_rfl) ?_
                    conv => whnf
                    refine andI g30 (fun _ g30 => ?_) (fun _ g30 => ?_)
                    · conv => whnf
                      obtain rfl := Option.some.inj g30
                      obtain rfl := hy29 _ rfl
                      obtain rfl := Option.some.inj h
                      exact lfP []
                    · conv => whnf
                      obtain rfl := Option.some.inj g30
                      exact ⟨_, rfl, leX [.f [6001]]⟩
                · conv => whnf
                  obtain rfl := Option.some.inj g30
                  obtain rfl := hy29 _ rfl
                  obtain ⟨x42, hx42, h⟩ := bd_some h
                  obtain ⟨x43, hx43, h⟩ := bd_some h
                  obtain ⟨x44, hx44, h⟩ := bd_some h
                  refine draw_u tOk [.u 2 0 (.d (.bool x42)) [], .u 5 0 (.d (.bool x43)) [], .u 7 0 (.d (.bool x44)) []] 11 [] [0, 0, 3, 7, 15, 31, 15, 127, 255, 511, 1023] [] ?_
                  conv => whnf
                  refine And.intro (callD_any (laws_wvBook_c hx42) (by kernel_rfl)) ?_
                  conv => whnf
                  refine And.intro (callDG_if rfl rfl rfl rfl (by intro c0; exact impl_NatBookOk_c (gcall_some hx43 c0))) ?_
                  conv => whnf
                  refine And.intro (callDG_if rfl rfl rfl rfl (by intro c0; exact spec_NatBookOk_c (gcall_some hx44 c0))) ?_
                  conv => whnf
                  refine And.intro (by kernel_rfl) ?_
                  conv => whnf
                  obtain rfl := Option.some.inj h
                  exact lfP []

end Go.Proofs.Ytaoeomoepefojab
