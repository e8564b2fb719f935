/-
  What some of the program's functions compute: their models, and that the functions compute these; no condition.
-/
import Derived.Test.YtaoeomoepefojabTyz
import Derived.Test.YtaoeomoepefojabTbz
import Derived.Test.YtaoeomoepefojabAbz7
import Derived.Maps.OwnOps
import Derived.Maps.Views
import Derived.WalkKit
import Derived.Test.YtaoeomoepefojabKz2
set_option linter.all false
namespace Go.Proofs.Ytaoeomoepefojab
open Go Go.Ab
set_option maxRecDepth 100000
set_option maxHeartbeats 40000000
noncomputable def impl_NatInside_m (a0 : NatBook) (a1 : Int) : Option (Bool) :=
 bd (impl_NatBookOk_m a0) fun x1 =>
 bd (gcall (x1 = true) (impl_NatBook_inside_m a0 a1)) fun x2 =>
 some (x1 && x2)

theorem impl_NatInside_c {a0 : NatBook} {a1 : Int} {r : Bool} (h : impl_NatInside_m a0 a1 = some r) : PureC Try.prog 20 [.agg [.d (.int .i64 a0.Addr), .d (.int .i64 a0.Len), .d (.int .i64 a0.Own), .d (.int .i64 a0.Low), .d (.int .i64 a0.High), .d (slD NatDoor.enc a0.Doors), .d (.int .i64 a0.Now), .d (slD NatEntry.enc a0.Entries)], .d (.int .i64 a1)] (.d (.bool r)) [] := by
  refine pureC_x tOk (fn := Try.f20) (c := codeOf Try.f20) rfl rfl ?_
  unfold impl_NatInside_m at h
  conv => whnf
  obtain ⟨x1, hx1, h⟩ := bd_some h
  refine cC 0 (impl_NatBookOk_c hx1) ?_
  clear hx1
  conv => whnf
  obtain ⟨x2, hx2, h⟩ := bd_some h
  refine cG (fun c0 => impl_NatBook_inside_c (gcall_some hx2 c0)) ?_
  conv => whnf
  obtain rfl := Option.some.inj h
  exact lfP []

noncomputable def laws_FnNatTop_m (a0 : (List Int)) : Option (Bool) :=
(if (decide (((a0.length : Nat) : Int) > 1048576)) = true then
 some true
else
 bd (spec_DrawNatCome_m a0) fun x1 =>
 bd (lp (σ := List wvWent × Int × Int × Int × Int × Int × List NatDoor × Int × List NatEntry × Int) (β := (Unit ⊕ Unit)) (fun s2 =>
(if (decide (s2.2.2.2.2.2.2.2.2.2 < ((x1.2.length : Nat) : Int))) = true then
 gd ((0 : Int) ≤ s2.2.2.2.2.2.2.2.2.2 ∧ s2.2.2.2.2.2.2.2.2.2 < ((x1.2.length : Nat) : Int)) <|
 bd (α := (List wvWent × Int × Int × Int × Int × Int × List NatDoor × Int × List NatEntry) ⊕ (Unit ⊕ Unit)) ((if (((x1.2.getD s2.2.2.2.2.2.2.2.2.2.toNat default).Kind) == 0) = true then
 bd (impl_NatTick_m (⟨s2.2.1, s2.2.2.1, s2.2.2.2.1, s2.2.2.2.2.1, s2.2.2.2.2.2.1, s2.2.2.2.2.2.2.1, s2.2.2.2.2.2.2.2.1, s2.2.2.2.2.2.2.2.2.1⟩ : NatBook)) fun x10 =>
(if ((x10.2 != 0) || (x10.1.Now != (IntKind.i64.wrap (s2.2.2.2.2.2.2.2.1 + 1)))) = true then
 some (.inr (.inl ()))
else
 some (.inl (s2.1, x10.1.Addr, x10.1.Len, x10.1.Own, x10.1.Low, x10.1.High, x10.1.Doors, x10.1.Now, x10.1.Entries)))
else
 bd (spec_NatInside_m (⟨s2.2.1, s2.2.2.1, s2.2.2.2.1, s2.2.2.2.2.1, s2.2.2.2.2.2.1, s2.2.2.2.2.2.2.1, s2.2.2.2.2.2.2.2.1, s2.2.2.2.2.2.2.2.2.1⟩ : NatBook) ((x1.2.getD s2.2.2.2.2.2.2.2.2.2.toNat default).From)) fun x11 =>
(if x11 = true then
 bd (impl_NatOut_m (⟨s2.2.1, s2.2.2.1, s2.2.2.2.1, s2.2.2.2.2.1, s2.2.2.2.2.2.1, s2.2.2.2.2.2.2.1, s2.2.2.2.2.2.2.2.1, s2.2.2.2.2.2.2.2.2.1⟩ : NatBook) (x1.2.getD s2.2.2.2.2.2.2.2.2.2.toNat default)) fun x12 =>
 bd (spec_NatOut_m (⟨s2.2.1, s2.2.2.1, s2.2.2.2.1, s2.2.2.2.2.1, s2.2.2.2.2.2.1, s2.2.2.2.2.2.2.1, s2.2.2.2.2.2.2.2.1, s2.2.2.2.2.2.2.2.2.1⟩ : NatBook) (x1.2.getD s2.2.2.2.2.2.2.2.2.2.toNat default)) fun x13 =>
 bd (gcall (((x12.2.2 != x13.2.2) || (!((x12.2.1.Kind == x13.2.1.Kind) && ((x12.2.1.From == x13.2.1.From) && ((x12.2.1.FromPort == x13.2.1.FromPort) && ((x12.2.1.To == x13.2.1.To) && ((x12.2.1.ToPort == x13.2.1.ToPort) && true))))))) = false) (laws_wvBook_m x12.1 x13.1)) fun x14 =>
(if (((x12.2.2 != x13.2.2) || (!((x12.2.1.Kind == x13.2.1.Kind) && ((x12.2.1.From == x13.2.1.From) && ((x12.2.1.FromPort == x13.2.1.FromPort) && ((x12.2.1.To == x13.2.1.To) && ((x12.2.1.ToPort == x13.2.1.ToPort) && true))))))) || (!x14)) = true then
 some (.inr (.inl ()))
else
 bd (lp (σ := Int) (β := (Unit ⊕ Unit)) (fun s15 =>
(if ((decide (s15 < ((s2.1.length : Nat) : Int))) && (x12.2.2 == 0)) = true then
 gd ((0 : Int) ≤ s15 ∧ s15 < ((s2.1.length : Nat) : Int)) <|
 gd ((((((s2.1.getD s15.toNat default).Out).Kind) == x12.2.1.Kind) && (((((s2.1.getD s15.toNat default).Out).From) == x12.2.1.From) && (((((s2.1.getD s15.toNat default).Out).FromPort) == x12.2.1.FromPort) && (((((s2.1.getD s15.toNat default).Out).To) == x12.2.1.To) && (((((s2.1.getD s15.toNat default).Out).ToPort) == x12.2.1.ToPort) && true))))) = true → ((0 : Int) ≤ s15 ∧ s15 < ((s2.1.length : Nat) : Int))) <|
 gd (((((((s2.1.getD s15.toNat default).Out).Kind) == x12.2.1.Kind) && (((((s2.1.getD s15.toNat default).Out).From) == x12.2.1.From) && (((((s2.1.getD s15.toNat default).Out).FromPort) == x12.2.1.FromPort) && (((((s2.1.getD s15.toNat default).Out).To) == x12.2.1.To) && (((((s2.1.getD s15.toNat default).Out).ToPort) == x12.2.1.ToPort) && true))))) && (!(((((s2.1.getD s15.toNat default).In).Kind) == ((x1.2.getD s2.2.2.2.2.2.2.2.2.2.toNat default).Kind)) && (((((s2.1.getD s15.toNat default).In).From) == ((x1.2.getD s2.2.2.2.2.2.2.2.2.2.toNat default).From)) && (((((s2.1.getD s15.toNat default).In).FromPort) == ((x1.2.getD s2.2.2.2.2.2.2.2.2.2.toNat default).FromPort)) && (((((s2.1.getD s15.toNat default).In).To) == ((x1.2.getD s2.2.2.2.2.2.2.2.2.2.toNat default).To)) && (((((s2.1.getD s15.toNat default).In).ToPort) == ((x1.2.getD s2.2.2.2.2.2.2.2.2.2.toNat default).ToPort)) && true))))))) = true → ((0 : Int) ≤ s15 ∧ s15 < ((s2.1.length : Nat) : Int))) <|
(if (((((((s2.1.getD s15.toNat default).Out).Kind) == x12.2.1.Kind) && (((((s2.1.getD s15.toNat default).Out).From) == x12.2.1.From) && (((((s2.1.getD s15.toNat default).Out).FromPort) == x12.2.1.FromPort) && (((((s2.1.getD s15.toNat default).Out).To) == x12.2.1.To) && (((((s2.1.getD s15.toNat default).Out).ToPort) == x12.2.1.ToPort) && true))))) && (!(((((s2.1.getD s15.toNat default).In).Kind) == ((x1.2.getD s2.2.2.2.2.2.2.2.2.2.toNat default).Kind)) && (((((s2.1.getD s15.toNat default).In).From) == ((x1.2.getD s2.2.2.2.2.2.2.2.2.2.toNat default).From)) && (((((s2.1.getD s15.toNat default).In).FromPort) == ((x1.2.getD s2.2.2.2.2.2.2.2.2.2.toNat default).FromPort)) && (((((s2.1.getD s15.toNat default).In).To) == ((x1.2.getD s2.2.2.2.2.2.2.2.2.2.toNat default).To)) && (((((s2.1.getD s15.toNat default).In).ToPort) == ((x1.2.getD s2.2.2.2.2.2.2.2.2.2.toNat default).ToPort)) && true))))))) && (decide ((IntKind.i64.wrap (s2.2.2.2.2.2.2.2.1 - ((s2.1.getD s15.toNat default).At))) < 12))) = true then
 some (.inr (.inl ()))
else
 some (.inl (IntKind.i64.wrap (s15 + 1))))
else
 some (.inr (.inr ())))) 0) fun x18 =>
(match x18 with
| .inl d22 =>
 some (.inr (.inl ()))
| .inr d23 =>
(if (x12.2.2 == 0) = true then
 gd (((s2.1.length) + (([(⟨(x1.2.getD s2.2.2.2.2.2.2.2.2.2.toNat default), x12.2.1, s2.2.2.2.2.2.2.2.1⟩ : wvWent)] : List wvWent).length)) * (88 + 1) ≤ 70368744177664) <|
 some (.inl ((s2.1 ++ ([(⟨(x1.2.getD s2.2.2.2.2.2.2.2.2.2.toNat default), x12.2.1, s2.2.2.2.2.2.2.2.1⟩ : wvWent)] : List wvWent)), x12.1.Addr, x12.1.Len, x12.1.Own, x12.1.Low, x12.1.High, x12.1.Doors, x12.1.Now, x12.1.Entries))
else
 some (.inl (s2.1, x12.1.Addr, x12.1.Len, x12.1.Own, x12.1.Low, x12.1.High, x12.1.Doors, x12.1.Now, x12.1.Entries)))))
else
 bd (impl_NatIn_m (⟨s2.2.1, s2.2.2.1, s2.2.2.2.1, s2.2.2.2.2.1, s2.2.2.2.2.2.1, s2.2.2.2.2.2.2.1, s2.2.2.2.2.2.2.2.1, s2.2.2.2.2.2.2.2.2.1⟩ : NatBook) (x1.2.getD s2.2.2.2.2.2.2.2.2.2.toNat default)) fun x25 =>
 bd (laws_wvAsked_m s2.1 (x1.2.getD s2.2.2.2.2.2.2.2.2.2.toNat default) s2.2.2.2.2.2.2.2.1) fun x26 =>
 bd (laws_wvDoor_m (⟨s2.2.1, s2.2.2.1, s2.2.2.2.1, s2.2.2.2.2.1, s2.2.2.2.2.2.1, s2.2.2.2.2.2.2.1, s2.2.2.2.2.2.2.2.1, s2.2.2.2.2.2.2.2.2.1⟩ : NatBook) (x1.2.getD s2.2.2.2.2.2.2.2.2.2.toNat default)) fun x27 =>
(if x27 = true then
 bd (gcall ((x25.2 != 0) = false) (impl_NatInside_m (⟨s2.2.1, s2.2.2.1, s2.2.2.2.1, s2.2.2.2.2.1, s2.2.2.2.2.2.1, s2.2.2.2.2.2.2.1, s2.2.2.2.2.2.2.2.1, s2.2.2.2.2.2.2.2.2.1⟩ : NatBook) x25.1.To)) fun x28 =>
(if ((((x25.2 != 0) || (!x28)) || (x25.1.From != ((x1.2.getD s2.2.2.2.2.2.2.2.2.2.toNat default).From))) || (x25.1.FromPort != ((x1.2.getD s2.2.2.2.2.2.2.2.2.2.toNat default).FromPort))) = true then
 some (.inr (.inl ()))
else
 some (.inr (.inr ())))
else
 bd (gcall (x26.2 = true ∧ (!(x26.2 == (x25.2 == 0))) = false) (spec_NatBack_m x26.1)) fun x29 =>
(if ((!(x26.2 == (x25.2 == 0))) || (x26.2 && (!((x25.1.Kind == x29.Kind) && ((x25.1.From == x29.From) && ((x25.1.FromPort == x29.FromPort) && ((x25.1.To == x29.To) && ((x25.1.ToPort == x29.ToPort) && true)))))))) = true then
 some (.inr (.inl ()))
else
 some (.inl (s2.1, s2.2.1, s2.2.2.1, s2.2.2.2.1, s2.2.2.2.2.1, s2.2.2.2.2.2.1, s2.2.2.2.2.2.2.1, s2.2.2.2.2.2.2.2.1, s2.2.2.2.2.2.2.2.2.1))))))) fun x7 =>
(match x7 with
| .inl d9 =>
 bd (impl_NatBookOk_m (⟨d9.2.1, d9.2.2.1, d9.2.2.2.1, d9.2.2.2.2.1, d9.2.2.2.2.2.1, d9.2.2.2.2.2.2.1, d9.2.2.2.2.2.2.2.1, d9.2.2.2.2.2.2.2.2⟩ : NatBook)) fun x30 =>
(if (!x30) = true then
 some (.inr (.inl ()))
else
 some (.inl (d9.1, d9.2.1, d9.2.2.1, d9.2.2.2.1, d9.2.2.2.2.1, d9.2.2.2.2.2.1, d9.2.2.2.2.2.2.1, d9.2.2.2.2.2.2.2.1, d9.2.2.2.2.2.2.2.2, IntKind.i64.wrap (s2.2.2.2.2.2.2.2.2.2 + 1))))
| .inr (.inl d31) =>
 some (.inr (.inl ()))
| .inr (.inr d32) =>
 some (.inl (s2.1, s2.2.1, s2.2.2.1, s2.2.2.2.1, s2.2.2.2.2.1, s2.2.2.2.2.2.1, s2.2.2.2.2.2.2.1, s2.2.2.2.2.2.2.2.1, s2.2.2.2.2.2.2.2.2.1, IntKind.i64.wrap (s2.2.2.2.2.2.2.2.2.2 + 1))))
else
 some (.inr (.inr ())))) (([] : List wvWent), x1.1.Addr, x1.1.Len, x1.1.Own, x1.1.Low, x1.1.High, x1.1.Doors, x1.1.Now, x1.1.Entries, 0)) fun x5 =>
(match x5 with
| .inl d33 =>
 some false
| .inr d34 =>
 some true))

theorem laws_FnNatTop_c {a0 : (List Int)} {r : Bool} (h : laws_FnNatTop_m a0 = some r) : PureC Try.prog 5 [.d (slD encByte a0)] (.d (.bool r)) [] := by
  refine pureC_x tOk (fn := Try.f5) (c := codeOf Try.f5) rfl rfl ?_
  unfold laws_FnNatTop_m at h
  conv => whnf
  refine seq_in tOk ?_
  conv => whnf
  refine andI h (fun _ h => ?_) (fun _ h => ?_)
  · conv => whnf
    obtain rfl := Option.some.inj h
    exact lfP []
  · conv => whnf
    obtain ⟨x1, hx1, h⟩ := bd_some h
    refine cE [] 1000 (spec_DrawNatCome_c hx1) ?_
    conv => whnf
    refine seq_in tOk ?_
    conv => whnf
    obtain ⟨x5, hx5, h⟩ := bd_some h
    refine loop_m tOk hx5 (fun s2 => ⟨0, 197, [(3, .ref 3 0 0), (4, .osl 6001 0 x1.2.length), (5, .osl 7001 0 s2.1.length), (6, .d (.int .i64 s2.2.2.2.2.2.2.2.2.2))], [], [(7001, .arr 49 11 s2.1.length (rows wvWent.enc s2.1)), (3, .box 26 [.d (.int .i64 s2.2.1), .d (.int .i64 s2.2.2.1), .d (.int .i64 s2.2.2.2.1), .d (.int .i64 s2.2.2.2.2.1), .d (.int .i64 s2.2.2.2.2.2.1), .d (slD NatDoor.enc s2.2.2.2.2.2.2.1), .d (.int .i64 s2.2.2.2.2.2.2.2.1), .d (slD NatEntry.enc s2.2.2.2.2.2.2.2.2.1)]), (6001, .arr 31 5 x1.2.length (rows NatFlow.enc x1.2))], []⟩) ?_ ?_
    · exact leX [.p 7001 49 11 (rows wvWent.enc ([] : List wvWent))]
    · clear hx5
      intro s2 y3 g4 hy3
      conv => whnf
      refine seq_in tOk ?_
      conv => whnf
      refine andI g4 (fun _ g4 => ?_) (fun _ g4 => ?_)
      · conv => whnf
        refine seq_in tOk ?_
        conv => whnf
        refine gdI g4 (fun g4 => ?_)
        conv => whnf
        obtain ⟨x7, hx7, g4⟩ := bd_some g4
        refine seq_join tOk (fun s8 => ⟨0, 197, [(3, .ref 3 0 0), (4, .osl 6001 0 x1.2.length), (5, .osl 7001 0 s8.1.length), (6, .d (.int .i64 s2.2.2.2.2.2.2.2.2.2))], [], [(7001, .arr 49 11 s8.1.length (rows wvWent.enc s8.1)), (3, .box 26 [.d (.int .i64 s8.2.1), .d (.int .i64 s8.2.2.1), .d (.int .i64 s8.2.2.2.1), .d (.int .i64 s8.2.2.2.2.1), .d (.int .i64 s8.2.2.2.2.2.1), .d (slD NatDoor.enc s8.2.2.2.2.2.2.1), .d (.int .i64 s8.2.2.2.2.2.2.2.1), .d (slD NatEntry.enc s8.2.2.2.2.2.2.2.2)]), (6001, .arr 31 5 x1.2.length (rows NatFlow.enc x1.2))], []⟩) (fun s8 => x7 = .inl s8) ?_ ?_
        · conv => whnf
          refine andI hx7 (fun _ hx7 => ?_) (fun _ hx7 => ?_)
          · conv => whnf
            obtain ⟨x10, hx10, hx7⟩ := bd_some hx7
            refine cC 3000 (impl_NatTick_c hx10) ?_
            clear hx10
            conv => whnf
            refine seq_in tOk ?_
            conv => whnf
            refine andI hx7 (fun _ hx7 => ?_) (fun _ hx7 => ?_)
            · conv => whnf
              obtain rfl := Option.some.inj hx7
              obtain rfl := Option.some.inj g4
              obtain rfl := hy3 _ rfl
              obtain rfl := Option.some.inj h
              exact lfP []
            · conv => whnf
              obtain rfl := Option.some.inj hx7
              exact ⟨_, rfl, leX [.f [8001, 8002]]⟩
          · conv => whnf
            obtain ⟨x11, hx11, hx7⟩ := bd_some hx7
            refine cC 0 (spec_NatInside_c hx11) ?_
            clear hx11
            conv => whnf
            refine andI hx7 (fun _ hx7 => ?_) (fun _ hx7 => ?_)
            · conv => whnf
              obtain ⟨x12, hx12, hx7⟩ := bd_some hx7
              refine cE [] 3000 (impl_NatOut_c hx12) ?_
              conv => whnf
              obtain ⟨x13, hx13, hx7⟩ := bd_some hx7
              refine cC 4000 (spec_NatOut_c hx13) ?_
              clear hx13
              conv => whnf
              refine seq_in tOk ?_
              conv => whnf
              obtain ⟨x14, hx14, hx7⟩ := bd_some hx7
              refine cG (fun c0 => laws_wvBook_c (gcall_some hx14 c0)) ?_
              conv => whnf
              refine andI hx7 (fun _ hx7 => ?_) (fun _ hx7 => ?_)
              · conv => whnf
                obtain rfl := Option.some.inj hx7
                obtain rfl := Option.some.inj g4
                obtain rfl := hy3 _ rfl
                obtain rfl := Option.some.inj h
                exact lfP []
              · conv => whnf
                refine seq_in tOk ?_
                conv => whnf
                obtain ⟨x18, hx18, hx7⟩ := bd_some hx7
                refine loop_m tOk hx18 (fun s15 => ⟨0, 197, [(3, .ref 3 0 0), (4, .osl 6001 0 x1.2.length), (5, .osl 7001 0 s2.1.length), (6, .d (.int .i64 s2.2.2.2.2.2.2.2.2.2)), (7, .ref 7 0 0), (10, .ref 10 0 0), (11, .ref 11 0 0), (12, .d (.int .i64 x12.2.2)), (16, .d (.int .i64 s15))], [], [(11, .box 31 [.d (.int .i64 x12.2.1.Kind), .d (.int .i64 x12.2.1.From), .d (.int .i64 x12.2.1.FromPort), .d (.int .i64 x12.2.1.To), .d (.int .i64 x12.2.1.ToPort)]), (10, .box 26 [.d (.int .i64 x12.1.Addr), .d (.int .i64 x12.1.Len), .d (.int .i64 x12.1.Own), .d (.int .i64 x12.1.Low), .d (.int .i64 x12.1.High), .d (slD NatDoor.enc x12.1.Doors), .d (.int .i64 x12.1.Now), .osl 8001 0 x12.1.Entries.length]), (8001, .arr 68 7 x12.1.Entries.length (rows NatEntry.enc x12.1.Entries)), (7, .box 31 [.d (.int .i64 ((x1.2.getD s2.2.2.2.2.2.2.2.2.2.toNat default).Kind)), .d (.int .i64 ((x1.2.getD s2.2.2.2.2.2.2.2.2.2.toNat default).From)), .d (.int .i64 ((x1.2.getD s2.2.2.2.2.2.2.2.2.2.toNat default).FromPort)), .d (.int .i64 ((x1.2.getD s2.2.2.2.2.2.2.2.2.2.toNat default).To)), .d (.int .i64 ((x1.2.getD s2.2.2.2.2.2.2.2.2.2.toNat default).ToPort))]), (7001, .arr 49 11 s2.1.length (rows wvWent.enc s2.1)), (3, .box 26 [.d (.int .i64 s2.2.1), .d (.int .i64 s2.2.2.1), .d (.int .i64 s2.2.2.2.1), .d (.int .i64 s2.2.2.2.2.1), .d (.int .i64 s2.2.2.2.2.2.1), .d (slD NatDoor.enc s2.2.2.2.2.2.2.1), .d (.int .i64 s2.2.2.2.2.2.2.2.1), .d (slD NatEntry.enc s2.2.2.2.2.2.2.2.2.1)]), (6001, .arr 31 5 x1.2.length (rows NatFlow.enc x1.2))], []⟩) ?_ ?_
                · exact leX []
                · clear hx18
                  intro s15 y16 g17 hy16
                  conv => whnf
                  refine seq_in tOk ?_
                  conv => whnf
                  refine andI g17 (fun _ g17 => ?_) (fun _ g17 => ?_)
                  · conv => whnf
                    refine seq_in tOk ?_
                    conv => whnf
                    obtain ⟨g19, g17⟩ := gd_some g17
                    obtain ⟨g20, g17⟩ := gd_some g17
                    obtain ⟨g21, g17⟩ := gd_some g17
                    refine draw_u tOk [] 27 [] [0, 0, 3, 7, 15, 0, 63, 127, 255, 255, 1023, 2047, 4095, 255, 16383, 32767, 65535, 131071, 262143, 131071, 131071, 1703935, 3801087, 7995391, 16777215, 33554431, 67108863] [] ?_
                    conv => whnf
                    refine And.intro g19 ?_
                    clear g19
                    conv => whnf
                    refine And.intro g20 ?_
                    clear g20
                    conv => whnf
                    refine And.intro g21 ?_
                    clear g21
                    conv => whnf
                    refine And.intro (by kernel_rfl) ?_
                    conv => whnf
                    refine andI g17 (fun _ g17 => ?_) (fun _ g17 => ?_)
                    · conv => whnf
                      obtain rfl := Option.some.inj g17
                      obtain rfl := hy16 _ rfl
                      obtain rfl := Option.some.inj hx7
                      obtain rfl := Option.some.inj g4
                      obtain rfl := hy3 _ rfl
                      obtain rfl := Option.some.inj h
                      exact lfP []
                    · conv => whnf
                      obtain rfl := Option.some.inj g17
                      exact ⟨_, rfl, leX []⟩
                  · conv => whnf
                    obtain rfl := Option.some.inj g17
                    obtain rfl := hy16 _ rfl
                    refine seq_in tOk ?_
                    conv => whnf
                    refine andI hx7 (fun _ hx7 => ?_) (fun _ hx7 => ?_)
                    · conv => whnf
                      refine bldS (enc := wvWent.enc) ([(⟨(x1.2.getD s2.2.2.2.2.2.2.2.2.2.toNat default), x12.2.1, s2.2.2.2.2.2.2.2.1⟩ : wvWent)] : List wvWent) ?_
                      conv => whnf
                      refine gdI hx7 (fun hx7 => ?_)
                      refine appS (enc := wvWent.enc) (xs := s2.1) (ys := ([(⟨(x1.2.getD s2.2.2.2.2.2.2.2.2.2.toNat default), x12.2.1, s2.2.2.2.2.2.2.2.1⟩ : wvWent)] : List wvWent)) ?_
                      conv => whnf
                      obtain rfl := Option.some.inj hx7
                      exact ⟨_, rfl, leX [.f [8001]]⟩
                    · conv => whnf
                      obtain rfl := Option.some.inj hx7
                      exact ⟨_, rfl, leX [.f [8001]]⟩
            · conv => whnf
              obtain ⟨x25, hx25, hx7⟩ := bd_some hx7
              refine cC 0 (impl_NatIn_c hx25) ?_
              clear hx25
              conv => whnf
              obtain ⟨x26, hx26, hx7⟩ := bd_some hx7
              refine cC 0 (laws_wvAsked_c hx26) ?_
              clear hx26
              conv => whnf
              refine seq_in tOk ?_
              conv => whnf
              obtain ⟨x27, hx27, hx7⟩ := bd_some hx7
              refine cC 0 (laws_wvDoor_c hx27) ?_
              clear hx27
              conv => whnf
              refine andI hx7 (fun _ hx7 => ?_) (fun _ hx7 => ?_)
              · conv => whnf
                refine seq_in tOk ?_
                conv => whnf
                obtain ⟨x28, hx28, hx7⟩ := bd_some hx7
                refine cG (fun c0 => impl_NatInside_c (gcall_some hx28 c0)) ?_
                conv => whnf
                refine andI hx7 (fun _ hx7 => ?_) (fun _ hx7 => ?_)
                · conv => whnf
                  obtain rfl := Option.some.inj hx7
                  obtain rfl := Option.some.inj g4
                  obtain rfl := hy3 _ rfl
                  obtain rfl := Option.some.inj h
                  exact lfP []
                · conv => whnf
                  obtain rfl := Option.some.inj hx7
                  obtain rfl := Option.some.inj g4
                  exact ⟨_, rfl, leX []⟩
              · conv => whnf
                obtain ⟨x29, hx29, hx7⟩ := bd_some hx7
                refine draw_u tOk [.u 9 0 (.agg [.d (.int .i64 x29.Kind), .d (.int .i64 x29.From), .d (.int .i64 x29.FromPort), .d (.int .i64 x29.To), .d (.int .i64 x29.ToPort)]) []] 13 [] [0, 0, 2, 7, 15, 31, 63, 127, 127, 383, 1023, 2047, 4095] [] ?_
                conv => whnf
                refine And.intro (callDG_if rfl rfl rfl rfl (by intro c0 c1; exact spec_NatBack_c (gcall_some hx29 ⟨c0, c1⟩))) ?_
                conv => whnf
                refine And.intro (by kernel_rfl) ?_
                conv => whnf
                refine andI hx7 (fun _ hx7 => ?_) (fun _ hx7 => ?_)
                · conv => whnf
                  obtain rfl := Option.some.inj hx7
                  obtain rfl := Option.some.inj g4
                  obtain rfl := hy3 _ rfl
                  obtain rfl := Option.some.inj h
                  exact lfP []
                · conv => whnf
                  obtain rfl := Option.some.inj hx7
                  exact ⟨_, rfl, leX []⟩
        · intro d9 hdd9
          subst hdd9
          conv => whnf
          obtain ⟨x30, hx30, g4⟩ := bd_some g4
          refine cC 0 (impl_NatBookOk_c hx30) ?_
          clear hx30
          conv => whnf
          refine andI g4 (fun _ g4 => ?_) (fun _ g4 => ?_)
          · conv => whnf
            obtain rfl := Option.some.inj g4
            obtain rfl := hy3 _ rfl
            obtain rfl := Option.some.inj h
            exact lfP []
          · conv => whnf
            obtain rfl := Option.some.inj g4
            exact ⟨_, rfl, leX []⟩
      · conv => whnf
        obtain rfl := Option.some.inj g4
        obtain rfl := hy3 _ rfl
        obtain rfl := Option.some.inj h
        exact lfP []

end Go.Proofs.Ytaoeomoepefojab
