/-
  What some of the program's functions compute: their models, and that the functions compute these; no condition.
-/
import Derived.Test.YtjgjdobkahdgfaaDoorTyz
import Derived.Test.YtjgjdobkahdgfaaDoorTbz
import Derived.Test.YtjgjdobkahdgfaaDoorLay4z
import Derived.Test.YtjgjdobkahdgfaaDoorAbz8
import Derived.Test.YtjgjdobkahdgfaaDoorKz1
set_option linter.all false
namespace Go.Proofs.YtjgjdobkahdgfaaDoor
open Go Go.Ab
set_option maxRecDepth 100000
set_option maxHeartbeats 40000000
noncomputable def spec_l25Spoil_m (a0 : l21Rd) (a1 : NatBook) : Option (NatBook × l21Rd) :=
 bd (spec_l22Copy_m a1) fun x1 =>
 bd (spec_l21Rd_pick_m a0 (IntKind.i64.wrap (((x1.Doors.length : Nat) : Int) + 1))) fun x2 =>
 bd (spec_l21Rd_pick_m (⟨a0.b, x2.2.p⟩ : l21Rd) (IntKind.i64.wrap (((x1.Entries.length : Nat) : Int) + 1))) fun x3 =>
 bd (α := List NatDoor × List NatEntry × Int × Int × Int × Int × Int × Int × Int) (bd (spec_l21Rd_pick_m (⟨a0.b, x3.2.p⟩ : l21Rd) 12) fun x7 =>
(if (x7.1 == 0) = true then
 bd (spec_l21Rd_pick_m (⟨a0.b, x7.2.p⟩ : l21Rd) 4) fun x8 =>
 gd ((0 : Int) ≤ x8.1 ∧ x8.1 < ((([-1, IntKind.i64.wrap (x1.Addr + 1), 51200, 65536] : List Int).length : Nat) : Int)) <|
 some (x1.Doors, x1.Entries, (([-1, IntKind.i64.wrap (x1.Addr + 1), 51200, 65536] : List Int).getD x8.1.toNat default), x1.Len, x1.Own, x1.Low, x1.High, x1.Now, x8.2.p)
else
(if (x7.1 == 1) = true then
 bd (spec_l21Rd_pick_m (⟨a0.b, x7.2.p⟩ : l21Rd) 5) fun x10 =>
 gd ((0 : Int) ≤ x10.1 ∧ x10.1 < ((([-1, 0, 16, 17, IntKind.i64.wrap (x1.Len - 1)] : List Int).length : Nat) : Int)) <|
 some (x1.Doors, x1.Entries, x1.Addr, (([-1, 0, 16, 17, IntKind.i64.wrap (x1.Len - 1)] : List Int).getD x10.1.toNat default), x1.Own, x1.Low, x1.High, x1.Now, x10.2.p)
else
(if (x7.1 == 2) = true then
 bd (spec_l21Rd_pick_m (⟨a0.b, x7.2.p⟩ : l21Rd) 4) fun x12 =>
 gd ((0 : Int) ≤ x12.1 ∧ x12.1 < ((([-1, 65536, x1.Addr, 51202] : List Int).length : Nat) : Int)) <|
 some (x1.Doors, x1.Entries, x1.Addr, x1.Len, (([-1, 65536, x1.Addr, 51202] : List Int).getD x12.1.toNat default), x1.Low, x1.High, x1.Now, x12.2.p)
else
(if (x7.1 == 3) = true then
 bd (spec_l21Rd_pick_m (⟨a0.b, x7.2.p⟩ : l21Rd) 5) fun x14 =>
 gd ((0 : Int) ≤ x14.1 ∧ x14.1 < ((([0, x1.High, IntKind.i64.wrap (x1.High + 1), 1, 30] : List Int).length : Nat) : Int)) <|
 some (x1.Doors, x1.Entries, x1.Addr, x1.Len, x1.Own, (([0, x1.High, IntKind.i64.wrap (x1.High + 1), 1, 30] : List Int).getD x14.1.toNat default), x1.High, x1.Now, x14.2.p)
else
(if (x7.1 == 4) = true then
 bd (spec_l21Rd_pick_m (⟨a0.b, x7.2.p⟩ : l21Rd) 4) fun x16 =>
 gd ((0 : Int) ≤ x16.1 ∧ x16.1 < ((([x1.Low, IntKind.i64.wrap (x1.Low - 1), 65535, 65536] : List Int).length : Nat) : Int)) <|
 some (x1.Doors, x1.Entries, x1.Addr, x1.Len, x1.Own, x1.Low, (([x1.Low, IntKind.i64.wrap (x1.Low - 1), 65535, 65536] : List Int).getD x16.1.toNat default), x1.Now, x16.2.p)
else
(if (x7.1 == 5) = true then
 bd (spec_l21Rd_pick_m (⟨a0.b, x7.2.p⟩ : l21Rd) 6) fun x18 =>
 gd ((0 : Int) ≤ x18.1 ∧ x18.1 < ((([-1, 0, 1000000, 1000001, IntKind.i64.wrap (x1.Now + 8), IntKind.i64.wrap (x1.Now + 12)] : List Int).length : Nat) : Int)) <|
 some (x1.Doors, x1.Entries, x1.Addr, x1.Len, x1.Own, x1.Low, x1.High, (([-1, 0, 1000000, 1000001, IntKind.i64.wrap (x1.Now + 8), IntKind.i64.wrap (x1.Now + 12)] : List Int).getD x18.1.toNat default), x18.2.p)
else
(if (x7.1 == 6) = true then
(if (decide (x2.1 < ((x1.Doors.length : Nat) : Int))) = true then
 bd (spec_l21Rd_pick_m (⟨a0.b, x7.2.p⟩ : l21Rd) 6) fun x20 =>
 gd ((0 : Int) ≤ x20.1 ∧ x20.1 < ((([0, x1.Low, IntKind.i64.wrap (x1.Low - 1), IntKind.i64.wrap (x1.High + 1), 65535, 65536] : List Int).length : Nat) : Int)) <|
 gd ((0 : Int) ≤ x2.1 ∧ x2.1 < ((x1.Doors.length : Nat) : Int)) <|
 bd (some (x1.Doors.set x2.1.toNat ({ (x1.Doors.getD x2.1.toNat default) with Outer := (([0, x1.Low, IntKind.i64.wrap (x1.Low - 1), IntKind.i64.wrap (x1.High + 1), 65535, 65536] : List Int).getD x20.1.toNat default) }))) fun x23 =>
 some (x23, x1.Entries, x1.Addr, x1.Len, x1.Own, x1.Low, x1.High, x1.Now, x20.2.p)
else
 some (x1.Doors, x1.Entries, x1.Addr, x1.Len, x1.Own, x1.Low, x1.High, x1.Now, x7.2.p))
else
(if (x7.1 == 7) = true then
(if (decide (x2.1 < ((x1.Doors.length : Nat) : Int))) = true then
 bd (spec_l21Rd_pick_m (⟨a0.b, x7.2.p⟩ : l21Rd) 3) fun x24 =>
 gd ((0 : Int) ≤ x24.1 ∧ x24.1 < ((([x1.Addr, IntKind.i64.wrap (x1.Addr - 1), x1.Own] : List Int).length : Nat) : Int)) <|
 gd ((0 : Int) ≤ x2.1 ∧ x2.1 < ((x1.Doors.length : Nat) : Int)) <|
 bd (some (x1.Doors.set x2.1.toNat ({ (x1.Doors.getD x2.1.toNat default) with Inner := (([x1.Addr, IntKind.i64.wrap (x1.Addr - 1), x1.Own] : List Int).getD x24.1.toNat default) }))) fun x27 =>
 bd (spec_l21Rd_pick_m (⟨a0.b, x24.2.p⟩ : l21Rd) 4) fun x28 =>
 gd ((0 : Int) ≤ x28.1 ∧ x28.1 < ((([0, 1, 7, 8] : List Int).length : Nat) : Int)) <|
 gd ((0 : Int) ≤ x2.1 ∧ x2.1 < ((x1.Doors.length : Nat) : Int)) <|
 bd (some (x27.set x2.1.toNat ({ (x27.getD x2.1.toNat default) with Kind := (([0, 1, 7, 8] : List Int).getD x28.1.toNat default) }))) fun x31 =>
 some (x31, x1.Entries, x1.Addr, x1.Len, x1.Own, x1.Low, x1.High, x1.Now, x28.2.p)
else
 some (x1.Doors, x1.Entries, x1.Addr, x1.Len, x1.Own, x1.Low, x1.High, x1.Now, x7.2.p))
else
(if (x7.1 == 8) = true then
(if (decide (x3.1 < ((x1.Entries.length : Nat) : Int))) = true then
 bd (spec_l21Rd_pick_m (⟨a0.b, x7.2.p⟩ : l21Rd) 3) fun x32 =>
 gd ((0 : Int) ≤ x32.1 ∧ x32.1 < ((([x1.Low, x1.High, IntKind.i64.wrap (x1.High + 1)] : List Int).length : Nat) : Int)) <|
 gd ((0 : Int) ≤ x3.1 ∧ x3.1 < ((x1.Entries.length : Nat) : Int)) <|
 bd (some (x1.Entries.set x3.1.toNat ({ (x1.Entries.getD x3.1.toNat default) with Outer := (([x1.Low, x1.High, IntKind.i64.wrap (x1.High + 1)] : List Int).getD x32.1.toNat default) }))) fun x35 =>
 some (x1.Doors, x35, x1.Addr, x1.Len, x1.Own, x1.Low, x1.High, x1.Now, x32.2.p)
else
 some (x1.Doors, x1.Entries, x1.Addr, x1.Len, x1.Own, x1.Low, x1.High, x1.Now, x7.2.p))
else
(if (x7.1 == 9) = true then
(if (decide (x3.1 < ((x1.Entries.length : Nat) : Int))) = true then
 bd (spec_l21Rd_pick_m (⟨a0.b, x7.2.p⟩ : l21Rd) 5) fun x36 =>
 gd ((0 : Int) ≤ x36.1 ∧ x36.1 < ((([x1.Now, IntKind.i64.wrap (x1.Now + 1), IntKind.i64.wrap (x1.Now - 11), IntKind.i64.wrap (x1.Now - 12), -1] : List Int).length : Nat) : Int)) <|
 gd ((0 : Int) ≤ x3.1 ∧ x3.1 < ((x1.Entries.length : Nat) : Int)) <|
 bd (some (x1.Entries.set x3.1.toNat ({ (x1.Entries.getD x3.1.toNat default) with Last := (([x1.Now, IntKind.i64.wrap (x1.Now + 1), IntKind.i64.wrap (x1.Now - 11), IntKind.i64.wrap (x1.Now - 12), -1] : List Int).getD x36.1.toNat default) }))) fun x39 =>
 some (x1.Doors, x39, x1.Addr, x1.Len, x1.Own, x1.Low, x1.High, x1.Now, x36.2.p)
else
 some (x1.Doors, x1.Entries, x1.Addr, x1.Len, x1.Own, x1.Low, x1.High, x1.Now, x7.2.p))
else
(if (x7.1 == 10) = true then
(if (decide (x3.1 < ((x1.Entries.length : Nat) : Int))) = true then
 bd (spec_l21Rd_pick_m (⟨a0.b, x7.2.p⟩ : l21Rd) 4) fun x40 =>
 gd ((0 : Int) ≤ x40.1 ∧ x40.1 < ((([x1.Own, x1.Addr, 65535, 65536] : List Int).length : Nat) : Int)) <|
 gd ((0 : Int) ≤ x3.1 ∧ x3.1 < ((x1.Entries.length : Nat) : Int)) <|
 bd (some (x1.Entries.set x3.1.toNat ({ (x1.Entries.getD x3.1.toNat default) with Peer := (([x1.Own, x1.Addr, 65535, 65536] : List Int).getD x40.1.toNat default) }))) fun x43 =>
 gd ((0 : Int) ≤ x3.1 ∧ x3.1 < ((x1.Entries.length : Nat) : Int)) <|
 gd (((x1.Entries.length) + (([(x43.getD x3.1.toNat default)] : List NatEntry).length)) * (56 + 1) ≤ 70368744177664) <|
 some (x1.Doors, (x43 ++ ([(x43.getD x3.1.toNat default)] : List NatEntry)), x1.Addr, x1.Len, x1.Own, x1.Low, x1.High, x1.Now, x40.2.p)
else
 some (x1.Doors, x1.Entries, x1.Addr, x1.Len, x1.Own, x1.Low, x1.High, x1.Now, x7.2.p))
else
 bd (spec_l21Rd_pick_m (⟨a0.b, x7.2.p⟩ : l21Rd) 2) fun x46 =>
 bd (lp (σ := List NatEntry) (β := ((List NatEntry) × Nat)) (fun s47 =>
(if (decide (((s47.length : Nat) : Int) < (IntKind.i64.wrap (16 + x46.1)))) = true then
 gd (((s47.length) + (([(⟨7, IntKind.i64.wrap (53248 + ((s47.length : Nat) : Int)), 1, x1.Low, x1.Addr, 1, x1.Now⟩ : NatEntry)] : List NatEntry).length)) * (56 + 1) ≤ 70368744177664) <|
 some (.inl (s47 ++ ([(⟨7, IntKind.i64.wrap (53248 + ((s47.length : Nat) : Int)), 1, x1.Low, x1.Addr, 1, x1.Now⟩ : NatEntry)] : List NatEntry)))
else
 some (.inr (s47, s47.length)))) x1.Entries) fun x50 =>
 some (x1.Doors, x50.1, x1.Addr, x1.Len, x1.Own, x1.Low, x1.High, x1.Now, x46.2.p))))))))))))) fun x4 =>
 some ((⟨x4.2.2.1, x4.2.2.2.1, x4.2.2.2.2.1, x4.2.2.2.2.2.1, x4.2.2.2.2.2.2.1, x4.1, x4.2.2.2.2.2.2.2.1, x4.2.1⟩ : NatBook), (⟨a0.b, x4.2.2.2.2.2.2.2.2⟩ : l21Rd))

theorem spec_l25Spoil_c {a0 : l21Rd} {a1 : NatBook} {r : NatBook × l21Rd} (h : spec_l25Spoil_m a0 a1 = some r) : EffC Tryd.prog 47 [.ref 9000 0 0, .agg [.d (.int .i64 a1.Addr), .d (.int .i64 a1.Len), .d (.int .i64 a1.Own), .d (.int .i64 a1.Low), .d (.int .i64 a1.High), .d (slD NatDoor.enc a1.Doors), .d (.int .i64 a1.Now), .d (slD NatEntry.enc a1.Entries)]] [(9000, .box 76 [.d (slD encByte a0.b), .d (.int .i64 a0.p)])] (.agg [.d (.int .i64 r.1.Addr), .d (.int .i64 r.1.Len), .d (.int .i64 r.1.Own), .d (.int .i64 r.1.Low), .d (.int .i64 r.1.High), .osl 5001 0 r.1.Doors.length, .d (.int .i64 r.1.Now), .osl 5002 0 r.1.Entries.length]) [(9000, .box 76 [.d (slD encByte a0.b), .d (.int .i64 r.2.p)]), (5001, .arr 43 4 r.1.Doors.length (rows NatDoor.enc r.1.Doors)), (5002, .arr 47 7 r.1.Entries.length (rows NatEntry.enc r.1.Entries))] := by
  refine effC_x tOk (fn := Tryd.f47) (c := codeOf Tryd.f47) rfl rfl ?_
  unfold spec_l25Spoil_m at h
  conv => whnf
  obtain ⟨x1, hx1, h⟩ := bd_some h
  refine cC 1000 (spec_l22Copy_c hx1) ?_
  clear hx1
  conv => whnf
  obtain ⟨x2, hx2, h⟩ := bd_some h
  refine cE [(9000, 9000)] 0 (spec_l21Rd_pick_c hx2) ?_
  conv => whnf
  obtain ⟨x3, hx3, h⟩ := bd_some h
  refine cE [(9000, 9000)] 0 (spec_l21Rd_pick_c hx3) ?_
  conv => whnf
  obtain ⟨x4, hx4, h⟩ := bd_some h
  refine seq_join tOk (fun s5 => ⟨0, 263, [(3, .ref 3 0 0), (4, .ref 4 0 0)], [], [(6002, .arr 47 7 s5.2.1.length (rows NatEntry.enc s5.2.1)), (6001, .arr 43 4 s5.1.length (rows NatDoor.enc s5.1)), (4, .box 31 [.d (.int .i64 0), .d (.int .i64 0), .d (.int .i64 0), .d (.int .i64 0), .d (.int .i64 0), .d (.nil), .d (.int .i64 0), .d (.nil)]), (3, .box 31 [.d (.int .i64 s5.2.2.1), .d (.int .i64 s5.2.2.2.1), .d (.int .i64 s5.2.2.2.2.1), .d (.int .i64 s5.2.2.2.2.2.1), .d (.int .i64 s5.2.2.2.2.2.2.1), .osl 6001 0 s5.1.length, .d (.int .i64 s5.2.2.2.2.2.2.2.1), .osl 6002 0 s5.2.1.length]), (9000, .box 76 [.d (slD encByte a0.b), .d (.int .i64 s5.2.2.2.2.2.2.2.2)])], [⟨[(0, .ref 9000 0 0)], []⟩]⟩) (fun s5 => x4 = s5) ?_ ?_
  · conv => whnf
    obtain ⟨x7, hx7, hx4⟩ := bd_some hx4
    refine cE [(9000, 9000)] 0 (spec_l21Rd_pick_c hx7) ?_
    conv => whnf
    refine andI hx4 (fun _ hx4 => ?_) (fun _ hx4 => ?_)
    · conv => whnf
      obtain ⟨x8, hx8, hx4⟩ := bd_some hx4
      obtain ⟨g9, hx4⟩ := gd_some hx4
      refine draw_t tOk [.e 5 [(9000, .box 76 [.d (slD encByte a0.b), .d (.int .i64 x7.2.p)])] (.d (.int .i64 x8.1)) [] [(9000, .box 76 [.d (slD encByte a0.b), .d (.int .i64 x8.2.p)])]] 9 [] [0, 1, 3, 7, 0, 16, 63, 127, 255] [511] [9000] ?_
      conv => whnf
      refine bldS (enc := encInt) ([-1, IntKind.i64.wrap (x1.Addr + 1), 51200, 65536] : List Int) ?_
      conv => whnf
      refine And.intro (eD [(9000, 9000)] 0 (spec_l21Rd_pick_c hx8)) ?_
      conv => whnf
      refine And.intro g9 ?_
      clear g9
      conv => whnf
      refine And.intro (by kernel_rfl) ?_
      conv => whnf
      obtain rfl := Option.some.inj hx4
      exact ⟨_, rfl, leX []⟩
    · conv => whnf
      refine andI hx4 (fun _ hx4 => ?_) (fun _ hx4 => ?_)
      · conv => whnf
        obtain ⟨x10, hx10, hx4⟩ := bd_some hx4
        obtain ⟨g11, hx4⟩ := gd_some hx4
        refine draw_t tOk [.e 5 [(9000, .box 76 [.d (slD encByte a0.b), .d (.int .i64 x7.2.p)])] (.d (.int .i64 x10.1)) [] [(9000, .box 76 [.d (slD encByte a0.b), .d (.int .i64 x10.2.p)])]] 9 [] [0, 1, 3, 7, 0, 16, 63, 127, 255] [511] [9000] ?_
        conv => whnf
        refine bldS (enc := encInt) ([-1, 0, 16, 17, IntKind.i64.wrap (x1.Len - 1)] : List Int) ?_
        conv => whnf
        refine And.intro (eD [(9000, 9000)] 0 (spec_l21Rd_pick_c hx10)) ?_
        conv => whnf
        refine And.intro g11 ?_
        clear g11
        conv => whnf
        refine And.intro (by kernel_rfl) ?_
        conv => whnf
        obtain rfl := Option.some.inj hx4
        exact ⟨_, rfl, leX []⟩
      · conv => whnf
        refine andI hx4 (fun _ hx4 => ?_) (fun _ hx4 => ?_)
        · conv => whnf
          obtain ⟨x12, hx12, hx4⟩ := bd_some hx4
          obtain ⟨g13, hx4⟩ := gd_some hx4
          refine draw_t tOk [.e 4 [(9000, .box 76 [.d (slD encByte a0.b), .d (.int .i64 x7.2.p)])] (.d (.int .i64 x12.1)) [] [(9000, .box 76 [.d (slD encByte a0.b), .d (.int .i64 x12.2.p)])]] 8 [] [0, 1, 3, 0, 8, 31, 63, 127] [255] [9000] ?_
          conv => whnf
          refine bldS (enc := encInt) ([-1, 65536, x1.Addr, 51202] : List Int) ?_
          conv => whnf
          refine And.intro (eD [(9000, 9000)] 0 (spec_l21Rd_pick_c hx12)) ?_
          conv => whnf
          refine And.intro g13 ?_
          clear g13
          conv => whnf
          refine And.intro (by kernel_rfl) ?_
          conv => whnf
          obtain rfl := Option.some.inj hx4
          exact ⟨_, rfl, leX []⟩
        · conv => whnf
          refine andI hx4 (fun _ hx4 => ?_) (fun _ hx4 => ?_)
          · conv => whnf
            obtain ⟨x14, hx14, hx4⟩ := bd_some hx4
            obtain ⟨g15, hx4⟩ := gd_some hx4
            refine draw_t tOk [.e 7 [(9000, .box 76 [.d (slD encByte a0.b), .d (.int .i64 x7.2.p)])] (.d (.int .i64 x14.1)) [] [(9000, .box 76 [.d (slD encByte a0.b), .d (.int .i64 x14.2.p)])]] 11 [] [0, 1, 0, 4, 12, 31, 0, 64, 255, 511, 1023] [2047] [9000] ?_
            conv => whnf
            refine bldS (enc := encInt) ([0, x1.High, IntKind.i64.wrap (x1.High + 1), 1, 30] : List Int) ?_
            conv => whnf
            refine And.intro (eD [(9000, 9000)] 0 (spec_l21Rd_pick_c hx14)) ?_
            conv => whnf
            refine And.intro g15 ?_
            clear g15
            conv => whnf
            refine And.intro (by kernel_rfl) ?_
            conv => whnf
            obtain rfl := Option.some.inj hx4
            exact ⟨_, rfl, leX []⟩
          · conv => whnf
            refine andI hx4 (fun _ hx4 => ?_) (fun _ hx4 => ?_)
            · conv => whnf
              obtain ⟨x16, hx16, hx4⟩ := bd_some hx4
              obtain ⟨g17, hx4⟩ := gd_some hx4
              refine draw_t tOk [.e 7 [(9000, .box 76 [.d (slD encByte a0.b), .d (.int .i64 x7.2.p)])] (.d (.int .i64 x16.1)) [] [(9000, .box 76 [.d (slD encByte a0.b), .d (.int .i64 x16.2.p)])]] 11 [] [0, 1, 0, 4, 12, 31, 0, 64, 255, 511, 1023] [2047] [9000] ?_
              conv => whnf
              refine bldS (enc := encInt) ([x1.Low, IntKind.i64.wrap (x1.Low - 1), 65535, 65536] : List Int) ?_
              conv => whnf
              refine And.intro (eD [(9000, 9000)] 0 (spec_l21Rd_pick_c hx16)) ?_
              conv => whnf
              refine And.intro g17 ?_
              clear g17
              conv => whnf
              refine And.intro (by kernel_rfl) ?_
              conv => whnf
              obtain rfl := Option.some.inj hx4
              exact ⟨_, rfl, leX []⟩
            · conv => whnf
              refine andI hx4 (fun _ hx4 => ?_) (fun _ hx4 => ?_)
              · conv => whnf
                obtain ⟨x18, hx18, hx4⟩ := bd_some hx4
                obtain ⟨g19, hx4⟩ := gd_some hx4
                refine draw_t tOk [.e 8 [(9000, .box 76 [.d (slD encByte a0.b), .d (.int .i64 x7.2.p)])] (.d (.int .i64 x18.1)) [] [(9000, .box 76 [.d (slD encByte a0.b), .d (.int .i64 x18.2.p)])]] 12 [] [0, 1, 3, 0, 8, 24, 63, 0, 128, 511, 1023, 2047] [4095] [9000] ?_
                conv => whnf
                refine bldS (enc := encInt) ([-1, 0, 1000000, 1000001, IntKind.i64.wrap (x1.Now + 8), IntKind.i64.wrap (x1.Now + 12)] : List Int) ?_
                conv => whnf
                refine And.intro (eD [(9000, 9000)] 0 (spec_l21Rd_pick_c hx18)) ?_
                conv => whnf
                refine And.intro g19 ?_
                clear g19
                conv => whnf
                refine And.intro (by kernel_rfl) ?_
                conv => whnf
                obtain rfl := Option.some.inj hx4
                exact ⟨_, rfl, leX []⟩
              · conv => whnf
                refine andI hx4 (fun _ hx4 => ?_) (fun _ hx4 => ?_)
                · conv => whnf
                  refine andI hx4 (fun _ hx4 => ?_) (fun _ hx4 => ?_)
                  · conv => whnf
                    obtain ⟨x20, hx20, hx4⟩ := bd_some hx4
                    obtain ⟨g21, hx4⟩ := gd_some hx4
                    obtain ⟨g22, hx4⟩ := gd_some hx4
                    refine draw_t tOk [.e 13 [(9000, .box 76 [.d (slD encByte a0.b), .d (.int .i64 x7.2.p)])] (.d (.int .i64 x20.1)) [] [(9000, .box 76 [.d (slD encByte a0.b), .d (.int .i64 x20.2.p)])]] 18 [] [0, 1, 0, 0, 8, 0, 32, 96, 0, 256, 768, 2040, 0, 4096, 16376, 32760, 65535, 131071] [262143] [9000] ?_
                    conv => whnf
                    refine bldS (enc := encInt) ([0, x1.Low, IntKind.i64.wrap (x1.Low - 1), IntKind.i64.wrap (x1.High + 1), 65535, 65536] : List Int) ?_
                    conv => whnf
                    refine And.intro (eD [(9000, 9000)] 0 (spec_l21Rd_pick_c hx20)) ?_
                    conv => whnf
                    refine And.intro g21 ?_
                    clear g21
                    conv => whnf
                    refine And.intro g22 ?_
                    clear g22
                    conv => whnf
                    refine And.intro (by kernel_rfl) ?_
                    conv => whnf
                    obtain ⟨x23, hx23, hlx23, hx4⟩ := bd_set hx4
                    refine setS (enc := NatDoor.enc) hx23 ?_
                    conv => whnf
                    obtain rfl := Option.some.inj hx4
                    exact ⟨_, rfl, leX []⟩
                  · conv => whnf
                    obtain rfl := Option.some.inj hx4
                    exact ⟨_, rfl, leX []⟩
                · conv => whnf
                  refine andI hx4 (fun _ hx4 => ?_) (fun _ hx4 => ?_)
                  · conv => whnf
                    refine andI hx4 (fun _ hx4 => ?_) (fun _ hx4 => ?_)
                    · conv => whnf
                      obtain ⟨x24, hx24, hx4⟩ := bd_some hx4
                      obtain ⟨g25, hx4⟩ := gd_some hx4
                      obtain ⟨g26, hx4⟩ := gd_some hx4
                      refine draw_t tOk [.e 12 [(9000, .box 76 [.d (slD encByte a0.b), .d (.int .i64 x7.2.p)])] (.d (.int .i64 x24.1)) [] [(9000, .box 76 [.d (slD encByte a0.b), .d (.int .i64 x24.2.p)])]] 17 [] [0, 1, 0, 0, 8, 0, 32, 96, 0, 256, 1016, 0, 2048, 8184, 16376, 32767, 65535] [131071] [9000] ?_
                      conv => whnf
                      refine bldS (enc := encInt) ([x1.Addr, IntKind.i64.wrap (x1.Addr - 1), x1.Own] : List Int) ?_
                      conv => whnf
                      refine And.intro (eD [(9000, 9000)] 0 (spec_l21Rd_pick_c hx24)) ?_
                      conv => whnf
                      refine And.intro g25 ?_
                      clear g25
                      conv => whnf
                      refine And.intro g26 ?_
                      clear g26
                      conv => whnf
                      refine And.intro (by kernel_rfl) ?_
                      conv => whnf
                      obtain ⟨x27, hx27, hlx27, hx4⟩ := bd_set hx4
                      refine setS (enc := NatDoor.enc) hx27 ?_
                      conv => whnf
                      obtain ⟨x28, hx28, hx4⟩ := bd_some hx4
                      obtain ⟨g29, hx4⟩ := gd_some hx4
                      obtain ⟨g30, hx4⟩ := gd_some hx4
                      refine draw_t tOk [.e 5 [(9000, .box 76 [.d (slD encByte a0.b), .d (.int .i64 x24.2.p)])] (.d (.int .i64 x28.1)) [] [(9000, .box 76 [.d (slD encByte a0.b), .d (.int .i64 x28.2.p)])]] 10 [] [0, 1, 0, 0, 0, 16, 56, 120, 255, 511] [1023] [9000] ?_
                      conv => whnf
                      refine bldS (enc := encInt) ([0, 1, 7, 8] : List Int) ?_
                      conv => whnf
                      refine And.intro (eD [(9000, 9000)] 0 (spec_l21Rd_pick_c hx28)) ?_
                      conv => whnf
                      refine And.intro g29 ?_
                      clear g29
                      conv => whnf
                      refine And.intro g30 ?_
                      clear g30
                      conv => whnf
                      refine And.intro (by kernel_rfl) ?_
                      conv => whnf
                      obtain ⟨x31, hx31, hlx31, hx4⟩ := bd_set hx4
                      refine setS (enc := NatDoor.enc) hx31 ?_
                      conv => whnf
                      obtain rfl := Option.some.inj hx4
                      exact ⟨_, rfl, leX []⟩
                    · conv => whnf
                      obtain rfl := Option.some.inj hx4
                      exact ⟨_, rfl, leX []⟩
                  · conv => whnf
                    refine andI hx4 (fun _ hx4 => ?_) (fun _ hx4 => ?_)
                    · conv => whnf
                      refine andI hx4 (fun _ hx4 => ?_) (fun _ hx4 => ?_)
                      · conv => whnf
                        obtain ⟨x32, hx32, hx4⟩ := bd_some hx4
                        obtain ⟨g33, hx4⟩ := gd_some hx4
                        obtain ⟨g34, hx4⟩ := gd_some hx4
                        refine draw_t tOk [.e 12 [(9000, .box 76 [.d (slD encByte a0.b), .d (.int .i64 x7.2.p)])] (.d (.int .i64 x32.1)) [] [(9000, .box 76 [.d (slD encByte a0.b), .d (.int .i64 x32.2.p)])]] 17 [] [0, 1, 0, 0, 8, 0, 32, 0, 128, 384, 1016, 0, 2048, 8184, 16376, 32767, 65535] [131071] [9000] ?_
                        conv => whnf
                        refine bldS (enc := encInt) ([x1.Low, x1.High, IntKind.i64.wrap (x1.High + 1)] : List Int) ?_
                        conv => whnf
                        refine And.intro (eD [(9000, 9000)] 0 (spec_l21Rd_pick_c hx32)) ?_
                        conv => whnf
                        refine And.intro g33 ?_
                        clear g33
                        conv => whnf
                        refine And.intro g34 ?_
                        clear g34
                        conv => whnf
                        refine And.intro (by kernel_rfl) ?_
                        conv => whnf
                        obtain ⟨x35, hx35, hlx35, hx4⟩ := bd_set hx4
                        refine setS (enc := NatEntry.enc) hx35 ?_
                        conv => whnf
                        obtain rfl := Option.some.inj hx4
                        exact ⟨_, rfl, leX []⟩
                      · conv => whnf
                        obtain rfl := Option.some.inj hx4
                        exact ⟨_, rfl, leX []⟩
                    · conv => whnf
                      refine andI hx4 (fun _ hx4 => ?_) (fun _ hx4 => ?_)
                      · conv => whnf
                        refine andI hx4 (fun _ hx4 => ?_) (fun _ hx4 => ?_)
                        · conv => whnf
                          obtain ⟨x36, hx36, hx4⟩ := bd_some hx4
                          obtain ⟨g37, hx4⟩ := gd_some hx4
                          obtain ⟨g38, hx4⟩ := gd_some hx4
                          refine draw_t tOk [.e 16 [(9000, .box 76 [.d (slD encByte a0.b), .d (.int .i64 x7.2.p)])] (.d (.int .i64 x36.1)) [] [(9000, .box 76 [.d (slD encByte a0.b), .d (.int .i64 x36.2.p)])]] 21 [] [0, 1, 0, 0, 8, 0, 32, 96, 0, 256, 768, 0, 2048, 6144, 16376, 0, 32768, 131064, 262136, 524287, 1048575] [2097151] [9000] ?_
                          conv => whnf
                          refine bldS (enc := encInt) ([x1.Now, IntKind.i64.wrap (x1.Now + 1), IntKind.i64.wrap (x1.Now - 11), IntKind.i64.wrap (x1.Now - 12), -1] : List Int) ?_
                          conv => whnf
                          refine And.intro (eD [(9000, 9000)] 0 (spec_l21Rd_pick_c hx36)) ?_
                          conv => whnf
                          refine And.intro g37 ?_
                          clear g37
                          conv => whnf
                          refine And.intro g38 ?_
                          clear g38
                          conv => whnf
                          refine And.intro (by kernel_rfl) ?_
                          conv => whnf
                          obtain ⟨x39, hx39, hlx39, hx4⟩ := bd_set hx4
                          refine setS (enc := NatEntry.enc) hx39 ?_
                          conv => whnf
                          obtain rfl := Option.some.inj hx4
                          exact ⟨_, rfl, leX []⟩
                        · conv => whnf
                          obtain rfl := Option.some.inj hx4
                          exact ⟨_, rfl, leX []⟩
                      · conv => whnf
                        refine andI hx4 (fun _ hx4 => ?_) (fun _ hx4 => ?_)
                        · conv => whnf
                          refine andI hx4 (fun _ hx4 => ?_) (fun _ hx4 => ?_)
                          · conv => whnf
                            obtain ⟨x40, hx40, hx4⟩ := bd_some hx4
                            obtain ⟨g41, hx4⟩ := gd_some hx4
                            obtain ⟨g42, hx4⟩ := gd_some hx4
                            refine draw_t tOk [.e 9 [(9000, .box 76 [.d (slD encByte a0.b), .d (.int .i64 x7.2.p)])] (.d (.int .i64 x40.1)) [] [(9000, .box 76 [.d (slD encByte a0.b), .d (.int .i64 x40.2.p)])]] 14 [] [0, 1, 0, 0, 8, 0, 32, 120, 0, 256, 1016, 2040, 4095, 8191] [16383] [9000] ?_
                            conv => whnf
                            refine bldS (enc := encInt) ([x1.Own, x1.Addr, 65535, 65536] : List Int) ?_
                            conv => whnf
                            refine And.intro (eD [(9000, 9000)] 0 (spec_l21Rd_pick_c hx40)) ?_
                            conv => whnf
                            refine And.intro g41 ?_
                            clear g41
                            conv => whnf
                            refine And.intro g42 ?_
                            clear g42
                            conv => whnf
                            refine And.intro (by kernel_rfl) ?_
                            conv => whnf
                            obtain ⟨x43, hx43, hlx43, hx4⟩ := bd_set hx4
                            refine setS (enc := NatEntry.enc) hx43 ?_
                            conv => whnf
                            obtain ⟨g44, hx4⟩ := gd_some hx4
                            refine draw_u tOk [] 8 [] [0, 1, 0, 4, 0, 28, 60, 124] [255, 511, 1023] ?_
                            conv => whnf
                            refine And.intro g44 ?_
                            clear g44
                            conv => whnf
                            refine bldS (enc := NatEntry.enc) ([(x43.getD x3.1.toNat default)] : List NatEntry) ?_
                            conv => whnf
                            refine And.intro (by kernel_rfl) ?_
                            conv => whnf
                            refine gdI hx4 (fun hx4 => ?_)
                            refine appS (enc := NatEntry.enc) (xs := x43) (ys := ([(x43.getD x3.1.toNat default)] : List NatEntry)) ?_
                            conv => whnf
                            obtain rfl := Option.some.inj hx4
                            exact ⟨_, rfl, leX []⟩
                          · conv => whnf
                            obtain rfl := Option.some.inj hx4
                            exact ⟨_, rfl, leX []⟩
                        · conv => whnf
                          obtain ⟨x46, hx46, hx4⟩ := bd_some hx4
                          refine cE [(9000, 9000)] 0 (spec_l21Rd_pick_c hx46) ?_
                          conv => whnf
                          obtain ⟨x50, hx50, hx4⟩ := bd_some hx4
                          refine loop_m tOk hx50 (fun s47 => ⟨0, 263, [(3, .ref 3 0 0), (4, .ref 4 0 0), (7, .d (.int .i64 (IntKind.i64.wrap (16 + x46.1))))], [], [(6002, .arr 47 7 s47.length (rows NatEntry.enc s47)), (6001, .arr 43 4 x1.Doors.length (rows NatDoor.enc x1.Doors)), (4, .box 31 [.d (.int .i64 0), .d (.int .i64 0), .d (.int .i64 0), .d (.int .i64 0), .d (.int .i64 0), .d (.nil), .d (.int .i64 0), .d (.nil)]), (3, .box 31 [.d (.int .i64 x1.Addr), .d (.int .i64 x1.Len), .d (.int .i64 x1.Own), .d (.int .i64 x1.Low), .d (.int .i64 x1.High), .osl 6001 0 x1.Doors.length, .d (.int .i64 x1.Now), .osl 6002 0 s47.length]), (9000, .box 76 [.d (slD encByte a0.b), .d (.int .i64 x46.2.p)])], [⟨[(0, .ref 9000 0 0)], []⟩]⟩) ?_ ?_
                          · exact leX []
                          · clear hx50
                            intro s47 y48 g49 hy48
                            conv => whnf
                            refine seq_in tOk ?_
                            conv => whnf
                            refine andI g49 (fun _ g49 => ?_) (fun _ g49 => ?_)
                            · conv => whnf
                              refine bldS (enc := NatEntry.enc) ([(⟨7, IntKind.i64.wrap (53248 + ((s47.length : Nat) : Int)), 1, x1.Low, x1.Addr, 1, x1.Now⟩ : NatEntry)] : List NatEntry) ?_
                              conv => whnf
                              refine gdI g49 (fun g49 => ?_)
                              refine appS (enc := NatEntry.enc) (xs := s47) (ys := ([(⟨7, IntKind.i64.wrap (53248 + ((s47.length : Nat) : Int)), 1, x1.Low, x1.Addr, 1, x1.Now⟩ : NatEntry)] : List NatEntry)) ?_
                              conv => whnf
                              obtain rfl := Option.some.inj g49
                              exact ⟨_, rfl, leX []⟩
                            · conv => whnf
                              obtain rfl := Option.some.inj g49
                              obtain rfl := hy48 _ rfl
                              obtain rfl := Option.some.inj hx4
                              exact ⟨_, rfl, leX []⟩
  · rintro _ rfl
    conv => whnf
    obtain rfl := Option.some.inj h
    exact lfE [.s [(5001, 6001), (5002, 6002), (6001, 5001), (6002, 5002)]]

noncomputable def spec_l25Any_m (a0 : l21Rd) : Option (NatBook × l21Rd) :=
 bd (spec_l25Book_m a0) fun x1 =>
 bd (spec_l21Rd_pick_m (⟨a0.b, x1.2.p⟩ : l21Rd) 24) fun x2 =>
(if (x2.1 == 0) = true then
 bd (spec_l25Spoil_m (⟨a0.b, x2.2.p⟩ : l21Rd) x1.1) fun x3 =>
 some (x3.1, (⟨a0.b, x3.2.p⟩ : l21Rd))
else
 some (x1.1, (⟨a0.b, x2.2.p⟩ : l21Rd)))

theorem spec_l25Any_c {a0 : l21Rd} {r : NatBook × l21Rd} (h : spec_l25Any_m a0 = some r) : EffC Tryd.prog 27 [.ref 9000 0 0] [(9000, .box 76 [.d (slD encByte a0.b), .d (.int .i64 a0.p)])] (.agg [.d (.int .i64 r.1.Addr), .d (.int .i64 r.1.Len), .d (.int .i64 r.1.Own), .d (.int .i64 r.1.Low), .d (.int .i64 r.1.High), .d (slD NatDoor.enc r.1.Doors), .d (.int .i64 r.1.Now), .d (slD NatEntry.enc r.1.Entries)]) [(9000, .box 76 [.d (slD encByte a0.b), .d (.int .i64 r.2.p)])] := by
  refine effC_x tOk (fn := Tryd.f27) (c := codeOf Tryd.f27) rfl rfl ?_
  unfold spec_l25Any_m at h
  conv => whnf
  obtain ⟨x1, hx1, h⟩ := bd_some h
  refine cE [(9000, 9000)] 0 (spec_l25Book_c hx1) ?_
  conv => whnf
  refine seq_in tOk ?_
  conv => whnf
  obtain ⟨x2, hx2, h⟩ := bd_some h
  refine cE [(9000, 9000)] 0 (spec_l21Rd_pick_c hx2) ?_
  conv => whnf
  refine andI h (fun _ h => ?_) (fun _ h => ?_)
  · conv => whnf
    obtain ⟨x3, hx3, h⟩ := bd_some h
    refine cE [(9000, 9000)] 1000 (spec_l25Spoil_c hx3) ?_
    conv => whnf
    obtain rfl := Option.some.inj h
    exact lfE [.f [6001, 6002]]
  · conv => whnf
    obtain rfl := Option.some.inj h
    exact lfE []

noncomputable def spec_DrawNatBoard_m (a0 : (List Int)) : Option (NatBook) :=
 bd (spec_l21Open_m a0) fun x1 =>
 bd (spec_l25Any_m x1) fun x2 =>
 some x2.1

theorem spec_DrawNatBoard_c {a0 : (List Int)} {r : NatBook} (h : spec_DrawNatBoard_m a0 = some r) : EffC Tryd.prog 10 [.d (slD encByte a0)] [] (.agg [.d (.int .i64 r.Addr), .d (.int .i64 r.Len), .d (.int .i64 r.Own), .d (.int .i64 r.Low), .d (.int .i64 r.High), .d (slD NatDoor.enc r.Doors), .d (.int .i64 r.Now), .d (slD NatEntry.enc r.Entries)]) [] := by
  refine effC_x tOk (fn := Tryd.f10) (c := codeOf Tryd.f10) rfl rfl ?_
  unfold spec_DrawNatBoard_m at h
  conv => whnf
  obtain ⟨x1, hx1, h⟩ := bd_some h
  refine cE [] 1000 (spec_l21Open_c hx1) ?_
  conv => whnf
  obtain ⟨x2, hx2, h⟩ := bd_some h
  refine cE [(9000, 6001)] 0 (spec_l25Any_c hx2) ?_
  conv => whnf
  obtain rfl := Option.some.inj h
  exact lfE []

noncomputable def impl_within_m (a0 : Int) (a1 : Int) (a2 : Int) : Option (Bool) :=
 some ((decide (a1 ≤ a0)) && (decide (a0 ≤ a2)))

theorem impl_within_c {a0 : Int} {a1 : Int} {a2 : Int} {r : Bool} (h : impl_within_m a0 a1 a2 = some r) : PureC Tryd.prog 36 [.d (.int .i64 a0), .d (.int .i64 a1), .d (.int .i64 a2)] (.d (.bool r)) [] := by
  refine pureC_x tOk (fn := Tryd.f36) (c := codeOf Tryd.f36) rfl rfl ?_
  unfold impl_within_m at h
  conv => whnf
  obtain rfl := Option.some.inj h
  exact lfP []

noncomputable def impl_NetPrefix_size_m (a0 : NetPrefix) : Option (Int) :=
 gd ((0 : Int) ≤ (IntKind.i64.wrap (16 - a0.Len))) <|
 some (IntKind.i64.wrap (1 * 2 ^ min (IntKind.i64.wrap (16 - a0.Len) : Int).toNat IntKind.i64.bits))

theorem impl_NetPrefix_size_c {a0 : NetPrefix} {r : Int} (h : impl_NetPrefix_size_m a0 = some r) : PureC Tryd.prog 56 [.agg [.d (.int .i64 a0.Addr), .d (.int .i64 a0.Len)]] (.d (.int .i64 r)) [] := by
  refine pureC_x tOk (fn := Tryd.f56) (c := codeOf Tryd.f56) rfl rfl ?_
  unfold impl_NetPrefix_size_m at h
  conv => whnf
  refine gdI h (fun h => ?_)
  conv => whnf
  obtain rfl := Option.some.inj h
  exact lfP []

noncomputable def impl_NetOk_m (a0 : NetPrefix) : Option (Bool) :=
 bd (impl_within_m a0.Len 0 16) fun x1 =>
 bd (gcall (x1 = true) (impl_within_m a0.Addr 0 65535)) fun x2 =>
 bd (gcall ((x1 && x2) = true) (impl_NetPrefix_size_m a0)) fun x3 =>
 gd ((x1 && x2) = true → ((x3 : Int) ≠ 0)) <|
 some ((x1 && x2) && (((a0.Addr : Int).tmod x3) == 0))

theorem impl_NetOk_c {a0 : NetPrefix} {r : Bool} (h : impl_NetOk_m a0 = some r) : PureC Tryd.prog 35 [.agg [.d (.int .i64 a0.Addr), .d (.int .i64 a0.Len)]] (.d (.bool r)) [] := by
  refine pureC_x tOk (fn := Tryd.f35) (c := codeOf Tryd.f35) rfl rfl ?_
  unfold impl_NetOk_m at h
  conv => whnf
  obtain ⟨x1, hx1, h⟩ := bd_some h
  obtain ⟨x2, hx2, h⟩ := bd_some h
  obtain ⟨x3, hx3, h⟩ := bd_some h
  obtain ⟨g4, h⟩ := gd_some h
  refine draw_u tOk [.u 2 0 (.d (.bool x1)) [], .u 6 0 (.d (.bool x2)) [], .u 12 0 (.d (.int .i64 x3)) []] 17 [] [0, 1, 3, 7, 15, 31, 63, 127, 255, 511, 1023, 511, 2559, 8191, 16383, 32767, 65535] [] ?_
  conv => whnf
  refine And.intro (callD_any (impl_within_c hx1) (by kernel_rfl)) ?_
  conv => whnf
  refine And.intro (callDG_if rfl rfl rfl rfl (by intro c0; exact impl_within_c (gcall_some hx2 c0))) ?_
  conv => whnf
  refine And.intro (callDG_if rfl rfl rfl rfl (by intro c0; exact impl_NetPrefix_size_c (gcall_some hx3 c0))) ?_
  conv => whnf
  refine And.intro g4 ?_
  clear g4
  conv => whnf
  refine And.intro (by kernel_rfl) ?_
  conv => whnf
  obtain rfl := Option.some.inj h
  exact lfP []

noncomputable def impl_NetPrefix_last_m (a0 : NetPrefix) : Option (Int) :=
 bd (impl_NetPrefix_size_m a0) fun x1 =>
 some (IntKind.i64.wrap ((IntKind.i64.wrap (a0.Addr + x1)) - 1))

theorem impl_NetPrefix_last_c {a0 : NetPrefix} {r : Int} (h : impl_NetPrefix_last_m a0 = some r) : PureC Tryd.prog 71 [.agg [.d (.int .i64 a0.Addr), .d (.int .i64 a0.Len)]] (.d (.int .i64 r)) [] := by
  refine pureC_x tOk (fn := Tryd.f71) (c := codeOf Tryd.f71) rfl rfl ?_
  unfold impl_NetPrefix_last_m at h
  conv => whnf
  obtain ⟨x1, hx1, h⟩ := bd_some h
  refine draw_u tOk [.u 3 0 (.d (.int .i64 x1)) []] 7 [] [0, 1, 0, 4, 15, 31, 63] [] ?_
  conv => whnf
  refine And.intro (callD_any (impl_NetPrefix_size_c hx1) (by kernel_rfl)) ?_
  conv => whnf
  refine And.intro (by kernel_rfl) ?_
  conv => whnf
  obtain rfl := Option.some.inj h
  exact lfP []

noncomputable def impl_NetPrefix_has_m (a0 : NetPrefix) (a1 : Int) : Option (Bool) :=
 bd (impl_NetPrefix_last_m a0) fun x1 =>
 bd (impl_within_m a1 a0.Addr x1) fun x2 =>
 some x2

theorem impl_NetPrefix_has_c {a0 : NetPrefix} {a1 : Int} {r : Bool} (h : impl_NetPrefix_has_m a0 a1 = some r) : PureC Tryd.prog 57 [.agg [.d (.int .i64 a0.Addr), .d (.int .i64 a0.Len)], .d (.int .i64 a1)] (.d (.bool r)) [] := by
  refine pureC_x tOk (fn := Tryd.f57) (c := codeOf Tryd.f57) rfl rfl ?_
  unfold impl_NetPrefix_has_m at h
  conv => whnf
  obtain ⟨x1, hx1, h⟩ := bd_some h
  obtain ⟨x2, hx2, h⟩ := bd_some h
  refine draw_u tOk [.u 4 0 (.d (.int .i64 x1)) [], .u 5 0 (.d (.bool x2)) []] 7 [] [0, 0, 2, 0, 8, 31, 63] [] ?_
  conv => whnf
  refine And.intro (callD_any (impl_NetPrefix_last_c hx1) (by kernel_rfl)) ?_
  conv => whnf
  refine And.intro (callD_any (impl_within_c hx2) (by kernel_rfl)) ?_
  conv => whnf
  refine And.intro (by kernel_rfl) ?_
  conv => whnf
  obtain rfl := Option.some.inj h
  exact lfP []

noncomputable def impl_NatBook_inside_m (a0 : NatBook) (a1 : Int) : Option (Bool) :=
 bd (impl_NetPrefix_has_m (⟨a0.Addr, a0.Len⟩ : NetPrefix) a1) fun x1 =>
 some x1

theorem impl_NatBook_inside_c {a0 : NatBook} {a1 : Int} {r : Bool} (h : impl_NatBook_inside_m a0 a1 = some r) : PureC Tryd.prog 37 [.agg [.d (.int .i64 a0.Addr), .d (.int .i64 a0.Len), .d (.int .i64 a0.Own), .d (.int .i64 a0.Low), .d (.int .i64 a0.High), .d (slD NatDoor.enc a0.Doors), .d (.int .i64 a0.Now), .d (slD NatEntry.enc a0.Entries)], .d (.int .i64 a1)] (.d (.bool r)) [] := by
  refine pureC_x tOk (fn := Tryd.f37) (c := codeOf Tryd.f37) rfl rfl ?_
  unfold impl_NatBook_inside_m at h
  conv => whnf
  obtain ⟨x1, hx1, h⟩ := bd_some h
  refine cC 0 (impl_NetPrefix_has_c hx1) ?_
  clear hx1
  conv => whnf
  obtain rfl := Option.some.inj h
  exact lfP []

noncomputable def cmp_isNaN_int_m (a0 : Int) : Option (Bool) :=
 some (a0 != a0)

theorem cmp_isNaN_int_c {a0 : Int} {r : Bool} (h : cmp_isNaN_int_m a0 = some r) : PureC Tryd.prog 72 [.d (.int .i64 a0)] (.d (.bool r)) [] := by
  refine pureC_x tOk (fn := Tryd.f72) (c := codeOf Tryd.f72) rfl rfl ?_
  unfold cmp_isNaN_int_m at h
  conv => whnf
  obtain rfl := Option.some.inj h
  exact lfP []

noncomputable def cmp_Compare_int_m (a0 : Int) (a1 : Int) : Option (Int) :=
 bd (cmp_isNaN_int_m a0) fun x1 =>
 bd (cmp_isNaN_int_m a1) fun x2 =>
(if x1 = true then
(if x2 = true then
 some 0
else
 some (-1))
else
(if x2 = true then
 some 1
else
(if (decide (a0 < a1)) = true then
 some (-1)
else
(if (decide (a0 > a1)) = true then
 some 1
else
 some 0))))

theorem cmp_Compare_int_c {a0 : Int} {a1 : Int} {r : Int} (h : cmp_Compare_int_m a0 a1 = some r) : PureC Tryd.prog 59 [.d (.int .i64 a0), .d (.int .i64 a1)] (.d (.int .i64 r)) [] := by
  refine pureC_x tOk (fn := Tryd.f59) (c := codeOf Tryd.f59) rfl rfl ?_
  unfold cmp_Compare_int_m at h
  conv => whnf
  obtain ⟨x1, hx1, h⟩ := bd_some h
  refine cC 0 (cmp_isNaN_int_c hx1) ?_
  clear hx1
  conv => whnf
  obtain ⟨x2, hx2, h⟩ := bd_some h
  refine cC 0 (cmp_isNaN_int_c hx2) ?_
  clear hx2
  conv => whnf
  refine seq_in tOk ?_
  conv => whnf
  refine andI h (fun _ h => ?_) (fun _ h => ?_)
  · conv => whnf
    refine seq_in tOk ?_
    conv => whnf
    refine andI h (fun _ h => ?_) (fun _ h => ?_)
    · conv => whnf
      obtain rfl := Option.some.inj h
      exact lfP []
    · conv => whnf
      obtain rfl := Option.some.inj h
      exact lfP []
  · conv => whnf
    refine seq_in tOk ?_
    conv => whnf
    refine andI h (fun _ h => ?_) (fun _ h => ?_)
    · conv => whnf
      obtain rfl := Option.some.inj h
      exact lfP []
    · conv => whnf
      refine seq_in tOk ?_
      conv => whnf
      refine andI h (fun _ h => ?_) (fun _ h => ?_)
      · conv => whnf
        obtain rfl := Option.some.inj h
        exact lfP []
      · conv => whnf
        refine seq_in tOk ?_
        conv => whnf
        refine andI h (fun _ h => ?_) (fun _ h => ?_)
        · conv => whnf
          obtain rfl := Option.some.inj h
          exact lfP []
        · conv => whnf
          obtain rfl := Option.some.inj h
          exact lfP []

noncomputable def cmp_Or_int_m (a0 : (List Int)) : Option (Int) :=
 bd (lp (σ := Int) (β := (Int ⊕ Unit)) (fun s1 =>
(if (decide (s1 < ((a0.length : Nat) : Int))) = true then
 gd ((0 : Int) ≤ s1 ∧ s1 < ((a0.length : Nat) : Int)) <|
(if ((a0.getD s1.toNat default) != 0) = true then
 some (.inr (.inl (a0.getD s1.toNat default)))
else
 some (.inl (IntKind.i64.wrap (s1 + 1))))
else
 some (.inr (.inr ())))) 0) fun x4 =>
(match x4 with
| .inl d6 =>
 some d6
| .inr d7 =>
 some 0)

theorem cmp_Or_int_c {a0 : (List Int)} {r : Int} (h : cmp_Or_int_m a0 = some r) : PureC Tryd.prog 58 [.d (slD encInt a0)] (.d (.int .i64 r)) [] := by
  refine pureC_x tOk (fn := Tryd.f58) (c := codeOf Tryd.f58) rfl rfl ?_
  unfold cmp_Or_int_m at h
  conv => whnf
  refine seq_in tOk ?_
  conv => whnf
  obtain ⟨x4, hx4, h⟩ := bd_some h
  refine loop_m tOk hx4 (fun s1 => ⟨0, 18, [(3, .d (.int .i64 0)), (6, .d (slD encInt a0)), (7, .d (.int .i64 ((a0.length : Nat) : Int))), (8, .d (.int .i64 s1))], [], [], []⟩) ?_ ?_
  · exact leX []
  · clear hx4
    intro s1 y2 g3 hy2
    conv => whnf
    refine seq_in tOk ?_
    conv => whnf
    refine andI g3 (fun _ g3 => ?_) (fun _ g3 => ?_)
    · conv => whnf
      refine seq_in tOk ?_
      conv => whnf
      refine gdI g3 (fun g3 => ?_)
      conv => whnf
      refine andI g3 (fun _ g3 => ?_) (fun _ g3 => ?_)
      · conv => whnf
        obtain rfl := Option.some.inj g3
        obtain rfl := hy2 _ rfl
        obtain rfl := Option.some.inj h
        exact lfP []
      · conv => whnf
        obtain rfl := Option.some.inj g3
        exact ⟨_, rfl, leX []⟩
    · conv => whnf
      obtain rfl := Option.some.inj g3
      obtain rfl := hy2 _ rfl
      obtain rfl := Option.some.inj h
      exact lfP []

noncomputable def impl_NatBook_doorsOk_m (a0 : NatBook) : Option (Bool) :=
 bd (lp (σ := Int) (β := (Unit ⊕ Unit)) (fun s1 =>
(if (decide (s1 < ((a0.Doors.length : Nat) : Int))) = true then
 gd ((0 : Int) ≤ s1 ∧ s1 < ((a0.Doors.length : Nat) : Int)) <|
 bd (impl_within_m ((a0.Doors.getD s1.toNat default).Kind) 1 7) fun x6 =>
 bd (gcall ((!x6) = false) (impl_within_m ((a0.Doors.getD s1.toNat default).Outer) 1 65535)) fun x7 =>
 bd (gcall (((!x6) || (!x7)) = false) (impl_within_m ((a0.Doors.getD s1.toNat default).Outer) a0.Low a0.High)) fun x8 =>
 bd (gcall ((((!x6) || (!x7)) || x8) = false) (impl_NatBook_inside_m a0 ((a0.Doors.getD s1.toNat default).Inner))) fun x9 =>
 bd (gcall (((((!x6) || (!x7)) || x8) || (!x9)) = false) (impl_within_m ((a0.Doors.getD s1.toNat default).InnerPort) 1 65535)) fun x10 =>
(if (((((!x6) || (!x7)) || x8) || (!x9)) || (!x10)) = true then
 some (.inr (.inl ()))
else
 gd ((decide (s1 > 0)) = true → ((0 : Int) ≤ IntKind.i64.wrap (s1 - 1) ∧ IntKind.i64.wrap (s1 - 1) < ((a0.Doors.length : Nat) : Int))) <|
 bd (gcall ((decide (s1 > 0)) = true) (cmp_Compare_int_m ((a0.Doors.getD ((IntKind.i64.wrap (s1 - 1)).toNat) default).Kind) ((a0.Doors.getD s1.toNat default).Kind))) fun x12 =>
 gd ((decide (s1 > 0)) = true → ((0 : Int) ≤ IntKind.i64.wrap (s1 - 1) ∧ IntKind.i64.wrap (s1 - 1) < ((a0.Doors.length : Nat) : Int))) <|
 bd (gcall ((decide (s1 > 0)) = true) (cmp_Compare_int_m ((a0.Doors.getD ((IntKind.i64.wrap (s1 - 1)).toNat) default).Outer) ((a0.Doors.getD s1.toNat default).Outer))) fun x14 =>
 bd (gcall ((decide (s1 > 0)) = true) (cmp_Or_int_m ([x12, x14] : List Int))) fun x15 =>
(if ((decide (s1 > 0)) && (decide (x15 ≥ 0))) = true then
 some (.inr (.inl ()))
else
 gd ((0 : Int) ≤ (0 : Int) ∧ (0 : Int) ≤ s1 ∧ s1 ≤ ((a0.Doors.length : Nat) : Int)) <|
 bd (lp (σ := Int) (β := (Unit ⊕ Unit)) (fun s17 =>
(if (decide (s17 < ((s1.toNat : Nat) : Int))) = true then
 gd ((0 : Int) ≤ s17 ∧ s17 < ((s1.toNat : Nat) : Int)) <|
(if (((((a0.Doors.getD s17.toNat default).Kind) == ((a0.Doors.getD s1.toNat default).Kind)) && (((a0.Doors.getD s17.toNat default).Inner) == ((a0.Doors.getD s1.toNat default).Inner))) && (((a0.Doors.getD s17.toNat default).InnerPort) == ((a0.Doors.getD s1.toNat default).InnerPort))) = true then
 some (.inr (.inl ()))
else
 some (.inl (IntKind.i64.wrap (s17 + 1))))
else
 some (.inr (.inr ())))) 0) fun x20 =>
(match x20 with
| .inl d22 =>
 some (.inr (.inl ()))
| .inr d23 =>
 some (.inl (IntKind.i64.wrap (s1 + 1))))))
else
 some (.inr (.inr ())))) 0) fun x4 =>
(match x4 with
| .inl d24 =>
 some false
| .inr d25 =>
 some (decide (((a0.Doors.length : Nat) : Int) ≤ 6)))

theorem impl_NatBook_doorsOk_c {a0 : NatBook} {r : Bool} (h : impl_NatBook_doorsOk_m a0 = some r) : PureC Tryd.prog 38 [.agg [.d (.int .i64 a0.Addr), .d (.int .i64 a0.Len), .d (.int .i64 a0.Own), .d (.int .i64 a0.Low), .d (.int .i64 a0.High), .d (slD NatDoor.enc a0.Doors), .d (.int .i64 a0.Now), .d (slD NatEntry.enc a0.Entries)]] (.d (.bool r)) [] := by
  refine pureC_x tOk (fn := Tryd.f38) (c := codeOf Tryd.f38) rfl rfl ?_
  unfold impl_NatBook_doorsOk_m at h
  conv => whnf
  refine seq_in tOk ?_
  conv => whnf
  obtain ⟨x4, hx4, h⟩ := bd_some h
  refine loop_m tOk hx4 (fun s1 => ⟨0, 108, [(1, .ref 1 0 0), (8, .d (slD NatDoor.enc a0.Doors)), (9, .d (.int .i64 ((a0.Doors.length : Nat) : Int))), (10, .d (.int .i64 s1))], [], [(1, .box 31 [.d (.int .i64 a0.Addr), .d (.int .i64 a0.Len), .d (.int .i64 a0.Own), .d (.int .i64 a0.Low), .d (.int .i64 a0.High), .d (slD NatDoor.enc a0.Doors), .d (.int .i64 a0.Now), .d (slD NatEntry.enc a0.Entries)])], []⟩) ?_ ?_
  · exact leX []
  · clear hx4
    intro s1 y2 g3 hy2
    conv => whnf
    refine seq_in tOk ?_
    conv => whnf
    refine andI g3 (fun _ g3 => ?_) (fun _ g3 => ?_)
    · conv => whnf
      refine seq_in tOk ?_
      conv => whnf
      refine gdI g3 (fun g3 => ?_)
      conv => whnf
      refine seq_in tOk ?_
      conv => whnf
      obtain ⟨x6, hx6, g3⟩ := bd_some g3
      refine cC 0 (impl_within_c hx6) ?_
      clear hx6
      conv => whnf
      obtain ⟨x7, hx7, g3⟩ := bd_some g3
      refine cG (fun c0 => impl_within_c (gcall_some hx7 c0)) ?_
      conv => whnf
      obtain ⟨x8, hx8, g3⟩ := bd_some g3
      refine cG (fun c0 => impl_within_c (gcall_some hx8 c0)) ?_
      conv => whnf
      obtain ⟨x9, hx9, g3⟩ := bd_some g3
      refine cG (fun c0 => impl_NatBook_inside_c (gcall_some hx9 c0)) ?_
      conv => whnf
      obtain ⟨x10, hx10, g3⟩ := bd_some g3
      refine cG (fun c0 => impl_within_c (gcall_some hx10 c0)) ?_
      conv => whnf
      refine andI g3 (fun _ g3 => ?_) (fun _ g3 => ?_)
      · conv => whnf
        obtain rfl := Option.some.inj g3
        obtain rfl := hy2 _ rfl
        obtain rfl := Option.some.inj h
        exact lfP []
      · conv => whnf
        refine seq_in tOk ?_
        conv => whnf
        obtain ⟨g11, g3⟩ := gd_some g3
        obtain ⟨x12, hx12, g3⟩ := bd_some g3
        obtain ⟨g13, g3⟩ := gd_some g3
        obtain ⟨x14, hx14, g3⟩ := bd_some g3
        obtain ⟨x15, hx15, g3⟩ := bd_some g3
        refine draw_u tOk [.u 12 0 (.d (.int .i64 x12)) [], .u 22 0 (.d (.int .i64 x14)) [], .u 24 0 (.d (.int .i64 x15)) []] 27 [] [0, 1, 3, 7, 15, 7, 39, 127, 255, 511, 7, 1031, 4095, 7, 8199, 7, 32775, 122887, 253959, 516103, 7, 1048583, 4194303, 8388607, 16777215, 33554431, 67108863] [] ?_
        conv => whnf
        refine And.intro g11 ?_
        clear g11
        conv => whnf
        refine And.intro (callDG_if rfl rfl rfl rfl (by intro c0; exact cmp_Compare_int_c (gcall_some hx12 c0))) ?_
        conv => whnf
        refine And.intro g13 ?_
        clear g13
        conv => whnf
        refine And.intro (callDG_if rfl rfl rfl rfl (by intro c0; exact cmp_Compare_int_c (gcall_some hx14 c0))) ?_
        conv => whnf
        refine And.intro (callDG_if rfl rfl rfl rfl (by intro c0;  exact (cmp_Or_int_c (gcall_some hx15 c0)).le argA)) ?_
        conv => whnf
        refine And.intro (by kernel_rfl) ?_
        conv => whnf
        refine andI g3 (fun _ g3 => ?_) (fun _ g3 => ?_)
        · conv => whnf
          obtain rfl := Option.some.inj g3
          obtain rfl := hy2 _ rfl
          obtain rfl := Option.some.inj h
          exact lfP []
        · conv => whnf
          obtain ⟨g16, g3⟩ := gd_some g3
          refine And.intro ⟨g16, .inr rfl⟩ ?_
          conv => whnf
          obtain ⟨x20, hx20, g3⟩ := bd_some g3
          refine loop_m tOk hx20 (fun s17 => ⟨0, 108, [(1, .ref 1 0 0), (4, .ref 4 0 0), (8, .d (slD NatDoor.enc a0.Doors)), (9, .d (.int .i64 ((a0.Doors.length : Nat) : Int))), (10, .d (.int .i64 s1)), (77, .d (.sl s1.toNat (rows NatDoor.enc a0.Doors))), (78, .d (.int .i64 ((s1.toNat : Nat) : Int))), (79, .d (.int .i64 s17))], [], [(4, .box 43 [.d (.int .i64 ((a0.Doors.getD s1.toNat default).Kind)), .d (.int .i64 ((a0.Doors.getD s1.toNat default).Outer)), .d (.int .i64 ((a0.Doors.getD s1.toNat default).Inner)), .d (.int .i64 ((a0.Doors.getD s1.toNat default).InnerPort))]), (1, .box 31 [.d (.int .i64 a0.Addr), .d (.int .i64 a0.Len), .d (.int .i64 a0.Own), .d (.int .i64 a0.Low), .d (.int .i64 a0.High), .d (slD NatDoor.enc a0.Doors), .d (.int .i64 a0.Now), .d (slD NatEntry.enc a0.Entries)])], []⟩) ?_ ?_
          · exact leX []
          · clear hx20
            intro s17 y18 g19 hy18
            conv => whnf
            refine seq_in tOk ?_
            conv => whnf
            refine andI g19 (fun _ g19 => ?_) (fun _ g19 => ?_)
            · conv => whnf
              refine seq_in tOk ?_
              conv => whnf
              refine gdI g19 (fun g19 => ?_)
              conv => whnf
              refine andI g19 (fun _ g19 => ?_) (fun _ g19 => ?_)
              · conv => whnf
                obtain rfl := Option.some.inj g19
                obtain rfl := hy18 _ rfl
                obtain rfl := Option.some.inj g3
                obtain rfl := hy2 _ rfl
                obtain rfl := Option.some.inj h
                exact lfP []
              · conv => whnf
                obtain rfl := Option.some.inj g19
                exact ⟨_, rfl, leX []⟩
            · conv => whnf
              obtain rfl := Option.some.inj g19
              obtain rfl := hy18 _ rfl
              obtain rfl := Option.some.inj g3
              exact ⟨_, rfl, leX []⟩
    · conv => whnf
      obtain rfl := Option.some.inj g3
      obtain rfl := hy2 _ rfl
      obtain rfl := Option.some.inj h
      exact lfP []

noncomputable def impl_NatEntry_flow_m (a0 : NatEntry) : Option (NatFlow) :=
 some (⟨a0.Kind, a0.Inner, a0.InnerPort, a0.Peer, a0.PeerPort⟩ : NatFlow)

theorem impl_NatEntry_flow_c {a0 : NatEntry} {r : NatFlow} (h : impl_NatEntry_flow_m a0 = some r) : PureC Tryd.prog 62 [.agg [.d (.int .i64 a0.Kind), .d (.int .i64 a0.Peer), .d (.int .i64 a0.PeerPort), .d (.int .i64 a0.Outer), .d (.int .i64 a0.Inner), .d (.int .i64 a0.InnerPort), .d (.int .i64 a0.Last)]] (.agg [.d (.int .i64 r.Kind), .d (.int .i64 r.From), .d (.int .i64 r.FromPort), .d (.int .i64 r.To), .d (.int .i64 r.ToPort)]) [] := by
  refine pureC_x tOk (fn := Tryd.f62) (c := codeOf Tryd.f62) rfl rfl ?_
  unfold impl_NatEntry_flow_m at h
  conv => whnf
  obtain rfl := Option.some.inj h
  exact lfP []

noncomputable def impl_NatFlowOk_m (a0 : NatFlow) : Option (Bool) :=
 bd (impl_within_m a0.Kind 1 7) fun x1 =>
 bd (gcall (x1 = true) (impl_within_m a0.From 0 65535)) fun x2 =>
 bd (gcall ((x1 && x2) = true) (impl_within_m a0.To 0 65535)) fun x3 =>
 bd (gcall (((x1 && x2) && x3) = true) (impl_within_m a0.FromPort 1 65535)) fun x4 =>
 bd (gcall ((((x1 && x2) && x3) && x4) = true) (impl_within_m a0.ToPort 1 65535)) fun x5 =>
 some ((((x1 && x2) && x3) && x4) && x5)

theorem impl_NatFlowOk_c {a0 : NatFlow} {r : Bool} (h : impl_NatFlowOk_m a0 = some r) : PureC Tryd.prog 73 [.agg [.d (.int .i64 a0.Kind), .d (.int .i64 a0.From), .d (.int .i64 a0.FromPort), .d (.int .i64 a0.To), .d (.int .i64 a0.ToPort)]] (.d (.bool r)) [] := by
  refine pureC_x tOk (fn := Tryd.f73) (c := codeOf Tryd.f73) rfl rfl ?_
  unfold impl_NatFlowOk_m at h
  conv => whnf
  obtain ⟨x1, hx1, h⟩ := bd_some h
  refine cC 0 (impl_within_c hx1) ?_
  clear hx1
  conv => whnf
  obtain ⟨x2, hx2, h⟩ := bd_some h
  refine cG (fun c0 => impl_within_c (gcall_some hx2 c0)) ?_
  conv => whnf
  obtain ⟨x3, hx3, h⟩ := bd_some h
  refine cG (fun c0 => impl_within_c (gcall_some hx3 c0)) ?_
  conv => whnf
  obtain ⟨x4, hx4, h⟩ := bd_some h
  refine cG (fun c0 => impl_within_c (gcall_some hx4 c0)) ?_
  conv => whnf
  obtain ⟨x5, hx5, h⟩ := bd_some h
  refine cG (fun c0 => impl_within_c (gcall_some hx5 c0)) ?_
  conv => whnf
  obtain rfl := Option.some.inj h
  exact lfP []

noncomputable def impl_NatBook_age_m (a0 : NatBook) (a1 : NatEntry) : Option (Int) :=
 some (IntKind.i64.wrap (a0.Now - a1.Last))

theorem impl_NatBook_age_c {a0 : NatBook} {a1 : NatEntry} {r : Int} (h : impl_NatBook_age_m a0 a1 = some r) : PureC Tryd.prog 23 [.agg [.d (.int .i64 a0.Addr), .d (.int .i64 a0.Len), .d (.int .i64 a0.Own), .d (.int .i64 a0.Low), .d (.int .i64 a0.High), .d (slD NatDoor.enc a0.Doors), .d (.int .i64 a0.Now), .d (slD NatEntry.enc a0.Entries)], .agg [.d (.int .i64 a1.Kind), .d (.int .i64 a1.Peer), .d (.int .i64 a1.PeerPort), .d (.int .i64 a1.Outer), .d (.int .i64 a1.Inner), .d (.int .i64 a1.InnerPort), .d (.int .i64 a1.Last)]] (.d (.int .i64 r)) [] := by
  refine pureC_x tOk (fn := Tryd.f23) (c := codeOf Tryd.f23) rfl rfl ?_
  unfold impl_NatBook_age_m at h
  conv => whnf
  obtain rfl := Option.some.inj h
  exact lfP []

noncomputable def impl_NatBook_entryOk_m (a0 : NatBook) (a1 : NatEntry) : Option (Bool) :=
 bd (impl_NatEntry_flow_m a1) fun x1 =>
 bd (impl_NatFlowOk_m x1) fun x2 =>
 bd (gcall (x2 = true) (impl_within_m a1.Outer a0.Low a0.High)) fun x3 =>
 bd (gcall ((x2 && x3) = true) (impl_NatBook_inside_m a0 a1.Inner)) fun x4 =>
 bd (gcall (((x2 && x3) && x4) = true) (impl_NatBook_inside_m a0 a1.Peer)) fun x5 =>
 bd (gcall (((((x2 && x3) && x4) && (!x5)) && (a1.Peer != a0.Own)) = true) (impl_within_m a1.Last 0 a0.Now)) fun x6 =>
 bd (gcall ((((((x2 && x3) && x4) && (!x5)) && (a1.Peer != a0.Own)) && x6) = true) (impl_NatBook_age_m a0 a1)) fun x7 =>
 some ((((((x2 && x3) && x4) && (!x5)) && (a1.Peer != a0.Own)) && x6) && (decide (x7 < 12)))

theorem impl_NatBook_entryOk_c {a0 : NatBook} {a1 : NatEntry} {r : Bool} (h : impl_NatBook_entryOk_m a0 a1 = some r) : PureC Tryd.prog 60 [.agg [.d (.int .i64 a0.Addr), .d (.int .i64 a0.Len), .d (.int .i64 a0.Own), .d (.int .i64 a0.Low), .d (.int .i64 a0.High), .d (slD NatDoor.enc a0.Doors), .d (.int .i64 a0.Now), .d (slD NatEntry.enc a0.Entries)], .agg [.d (.int .i64 a1.Kind), .d (.int .i64 a1.Peer), .d (.int .i64 a1.PeerPort), .d (.int .i64 a1.Outer), .d (.int .i64 a1.Inner), .d (.int .i64 a1.InnerPort), .d (.int .i64 a1.Last)]] (.d (.bool r)) [] := by
  refine pureC_x tOk (fn := Tryd.f60) (c := codeOf Tryd.f60) rfl rfl ?_
  unfold impl_NatBook_entryOk_m at h
  conv => whnf
  obtain ⟨x1, hx1, h⟩ := bd_some h
  refine cC 0 (impl_NatEntry_flow_c hx1) ?_
  clear hx1
  conv => whnf
  obtain ⟨x2, hx2, h⟩ := bd_some h
  refine cC 0 (impl_NatFlowOk_c hx2) ?_
  clear hx2
  conv => whnf
  obtain ⟨x3, hx3, h⟩ := bd_some h
  refine cG (fun c0 => impl_within_c (gcall_some hx3 c0)) ?_
  conv => whnf
  obtain ⟨x4, hx4, h⟩ := bd_some h
  refine cG (fun c0 => impl_NatBook_inside_c (gcall_some hx4 c0)) ?_
  conv => whnf
  obtain ⟨x5, hx5, h⟩ := bd_some h
  refine cG (fun c0 => impl_NatBook_inside_c (gcall_some hx5 c0)) ?_
  conv => whnf
  obtain ⟨x6, hx6, h⟩ := bd_some h
  refine cG (fun c0 => impl_within_c (gcall_some hx6 c0)) ?_
  conv => whnf
  obtain ⟨x7, hx7, h⟩ := bd_some h
  refine cG (fun c0 => impl_NatBook_age_c (gcall_some hx7 c0)) ?_
  conv => whnf
  obtain rfl := Option.some.inj h
  exact lfP []

noncomputable def impl_NatEntry_compare_m (a0 : NatEntry) (a1 : NatEntry) : Option (Int) :=
 bd (cmp_Compare_int_m a0.Kind a1.Kind) fun x1 =>
 bd (cmp_Compare_int_m a0.Peer a1.Peer) fun x2 =>
 bd (cmp_Compare_int_m a0.PeerPort a1.PeerPort) fun x3 =>
 bd (cmp_Compare_int_m a0.Outer a1.Outer) fun x4 =>
 bd (cmp_Or_int_m ([x1, x2, x3, x4] : List Int)) fun x5 =>
 some x5

theorem impl_NatEntry_compare_c {a0 : NatEntry} {a1 : NatEntry} {r : Int} (h : impl_NatEntry_compare_m a0 a1 = some r) : PureC Tryd.prog 61 [.agg [.d (.int .i64 a0.Kind), .d (.int .i64 a0.Peer), .d (.int .i64 a0.PeerPort), .d (.int .i64 a0.Outer), .d (.int .i64 a0.Inner), .d (.int .i64 a0.InnerPort), .d (.int .i64 a0.Last)], .agg [.d (.int .i64 a1.Kind), .d (.int .i64 a1.Peer), .d (.int .i64 a1.PeerPort), .d (.int .i64 a1.Outer), .d (.int .i64 a1.Inner), .d (.int .i64 a1.InnerPort), .d (.int .i64 a1.Last)]] (.d (.int .i64 r)) [] := by
  refine pureC_x tOk (fn := Tryd.f61) (c := codeOf Tryd.f61) rfl rfl ?_
  unfold impl_NatEntry_compare_m at h
  conv => whnf
  obtain ⟨x1, hx1, h⟩ := bd_some h
  obtain ⟨x2, hx2, h⟩ := bd_some h
  obtain ⟨x3, hx3, h⟩ := bd_some h
  obtain ⟨x4, hx4, h⟩ := bd_some h
  obtain ⟨x5, hx5, h⟩ := bd_some h
  refine draw_u tOk [.u 4 0 (.d (.int .i64 x1)) [], .u 9 0 (.d (.int .i64 x2)) [], .u 14 0 (.d (.int .i64 x3)) [], .u 19 0 (.d (.int .i64 x4)) [], .u 21 0 (.d (.int .i64 x5)) []] 23 [] [0, 1, 0, 4, 15, 0, 32, 0, 128, 511, 0, 1024, 0, 4096, 16383, 0, 32768, 0, 131072, 524287, 1048575, 2097151, 4194303] [] ?_
  conv => whnf
  refine And.intro (callD_any (cmp_Compare_int_c hx1) (by kernel_rfl)) ?_
  conv => whnf
  refine And.intro (callD_any (cmp_Compare_int_c hx2) (by kernel_rfl)) ?_
  conv => whnf
  refine And.intro (callD_any (cmp_Compare_int_c hx3) (by kernel_rfl)) ?_
  conv => whnf
  refine And.intro (callD_any (cmp_Compare_int_c hx4) (by kernel_rfl)) ?_
  conv => whnf
  refine bldS (enc := encInt) ([x1, x2, x3, x4] : List Int) ?_
  conv => whnf
  refine And.intro (callD_any (cmp_Or_int_c hx5) (by kernel_rfl)) ?_
  conv => whnf
  refine And.intro (by kernel_rfl) ?_
  conv => whnf
  obtain rfl := Option.some.inj h
  exact lfP []

noncomputable def impl_NatBook_lives_m (a0 : NatBook) (a1 : NatEntry) : Option (Bool) :=
 bd (impl_NatBook_age_m a0 a1) fun x1 =>
 some (decide (x1 < 8))

theorem impl_NatBook_lives_c {a0 : NatBook} {a1 : NatEntry} {r : Bool} (h : impl_NatBook_lives_m a0 a1 = some r) : PureC Tryd.prog 24 [.agg [.d (.int .i64 a0.Addr), .d (.int .i64 a0.Len), .d (.int .i64 a0.Own), .d (.int .i64 a0.Low), .d (.int .i64 a0.High), .d (slD NatDoor.enc a0.Doors), .d (.int .i64 a0.Now), .d (slD NatEntry.enc a0.Entries)], .agg [.d (.int .i64 a1.Kind), .d (.int .i64 a1.Peer), .d (.int .i64 a1.PeerPort), .d (.int .i64 a1.Outer), .d (.int .i64 a1.Inner), .d (.int .i64 a1.InnerPort), .d (.int .i64 a1.Last)]] (.d (.bool r)) [] := by
  refine pureC_x tOk (fn := Tryd.f24) (c := codeOf Tryd.f24) rfl rfl ?_
  unfold impl_NatBook_lives_m at h
  conv => whnf
  obtain ⟨x1, hx1, h⟩ := bd_some h
  refine cC 0 (impl_NatBook_age_c hx1) ?_
  clear hx1
  conv => whnf
  obtain rfl := Option.some.inj h
  exact lfP []

noncomputable def impl_NatBook_entriesOk_m (a0 : NatBook) : Option (Bool) :=
 bd (lp (σ := Int) (β := (Unit ⊕ Unit)) (fun s1 =>
(if (decide (s1 < ((a0.Entries.length : Nat) : Int))) = true then
 gd ((0 : Int) ≤ s1 ∧ s1 < ((a0.Entries.length : Nat) : Int)) <|
 bd (impl_NatBook_entryOk_m a0 (a0.Entries.getD s1.toNat default)) fun x6 =>
 gd ((decide (s1 > 0)) = true → ((!x6) = false → ((0 : Int) ≤ IntKind.i64.wrap (s1 - 1) ∧ IntKind.i64.wrap (s1 - 1) < ((a0.Entries.length : Nat) : Int)))) <|
 bd (gcall ((decide (s1 > 0)) = true ∧ (!x6) = false) (impl_NatEntry_compare_m (a0.Entries.getD ((IntKind.i64.wrap (s1 - 1)).toNat) default) (a0.Entries.getD s1.toNat default))) fun x8 =>
(if ((!x6) || ((decide (s1 > 0)) && (decide (x8 ≥ 0)))) = true then
 some (.inr (.inl ()))
else
 gd ((0 : Int) ≤ (0 : Int) ∧ (0 : Int) ≤ s1 ∧ s1 ≤ ((a0.Entries.length : Nat) : Int)) <|
 bd (lp (σ := Int) (β := (Unit ⊕ Unit)) (fun s10 =>
(if (decide (s10 < ((s1.toNat : Nat) : Int))) = true then
 gd ((0 : Int) ≤ s10 ∧ s10 < ((s1.toNat : Nat) : Int)) <|
 bd (impl_NatBook_lives_m a0 (a0.Entries.getD s1.toNat default)) fun x15 =>
 bd (gcall (x15 = true) (impl_NatBook_lives_m a0 (a0.Entries.getD s10.toNat default))) fun x16 =>
 bd (gcall ((x15 && x16) = true) (impl_NatEntry_flow_m (a0.Entries.getD s1.toNat default))) fun x17 =>
 bd (gcall ((x15 && x16) = true) (impl_NatEntry_flow_m (a0.Entries.getD s10.toNat default))) fun x18 =>
(if ((x15 && x16) && ((x17.Kind == x18.Kind) && ((x17.From == x18.From) && ((x17.FromPort == x18.FromPort) && ((x17.To == x18.To) && ((x17.ToPort == x18.ToPort) && true)))))) = true then
 some (.inr (.inl ()))
else
 some (.inl (IntKind.i64.wrap (s10 + 1))))
else
 some (.inr (.inr ())))) 0) fun x13 =>
(match x13 with
| .inl d19 =>
 some (.inr (.inl ()))
| .inr d20 =>
 some (.inl (IntKind.i64.wrap (s1 + 1)))))
else
 some (.inr (.inr ())))) 0) fun x4 =>
(match x4 with
| .inl d21 =>
 some false
| .inr d22 =>
 some (decide (((a0.Entries.length : Nat) : Int) ≤ 16)))

theorem impl_NatBook_entriesOk_c {a0 : NatBook} {r : Bool} (h : impl_NatBook_entriesOk_m a0 = some r) : PureC Tryd.prog 39 [.agg [.d (.int .i64 a0.Addr), .d (.int .i64 a0.Len), .d (.int .i64 a0.Own), .d (.int .i64 a0.Low), .d (.int .i64 a0.High), .d (slD NatDoor.enc a0.Doors), .d (.int .i64 a0.Now), .d (slD NatEntry.enc a0.Entries)]] (.d (.bool r)) [] := by
  refine pureC_x tOk (fn := Tryd.f39) (c := codeOf Tryd.f39) rfl rfl ?_
  unfold impl_NatBook_entriesOk_m at h
  conv => whnf
  refine seq_in tOk ?_
  conv => whnf
  obtain ⟨x4, hx4, h⟩ := bd_some h
  refine loop_m tOk hx4 (fun s1 => ⟨0, 64, [(1, .ref 1 0 0), (8, .d (slD NatEntry.enc a0.Entries)), (9, .d (.int .i64 ((a0.Entries.length : Nat) : Int))), (10, .d (.int .i64 s1))], [], [(1, .box 31 [.d (.int .i64 a0.Addr), .d (.int .i64 a0.Len), .d (.int .i64 a0.Own), .d (.int .i64 a0.Low), .d (.int .i64 a0.High), .d (slD NatDoor.enc a0.Doors), .d (.int .i64 a0.Now), .d (slD NatEntry.enc a0.Entries)])], []⟩) ?_ ?_
  · exact leX []
  · clear hx4
    intro s1 y2 g3 hy2
    conv => whnf
    refine seq_in tOk ?_
    conv => whnf
    refine andI g3 (fun _ g3 => ?_) (fun _ g3 => ?_)
    · conv => whnf
      refine seq_in tOk ?_
      conv => whnf
      refine gdI g3 (fun g3 => ?_)
      conv => whnf
      refine seq_in tOk ?_
      conv => whnf
      obtain ⟨x6, hx6, g3⟩ := bd_some g3
      obtain ⟨g7, g3⟩ := gd_some g3
      obtain ⟨x8, hx8, g3⟩ := bd_some g3
      refine draw_u tOk [.u 2 0 (.d (.bool x6)) [], .u 15 0 (.d (.int .i64 x8)) []] 19 [] [0, 0, 3, 7, 15, 31, 63, 127, 255, 511, 255, 1279, 4095, 8191, 255, 32767, 65535, 131071, 262143] [] ?_
      conv => whnf
      refine And.intro (callD_any (impl_NatBook_entryOk_c hx6) (by kernel_rfl)) ?_
      conv => whnf
      refine And.intro g7 ?_
      clear g7
      conv => whnf
      refine And.intro (callDG_if rfl rfl rfl rfl (by intro c0 c1; exact impl_NatEntry_compare_c (gcall_some hx8 ⟨c0, c1⟩))) ?_
      conv => whnf
      refine And.intro (by kernel_rfl) ?_
      conv => whnf
      refine andI g3 (fun _ g3 => ?_) (fun _ g3 => ?_)
      · conv => whnf
        obtain rfl := Option.some.inj g3
        obtain rfl := hy2 _ rfl
        obtain rfl := Option.some.inj h
        exact lfP []
      · conv => whnf
        obtain ⟨g9, g3⟩ := gd_some g3
        refine And.intro ⟨g9, .inr rfl⟩ ?_
        conv => whnf
        obtain ⟨x13, hx13, g3⟩ := bd_some g3
        refine loop_m tOk hx13 (fun s10 => ⟨0, 64, [(1, .ref 1 0 0), (4, .ref 4 0 0), (8, .d (slD NatEntry.enc a0.Entries)), (9, .d (.int .i64 ((a0.Entries.length : Nat) : Int))), (10, .d (.int .i64 s1)), (37, .d (.sl s1.toNat (rows NatEntry.enc a0.Entries))), (38, .d (.int .i64 ((s1.toNat : Nat) : Int))), (39, .d (.int .i64 s10))], [], [(4, .box 47 [.d (.int .i64 ((a0.Entries.getD s1.toNat default).Kind)), .d (.int .i64 ((a0.Entries.getD s1.toNat default).Peer)), .d (.int .i64 ((a0.Entries.getD s1.toNat default).PeerPort)), .d (.int .i64 ((a0.Entries.getD s1.toNat default).Outer)), .d (.int .i64 ((a0.Entries.getD s1.toNat default).Inner)), .d (.int .i64 ((a0.Entries.getD s1.toNat default).InnerPort)), .d (.int .i64 ((a0.Entries.getD s1.toNat default).Last))]), (1, .box 31 [.d (.int .i64 a0.Addr), .d (.int .i64 a0.Len), .d (.int .i64 a0.Own), .d (.int .i64 a0.Low), .d (.int .i64 a0.High), .d (slD NatDoor.enc a0.Doors), .d (.int .i64 a0.Now), .d (slD NatEntry.enc a0.Entries)])], []⟩) ?_ ?_
        · exact leX []
        · clear hx13
          intro s10 y11 g12 hy11
          conv => whnf
          refine seq_in tOk ?_
          conv => whnf
          refine andI g12 (fun _ g12 => ?_) (fun _ g12 => ?_)
          · conv => whnf
            refine seq_in tOk ?_
            conv => whnf
            refine gdI g12 (fun g12 => ?_)
            conv => whnf
            obtain ⟨x15, hx15, g12⟩ := bd_some g12
            obtain ⟨x16, hx16, g12⟩ := bd_some g12
            obtain ⟨x17, hx17, g12⟩ := bd_some g12
            obtain ⟨x18, hx18, g12⟩ := bd_some g12
            refine draw_u tOk [.u 2 0 (.d (.bool x15)) [], .u 6 0 (.d (.bool x16)) [], .u 10 0 (.agg [.d (.int .i64 x17.Kind), .d (.int .i64 x17.From), .d (.int .i64 x17.FromPort), .d (.int .i64 x17.To), .d (.int .i64 x17.ToPort)]) [], .u 12 0 (.agg [.d (.int .i64 x18.Kind), .d (.int .i64 x18.From), .d (.int .i64 x18.FromPort), .d (.int .i64 x18.To), .d (.int .i64 x18.ToPort)]) []] 15 [] [0, 0, 3, 7, 15, 15, 63, 127, 255, 511, 1023, 511, 4095, 8191, 16383] [] ?_
            conv => whnf
            refine And.intro (callD_any (impl_NatBook_lives_c hx15) (by kernel_rfl)) ?_
            conv => whnf
            refine And.intro (callDG_if rfl rfl rfl rfl (by intro c0; exact impl_NatBook_lives_c (gcall_some hx16 c0))) ?_
            conv => whnf
            refine And.intro (callDG_if rfl rfl rfl rfl (by intro c0; exact impl_NatEntry_flow_c (gcall_some hx17 c0))) ?_
            conv => whnf
            refine And.intro (callDG_if rfl rfl rfl rfl (by intro c0; exact impl_NatEntry_flow_c (gcall_some hx18 c0))) ?_
            conv => whnf
            refine And.intro (by kernel_rfl) ?_
            conv => whnf
            refine andI g12 (fun _ g12 => ?_) (fun _ g12 => ?_)
            · conv => whnf
              obtain rfl := Option.some.inj g12
              obtain rfl := hy11 _ rfl
              obtain rfl := Option.some.inj g3
              obtain rfl := hy2 _ rfl
              obtain rfl := Option.some.inj h
              exact lfP []
            · conv => whnf
              obtain rfl := Option.some.inj g12
              exact ⟨_, rfl, leX []⟩
          · conv => whnf
            obtain rfl := Option.some.inj g12
            obtain rfl := hy11 _ rfl
            obtain rfl := Option.some.inj g3
            exact ⟨_, rfl, leX []⟩
    · conv => whnf
      obtain rfl := Option.some.inj g3
      obtain rfl := hy2 _ rfl
      obtain rfl := Option.some.inj h
      exact lfP []

noncomputable def impl_NatBookOk_m (a0 : NatBook) : Option (Bool) :=
 bd (impl_NetOk_m (⟨a0.Addr, a0.Len⟩ : NetPrefix)) fun x1 =>
 bd (gcall ((!x1) = false) (impl_within_m a0.Own 0 65535)) fun x2 =>
 bd (gcall (((!x1) || (!x2)) = false) (impl_NatBook_inside_m a0 a0.Own)) fun x3 =>
 bd (gcall (((((((!x1) || (!x2)) || x3) || (decide (a0.Low < 1))) || (decide (a0.Low > a0.High))) || (decide (a0.High > 65535))) = false) (impl_within_m a0.Now 0 1000000)) fun x4 =>
(if (((((((!x1) || (!x2)) || x3) || (decide (a0.Low < 1))) || (decide (a0.Low > a0.High))) || (decide (a0.High > 65535))) || (!x4)) = true then
 some false
else
 bd (impl_NatBook_doorsOk_m a0) fun x5 =>
 bd (gcall (x5 = true) (impl_NatBook_entriesOk_m a0)) fun x6 =>
 some (x5 && x6))

theorem impl_NatBookOk_c {a0 : NatBook} {r : Bool} (h : impl_NatBookOk_m a0 = some r) : PureC Tryd.prog 19 [.agg [.d (.int .i64 a0.Addr), .d (.int .i64 a0.Len), .d (.int .i64 a0.Own), .d (.int .i64 a0.Low), .d (.int .i64 a0.High), .d (slD NatDoor.enc a0.Doors), .d (.int .i64 a0.Now), .d (slD NatEntry.enc a0.Entries)]] (.d (.bool r)) [] := by
  refine pureC_x tOk (fn := Tryd.f19) (c := codeOf Tryd.f19) rfl rfl ?_
  unfold impl_NatBookOk_m at h
  conv => whnf
  refine seq_in tOk ?_
  conv => whnf
  obtain ⟨x1, hx1, h⟩ := bd_some h
  refine cC 0 (impl_NetOk_c hx1) ?_
  clear hx1
  conv => whnf
  obtain ⟨x2, hx2, h⟩ := bd_some h
  refine cG (fun c0 => impl_within_c (gcall_some hx2 c0)) ?_
  conv => whnf
  obtain ⟨x3, hx3, h⟩ := bd_some h
  refine cG (fun c0 => impl_NatBook_inside_c (gcall_some hx3 c0)) ?_
  conv => whnf
  obtain ⟨x4, hx4, h⟩ := bd_some h
  refine cG (fun c0 => impl_within_c (gcall_some hx4 c0)) ?_
  conv => whnf
  refine andI h (fun _ h => ?_) (fun _ h => ?_)
  · conv => whnf
    obtain rfl := Option.some.inj h
    exact lfP []
  · conv => whnf
    obtain ⟨x5, hx5, h⟩ := bd_some h
    refine cC 0 (impl_NatBook_doorsOk_c hx5) ?_
    clear hx5
    conv => whnf
    obtain ⟨x6, hx6, h⟩ := bd_some h
    refine cG (fun c0 => impl_NatBook_entriesOk_c (gcall_some hx6 c0)) ?_
    conv => whnf
    obtain rfl := Option.some.inj h
    exact lfP []

noncomputable def strconv_Itoa_m (a0 : Int) : Option (ByteArray) :=
 gd (-9223372036854775808 ≤ a0 ∧ a0 ≤ 9223372036854775807) <|
 some (itoaB a0)

theorem strconv_Itoa_c {a0 : Int} {r : ByteArray} (h : strconv_Itoa_m a0 = some r) : PureC Tryd.prog 21 [.d (.int .i64 a0)] (.d (.str r)) [] := by
  unfold strconv_Itoa_m at h
  obtain ⟨⟨g0, g1⟩, h⟩ := gd_some h
  obtain rfl := Option.some.inj h
  exact pureC_itoa (by kernel_rfl) ⟨Tryd.f21, rfl, by kernel_rfl, by kernel_rfl⟩ (by kernel_rfl) (fun n h0 h1 w ht => Any.strconv_Itoa Lay.itoa n h0 h1 w ht) g0 g1

noncomputable def strings_Join_m (a0 : (List ByteArray)) (a1 : ByteArray) : Option (ByteArray) :=
 gd (a0.length ≤ 140737488355328 ∧ (joinB a0 a1).size ≤ 140737488355328) <|
 some (joinB a0 a1)

theorem strings_Join_c {a0 : (List ByteArray)} {a1 : ByteArray} {r : ByteArray} (h : strings_Join_m a0 a1 = some r) : PureC Tryd.prog 40 [.d (slD encStr a0), .d (.str a1)] (.d (.str r)) [] := by
  unfold strings_Join_m at h
  obtain ⟨⟨g0, g1⟩, h⟩ := gd_some h
  obtain rfl := Option.some.inj h
  exact pureC_join ⟨Tryd.f40, rfl, by kernel_rfl, by kernel_rfl⟩ (fun bk o c xs sep w h1 h2 h3 h4 h5 => Any.strings_Join Lay.joi Lay.joiX bk o c xs sep w h1 h2 h3 h4 h5) (fun a c sep w => Any.strings_Join_none Lay.joi Lay.joiX a c sep w) g0 g1

noncomputable def impl_line_m (a0 : (List ByteArray)) : Option (ByteArray) :=
 bd (strings_Join_m a0 (⟨#[32]⟩ : ByteArray)) fun x1 =>
 gd (x1.size + (⟨#[10]⟩ : ByteArray).size ≤ 9223372036854775807) <|
 some (x1 ++ (⟨#[10]⟩ : ByteArray))

theorem impl_line_c {a0 : (List ByteArray)} {r : ByteArray} (h : impl_line_m a0 = some r) : PureC Tryd.prog 20 [.d (slD encStr a0)] (.d (.str r)) [] := by
  refine pureC_x tOk (fn := Tryd.f20) (c := codeOf Tryd.f20) rfl rfl ?_
  unfold impl_line_m at h
  conv => whnf
  obtain ⟨x1, hx1, h⟩ := bd_some h
  refine cC 0 (strings_Join_c hx1) ?_
  clear hx1
  conv => whnf
  refine gdI h (fun h => ?_)
  conv => whnf
  obtain rfl := Option.some.inj h
  exact lfP []

noncomputable def impl_NetAddrText_m (a0 : Int) : Option (ByteArray) :=
 bd (impl_within_m a0 0 65535) fun x1 =>
(if (!x1) = true then
 some (⟨#[]⟩ : ByteArray)
else
 gd ((256 : Int) ≠ 0) <|
 bd (strconv_Itoa_m (IntKind.i64.wrap ((a0 : Int).tdiv 256))) fun x3 =>
 gd (x3.size + (⟨#[46]⟩ : ByteArray).size ≤ 9223372036854775807) <|
 gd ((256 : Int) ≠ 0) <|
 bd (strconv_Itoa_m ((a0 : Int).tmod 256)) fun x6 =>
 gd ((x3 ++ (⟨#[46]⟩ : ByteArray)).size + x6.size ≤ 9223372036854775807) <|
 some ((x3 ++ (⟨#[46]⟩ : ByteArray)) ++ x6))

theorem impl_NetAddrText_c {a0 : Int} {r : ByteArray} (h : impl_NetAddrText_m a0 = some r) : PureC Tryd.prog 42 [.d (.int .i64 a0)] (.d (.str r)) [] := by
  refine pureC_x tOk (fn := Tryd.f42) (c := codeOf Tryd.f42) rfl rfl ?_
  unfold impl_NetAddrText_m at h
  conv => whnf
  refine seq_in tOk ?_
  conv => whnf
  obtain ⟨x1, hx1, h⟩ := bd_some h
  refine cC 0 (impl_within_c hx1) ?_
  clear hx1
  conv => whnf
  refine andI h (fun _ h => ?_) (fun _ h => ?_)
  · conv => whnf
    obtain rfl := Option.some.inj h
    exact lfP []
  · conv => whnf
    refine gdI h (fun h => ?_)
    conv => whnf
    obtain ⟨x3, hx3, h⟩ := bd_some h
    refine cC 0 (strconv_Itoa_c hx3) ?_
    clear hx3
    conv => whnf
    refine gdI h (fun h => ?_)
    conv => whnf
    refine gdI h (fun h => ?_)
    conv => whnf
    obtain ⟨x6, hx6, h⟩ := bd_some h
    refine cC 0 (strconv_Itoa_c hx6) ?_
    clear hx6
    conv => whnf
    refine gdI h (fun h => ?_)
    conv => whnf
    obtain rfl := Option.some.inj h
    exact lfP []

noncomputable def impl_endText_m (a0 : Int) (a1 : Int) : Option (ByteArray) :=
 bd (impl_NetAddrText_m a0) fun x1 =>
 gd (x1.size + (⟨#[58]⟩ : ByteArray).size ≤ 9223372036854775807) <|
 bd (strconv_Itoa_m a1) fun x3 =>
 gd ((x1 ++ (⟨#[58]⟩ : ByteArray)).size + x3.size ≤ 9223372036854775807) <|
 some ((x1 ++ (⟨#[58]⟩ : ByteArray)) ++ x3)

theorem impl_endText_c {a0 : Int} {a1 : Int} {r : ByteArray} (h : impl_endText_m a0 a1 = some r) : PureC Tryd.prog 22 [.d (.int .i64 a0), .d (.int .i64 a1)] (.d (.str r)) [] := by
  refine pureC_x tOk (fn := Tryd.f22) (c := codeOf Tryd.f22) rfl rfl ?_
  unfold impl_endText_m at h
  conv => whnf
  obtain ⟨x1, hx1, h⟩ := bd_some h
  refine cC 0 (impl_NetAddrText_c hx1) ?_
  clear hx1
  conv => whnf
  refine gdI h (fun h => ?_)
  conv => whnf
  obtain ⟨x3, hx3, h⟩ := bd_some h
  refine cC 0 (strconv_Itoa_c hx3) ?_
  clear hx3
  conv => whnf
  refine gdI h (fun h => ?_)
  conv => whnf
  obtain rfl := Option.some.inj h
  exact lfP []

noncomputable def impl_NatBoard_m (a0 : NatBook) : Option (ByteArray) :=
 bd (impl_NatBookOk_m a0) fun x1 =>
(if (!x1) = true then
 some (⟨#[]⟩ : ByteArray)
else
 bd (strconv_Itoa_m a0.Now) fun x2 =>
 bd (impl_line_m ([(⟨#[110, 111, 119]⟩ : ByteArray), x2] : List ByteArray)) fun x3 =>
 bd (lp (σ := Int × ByteArray) (β := (ByteArray)) (fun s4 =>
(if (decide (s4.1 < ((a0.Doors.length : Nat) : Int))) = true then
 gd ((0 : Int) ≤ s4.1 ∧ s4.1 < ((a0.Doors.length : Nat) : Int)) <|
 bd (strconv_Itoa_m ((a0.Doors.getD s4.1.toNat default).Kind)) fun x9 =>
 bd (impl_endText_m a0.Own ((a0.Doors.getD s4.1.toNat default).Outer)) fun x10 =>
 bd (impl_endText_m ((a0.Doors.getD s4.1.toNat default).Inner) ((a0.Doors.getD s4.1.toNat default).InnerPort)) fun x11 =>
 bd (impl_line_m ([(⟨#[100, 111, 111, 114]⟩ : ByteArray), x9, x10, (⟨#[116, 111]⟩ : ByteArray), x11] : List ByteArray)) fun x12 =>
 gd (s4.2.size + x12.size ≤ 9223372036854775807) <|
 some (.inl (IntKind.i64.wrap (s4.1 + 1), (s4.2 ++ x12)))
else
 some (.inr s4.2))) (0, x3)) fun x7 =>
 bd (lp (σ := ByteArray × Int) (β := (ByteArray)) (fun s15 =>
(if (decide (s15.2 < ((a0.Entries.length : Nat) : Int))) = true then
 gd ((0 : Int) ≤ s15.2 ∧ s15.2 < ((a0.Entries.length : Nat) : Int)) <|
 bd (impl_NatBook_age_m a0 (a0.Entries.getD s15.2.toNat default)) fun x20 =>
 bd (α := ByteArray × Int) (bd (impl_NatBook_lives_m a0 (a0.Entries.getD s15.2.toNat default)) fun x24 =>
(if (!x24) = true then
 some ((⟨#[114, 101, 115, 116, 115]⟩ : ByteArray), IntKind.i64.wrap ((IntKind.i64.wrap (8 - x20)) + 4))
else
 some ((⟨#[108, 101, 102, 116]⟩ : ByteArray), IntKind.i64.wrap (8 - x20)))) fun x21 =>
 bd (strconv_Itoa_m ((a0.Entries.getD s15.2.toNat default).Kind)) fun x25 =>
 bd (impl_endText_m ((a0.Entries.getD s15.2.toNat default).Inner) ((a0.Entries.getD s15.2.toNat default).InnerPort)) fun x26 =>
 bd (impl_endText_m a0.Own ((a0.Entries.getD s15.2.toNat default).Outer)) fun x27 =>
 bd (impl_endText_m ((a0.Entries.getD s15.2.toNat default).Peer) ((a0.Entries.getD s15.2.toNat default).PeerPort)) fun x28 =>
 bd (strconv_Itoa_m x21.2) fun x29 =>
 bd (impl_line_m ([(⟨#[102, 108, 111, 119]⟩ : ByteArray), x25, x26, (⟨#[97, 115]⟩ : ByteArray), x27, (⟨#[116, 111]⟩ : ByteArray), x28, x21.1, x29] : List ByteArray)) fun x30 =>
 gd (s15.1.size + x30.size ≤ 9223372036854775807) <|
 some (.inl ((s15.1 ++ x30), IntKind.i64.wrap (s15.2 + 1)))
else
 some (.inr s15.1))) (x7, 0)) fun x18 =>
 some x18)

theorem impl_NatBoard_c {a0 : NatBook} {r : ByteArray} (h : impl_NatBoard_m a0 = some r) : PureC Tryd.prog 8 [.agg [.d (.int .i64 a0.Addr), .d (.int .i64 a0.Len), .d (.int .i64 a0.Own), .d (.int .i64 a0.Low), .d (.int .i64 a0.High), .d (slD NatDoor.enc a0.Doors), .d (.int .i64 a0.Now), .d (slD NatEntry.enc a0.Entries)]] (.d (.str r)) [] := by
  refine pureC_x tOk (fn := Tryd.f8) (c := codeOf Tryd.f8) rfl rfl ?_
  unfold impl_NatBoard_m at h
  conv => whnf
  refine seq_in tOk ?_
  conv => whnf
  obtain ⟨x1, hx1, h⟩ := bd_some h
  refine cC 0 (impl_NatBookOk_c hx1) ?_
  clear hx1
  conv => whnf
  refine andI h (fun _ h => ?_) (fun _ h => ?_)
  · conv => whnf
    obtain rfl := Option.some.inj h
    exact lfP []
  · conv => whnf
    obtain ⟨x2, hx2, h⟩ := bd_some h
    refine cC 0 (strconv_Itoa_c hx2) ?_
    clear hx2
    conv => whnf
    refine bldS (enc := encStr) ([(⟨#[110, 111, 119]⟩ : ByteArray), x2] : List ByteArray) ?_
    conv => whnf
    obtain ⟨x3, hx3, h⟩ := bd_some h
    refine cC 0 (impl_line_c hx3) ?_
    clear hx3
    conv => whnf
    refine seq_in tOk ?_
    conv => whnf
    obtain ⟨x7, hx7, h⟩ := bd_some h
    refine loop_m tOk hx7 (fun s4 => ⟨0, 87, [(1, .ref 1 0 0), (3, .d (.str s4.2)), (19, .d (slD NatDoor.enc a0.Doors)), (20, .d (.int .i64 ((a0.Doors.length : Nat) : Int))), (21, .d (.int .i64 s4.1))], [], [(1, .box 31 [.d (.int .i64 a0.Addr), .d (.int .i64 a0.Len), .d (.int .i64 a0.Own), .d (.int .i64 a0.Low), .d (.int .i64 a0.High), .d (slD NatDoor.enc a0.Doors), .d (.int .i64 a0.Now), .d (slD NatEntry.enc a0.Entries)])], []⟩) ?_ ?_
    · exact leX []
    · clear hx7
      intro s4 y5 g6 hy5
      conv => whnf
      refine seq_in tOk ?_
      conv => whnf
      refine andI g6 (fun _ g6 => ?_) (fun _ g6 => ?_)
      · conv => whnf
        refine seq_in tOk ?_
        conv => whnf
        refine gdI g6 (fun g6 => ?_)
        conv => whnf
        obtain ⟨x9, hx9, g6⟩ := bd_some g6
        obtain ⟨x10, hx10, g6⟩ := bd_some g6
        obtain ⟨x11, hx11, g6⟩ := bd_some g6
        obtain ⟨x12, hx12, g6⟩ := bd_some g6
        obtain ⟨g13, g6⟩ := gd_some g6
        refine draw_u tOk [.u 3 0 (.d (.str x9)) [], .u 8 0 (.d (.str x10)) [], .u 13 0 (.d (.str x11)) [], .u 15 0 (.d (.str x12)) []] 17 [] [0, 0, 2, 6, 0, 16, 0, 64, 254, 0, 512, 0, 2048, 8190, 16382, 32766, 65535] [131071] ?_
        conv => whnf
        refine And.intro (callD_any (strconv_Itoa_c hx9) (by kernel_rfl)) ?_
        conv => whnf
        refine And.intro (callD_any (impl_endText_c hx10) (by kernel_rfl)) ?_
        conv => whnf
        refine And.intro (callD_any (impl_endText_c hx11) (by kernel_rfl)) ?_
        conv => whnf
        refine bldS (enc := encStr) ([(⟨#[100, 111, 111, 114]⟩ : ByteArray), x9, x10, (⟨#[116, 111]⟩ : ByteArray), x11] : List ByteArray) ?_
        conv => whnf
        refine And.intro (callD_any (impl_line_c hx12) (by kernel_rfl)) ?_
        conv => whnf
        refine And.intro g13 ?_
        clear g13
        conv => whnf
        refine And.intro (by kernel_rfl) ?_
        conv => whnf
        obtain rfl := Option.some.inj g6
        exact ⟨_, rfl, leX []⟩
      · conv => whnf
        obtain rfl := Option.some.inj g6
        obtain rfl := hy5 _ rfl
        refine seq_in tOk ?_
        conv => whnf
        obtain ⟨x18, hx18, h⟩ := bd_some h
        refine loop_m tOk hx18 (fun s15 => ⟨0, 87, [(1, .ref 1 0 0), (3, .d (.str s15.1)), (44, .d (slD NatEntry.enc a0.Entries)), (45, .d (.int .i64 ((a0.Entries.length : Nat) : Int))), (46, .d (.int .i64 s15.2))], [], [(1, .box 31 [.d (.int .i64 a0.Addr), .d (.int .i64 a0.Len), .d (.int .i64 a0.Own), .d (.int .i64 a0.Low), .d (.int .i64 a0.High), .d (slD NatDoor.enc a0.Doors), .d (.int .i64 a0.Now), .d (slD NatEntry.enc a0.Entries)])], []⟩) ?_ ?_
        · exact leX []
        · clear hx18
          intro s15 y16 g17 hy16
          conv => whnf
          refine seq_in tOk ?_
          conv => whnf
          refine andI g17 (fun _ g17 => ?_) (fun _ g17 => ?_)
          · conv => whnf
            refine seq_in tOk ?_
            conv => whnf
            refine gdI g17 (fun g17 => ?_)
            conv => whnf
            obtain ⟨x20, hx20, g17⟩ := bd_some g17
            refine cC 0 (impl_NatBook_age_c hx20) ?_
            clear hx20
            conv => whnf
            obtain ⟨x21, hx21, g17⟩ := bd_some g17
            refine seq_join tOk (fun s22 => ⟨0, 87, [(1, .ref 1 0 0), (3, .d (.str s15.1)), (7, .ref 7 0 0), (8, .d (.str s22.1)), (9, .d (.int .i64 s22.2)), (44, .d (slD NatEntry.enc a0.Entries)), (45, .d (.int .i64 ((a0.Entries.length : Nat) : Int))), (46, .d (.int .i64 s15.2))], [], [(7, .box 47 [.d (.int .i64 ((a0.Entries.getD s15.2.toNat default).Kind)), .d (.int .i64 ((a0.Entries.getD s15.2.toNat default).Peer)), .d (.int .i64 ((a0.Entries.getD s15.2.toNat default).PeerPort)), .d (.int .i64 ((a0.Entries.getD s15.2.toNat default).Outer)), .d (.int .i64 ((a0.Entries.getD s15.2.toNat default).Inner)), .d (.int .i64 ((a0.Entries.getD s15.2.toNat default).InnerPort)), .d (.int .i64 ((a0.Entries.getD s15.2.toNat default).Last))]), (1, .box 31 [.d (.int .i64 a0.Addr), .d (.int .i64 a0.Len), .d (.int .i64 a0.Own), .d (.int .i64 a0.Low), .d (.int .i64 a0.High), .d (slD NatDoor.enc a0.Doors), .d (.int .i64 a0.Now), .d (slD NatEntry.enc a0.Entries)])], []⟩) (fun s22 => x21 = s22) ?_ ?_
            · conv => whnf
              obtain ⟨x24, hx24, hx21⟩ := bd_some hx21
              refine cC 0 (impl_NatBook_lives_c hx24) ?_
              clear hx24
              conv => whnf
              refine andI hx21 (fun _ hx21 => ?_) (fun _ hx21 => ?_)
              · conv => whnf
                obtain rfl := Option.some.inj hx21
                exact ⟨_, rfl, leX []⟩
              · conv => whnf
                obtain rfl := Option.some.inj hx21
                exact ⟨_, rfl, leX []⟩
            · rintro _ rfl
              conv => whnf
              obtain ⟨x25, hx25, g17⟩ := bd_some g17
              obtain ⟨x26, hx26, g17⟩ := bd_some g17
              obtain ⟨x27, hx27, g17⟩ := bd_some g17
              obtain ⟨x28, hx28, g17⟩ := bd_some g17
              obtain ⟨x29, hx29, g17⟩ := bd_some g17
              obtain ⟨x30, hx30, g17⟩ := bd_some g17
              obtain ⟨g31, g17⟩ := gd_some g17
              refine draw_u tOk [.u 3 0 (.d (.str x25)) [], .u 8 0 (.d (.str x26)) [], .u 13 0 (.d (.str x27)) [], .u 18 0 (.d (.str x28)) [], .u 21 0 (.d (.str x29)) [], .u 23 0 (.d (.str x30)) []] 25 [] [0, 0, 2, 6, 0, 16, 0, 64, 254, 0, 512, 0, 2048, 8190, 0, 16384, 0, 65536, 262142, 0, 0, 1572862, 4194302, 8388606, 16777215] [33554431] ?_
              conv => whnf
              refine And.intro (callD_any (strconv_Itoa_c hx25) (by kernel_rfl)) ?_
              conv => whnf
              refine And.intro (callD_any (impl_endText_c hx26) (by kernel_rfl)) ?_
              conv => whnf
              refine And.intro (callD_any (impl_endText_c hx27) (by kernel_rfl)) ?_
              conv => whnf
              refine And.intro (callD_any (impl_endText_c hx28) (by kernel_rfl)) ?_
              conv => whnf
              refine And.intro (callD_any (strconv_Itoa_c hx29) (by kernel_rfl)) ?_
              conv => whnf
              refine bldS (enc := encStr) ([(⟨#[102, 108, 111, 119]⟩ : ByteArray), x25, x26, (⟨#[97, 115]⟩ : ByteArray), x27, (⟨#[116, 111]⟩ : ByteArray), x28, x21.1, x29] : List ByteArray) ?_
              conv => whnf
              refine And.intro (callD_any (impl_line_c hx30) (by kernel_rfl)) ?_
              conv => whnf
              refine And.intro g31 ?_
              clear g31
              conv => whnf
              refine And.intro (by kernel_rfl) ?_
              conv => whnf
              obtain rfl := Option.some.inj g17
              exact ⟨_, rfl, leX []⟩
          · conv => whnf
            obtain rfl := Option.some.inj g17
            obtain rfl := hy16 _ rfl
            obtain rfl := Option.some.inj h
            exact lfP []

noncomputable def spec_l24Dec_d8_m (a0 : Int) : Option (ByteArray) :=
(if (decide (a0 < 10)) = true then
 some (strOf ([IntKind.u8.wrap (IntKind.i64.wrap (48 + a0))] : List Int))
else
 none)

theorem spec_l24Dec_d8_c {a0 : Int} {r : ByteArray} (h : spec_l24Dec_d8_m a0 = some r) : PureC Tryd.prog 14 [.d (.int .i64 a0)] (.d (.str r)) [] := by
  refine pureC_x tOk (fn := Tryd.f14) (c := codeOf Tryd.f14) rfl rfl ?_
  unfold spec_l24Dec_d8_m at h
  conv => whnf
  refine seq_in tOk ?_
  conv => whnf
  refine andI h (fun _ h => ?_) (fun _ h => ?_)
  · conv => whnf
    refine bldS (enc := encByte) ([IntKind.u8.wrap (IntKind.i64.wrap (48 + a0))] : List Int) ?_
    conv => whnf
    obtain rfl := Option.some.inj h
    exact lfP []
  · conv => whnf
    cases h

noncomputable def spec_l24Dec_d7_m (a0 : Int) : Option (ByteArray) :=
(if (decide (a0 < 10)) = true then
 some (strOf ([IntKind.u8.wrap (IntKind.i64.wrap (48 + a0))] : List Int))
else
 gd ((10 : Int) ≠ 0) <|
 bd (spec_l24Dec_d8_m (IntKind.i64.wrap ((a0 : Int).tdiv 10))) fun x2 =>
 gd ((10 : Int) ≠ 0) <|
 gd (x2.size + (strOf ([IntKind.u8.wrap (IntKind.i64.wrap (48 + ((a0 : Int).tmod 10)))] : List Int)).size ≤ 9223372036854775807) <|
 some (x2 ++ (strOf ([IntKind.u8.wrap (IntKind.i64.wrap (48 + ((a0 : Int).tmod 10)))] : List Int))))

theorem spec_l24Dec_d7_c {a0 : Int} {r : ByteArray} (h : spec_l24Dec_d7_m a0 = some r) : PureC Tryd.prog 14 [.d (.int .i64 a0)] (.d (.str r)) [] := by
  refine pureC_x tOk (fn := Tryd.f14) (c := codeOf Tryd.f14) rfl rfl ?_
  unfold spec_l24Dec_d7_m at h
  conv => whnf
  refine seq_in tOk ?_
  conv => whnf
  refine andI h (fun _ h => ?_) (fun _ h => ?_)
  · conv => whnf
    refine bldS (enc := encByte) ([IntKind.u8.wrap (IntKind.i64.wrap (48 + a0))] : List Int) ?_
    conv => whnf
    obtain rfl := Option.some.inj h
    exact lfP []
  · conv => whnf
    obtain ⟨g1, h⟩ := gd_some h
    obtain ⟨x2, hx2, h⟩ := bd_some h
    obtain ⟨g3, h⟩ := gd_some h
    obtain ⟨g4, h⟩ := gd_some h
    refine draw_u tOk [.u 2 0 (.d (.str x2)) []] 11 [] [0, 1, 3, 0, 8, 24, 56, 120, 248, 511, 1023] [] ?_
    conv => whnf
    refine And.intro g1 ?_
    clear g1
    conv => whnf
    refine And.intro (callD_any (spec_l24Dec_d8_c hx2) (by kernel_rfl)) ?_
    conv => whnf
    refine And.intro g3 ?_
    clear g3
    conv => whnf
    refine bldS (enc := encByte) ([IntKind.u8.wrap (IntKind.i64.wrap (48 + ((a0 : Int).tmod 10)))] : List Int) ?_
    conv => whnf
    refine And.intro g4 ?_
    clear g4
    conv => whnf
    refine And.intro (by kernel_rfl) ?_
    conv => whnf
    obtain rfl := Option.some.inj h
    exact lfP []

noncomputable def spec_l24Dec_d6_m (a0 : Int) : Option (ByteArray) :=
(if (decide (a0 < 10)) = true then
 some (strOf ([IntKind.u8.wrap (IntKind.i64.wrap (48 + a0))] : List Int))
else
 gd ((10 : Int) ≠ 0) <|
 bd (spec_l24Dec_d7_m (IntKind.i64.wrap ((a0 : Int).tdiv 10))) fun x2 =>
 gd ((10 : Int) ≠ 0) <|
 gd (x2.size + (strOf ([IntKind.u8.wrap (IntKind.i64.wrap (48 + ((a0 : Int).tmod 10)))] : List Int)).size ≤ 9223372036854775807) <|
 some (x2 ++ (strOf ([IntKind.u8.wrap (IntKind.i64.wrap (48 + ((a0 : Int).tmod 10)))] : List Int))))

theorem spec_l24Dec_d6_c {a0 : Int} {r : ByteArray} (h : spec_l24Dec_d6_m a0 = some r) : PureC Tryd.prog 14 [.d (.int .i64 a0)] (.d (.str r)) [] := by
  refine pureC_x tOk (fn := Tryd.f14) (c := codeOf Tryd.f14) rfl rfl ?_
  unfold spec_l24Dec_d6_m at h
  conv => whnf
  refine seq_in tOk ?_
  conv => whnf
  refine andI h (fun _ h => ?_) (fun _ h => ?_)
  · conv => whnf
    refine bldS (enc := encByte) ([IntKind.u8.wrap (IntKind.i64.wrap (48 + a0))] : List Int) ?_
    conv => whnf
    obtain rfl := Option.some.inj h
    exact lfP []
  · conv => whnf
    obtain ⟨g1, h⟩ := gd_some h
    obtain ⟨x2, hx2, h⟩ := bd_some h
    obtain ⟨g3, h⟩ := gd_some h
    obtain ⟨g4, h⟩ := gd_some h
    refine draw_u tOk [.u 2 0 (.d (.str x2)) []] 11 [] [0, 1, 3, 0, 8, 24, 56, 120, 248, 511, 1023] [] ?_
    conv => whnf
    refine And.intro g1 ?_
    clear g1
    conv => whnf
    refine And.intro (callD_any (spec_l24Dec_d7_c hx2) (by kernel_rfl)) ?_
    conv => whnf
    refine And.intro g3 ?_
    clear g3
    conv => whnf
    refine bldS (enc := encByte) ([IntKind.u8.wrap (IntKind.i64.wrap (48 + ((a0 : Int).tmod 10)))] : List Int) ?_
    conv => whnf
    refine And.intro g4 ?_
    clear g4
    conv => whnf
    refine And.intro (by kernel_rfl) ?_
    conv => whnf
    obtain rfl := Option.some.inj h
    exact lfP []

noncomputable def spec_l24Dec_d5_m (a0 : Int) : Option (ByteArray) :=
(if (decide (a0 < 10)) = true then
 some (strOf ([IntKind.u8.wrap (IntKind.i64.wrap (48 + a0))] : List Int))
else
 gd ((10 : Int) ≠ 0) <|
 bd (spec_l24Dec_d6_m (IntKind.i64.wrap ((a0 : Int).tdiv 10))) fun x2 =>
 gd ((10 : Int) ≠ 0) <|
 gd (x2.size + (strOf ([IntKind.u8.wrap (IntKind.i64.wrap (48 + ((a0 : Int).tmod 10)))] : List Int)).size ≤ 9223372036854775807) <|
 some (x2 ++ (strOf ([IntKind.u8.wrap (IntKind.i64.wrap (48 + ((a0 : Int).tmod 10)))] : List Int))))

theorem spec_l24Dec_d5_c {a0 : Int} {r : ByteArray} (h : spec_l24Dec_d5_m a0 = some r) : PureC Tryd.prog 14 [.d (.int .i64 a0)] (.d (.str r)) [] := by
  refine pureC_x tOk (fn := Tryd.f14) (c := codeOf Tryd.f14) rfl rfl ?_
  unfold spec_l24Dec_d5_m at h
  conv => whnf
  refine seq_in tOk ?_
  conv => whnf
  refine andI h (fun _ h => ?_) (fun _ h => ?_)
  · conv => whnf
    refine bldS (enc := encByte) ([IntKind.u8.wrap (IntKind.i64.wrap (48 + a0))] : List Int) ?_
    conv => whnf
    obtain rfl := Option.some.inj h
    exact lfP []
  · conv => whnf
    obtain ⟨g1, h⟩ := gd_some h
    obtain ⟨x2, hx2, h⟩ := bd_some h
    obtain ⟨g3, h⟩ := gd_some h
    obtain ⟨g4, h⟩ := gd_some h
    refine draw_u tOk [.u 2 0 (.d (.str x2)) []] 11 [] [0, 1, 3, 0, 8, 24, 56, 120, 248, 511, 1023] [] ?_
    conv => whnf
    refine And.intro g1 ?_
    clear g1
    conv => whnf
    refine And.intro (callD_any (spec_l24Dec_d6_c hx2) (by kernel_rfl)) ?_
    conv => whnf
    refine And.intro g3 ?_
    clear g3
    conv => whnf
    refine bldS (enc := encByte) ([IntKind.u8.wrap (IntKind.i64.wrap (48 + ((a0 : Int).tmod 10)))] : List Int) ?_
    conv => whnf
    refine And.intro g4 ?_
    clear g4
    conv => whnf
    refine And.intro (by kernel_rfl) ?_
    conv => whnf
    obtain rfl := Option.some.inj h
    exact lfP []

noncomputable def spec_l24Dec_d4_m (a0 : Int) : Option (ByteArray) :=
(if (decide (a0 < 10)) = true then
 some (strOf ([IntKind.u8.wrap (IntKind.i64.wrap (48 + a0))] : List Int))
else
 gd ((10 : Int) ≠ 0) <|
 bd (spec_l24Dec_d5_m (IntKind.i64.wrap ((a0 : Int).tdiv 10))) fun x2 =>
 gd ((10 : Int) ≠ 0) <|
 gd (x2.size + (strOf ([IntKind.u8.wrap (IntKind.i64.wrap (48 + ((a0 : Int).tmod 10)))] : List Int)).size ≤ 9223372036854775807) <|
 some (x2 ++ (strOf ([IntKind.u8.wrap (IntKind.i64.wrap (48 + ((a0 : Int).tmod 10)))] : List Int))))

theorem spec_l24Dec_d4_c {a0 : Int} {r : ByteArray} (h : spec_l24Dec_d4_m a0 = some r) : PureC Tryd.prog 14 [.d (.int .i64 a0)] (.d (.str r)) [] := by
  refine pureC_x tOk (fn := Tryd.f14) (c := codeOf Tryd.f14) rfl rfl ?_
  unfold spec_l24Dec_d4_m at h
  conv => whnf
  refine seq_in tOk ?_
  conv => whnf
  refine andI h (fun _ h => ?_) (fun _ h => ?_)
  · conv => whnf
    refine bldS (enc := encByte) ([IntKind.u8.wrap (IntKind.i64.wrap (48 + a0))] : List Int) ?_
    conv => whnf
    obtain rfl := Option.some.inj h
    exact lfP []
  · conv => whnf
    obtain ⟨g1, h⟩ := gd_some h
    obtain ⟨x2, hx2, h⟩ := bd_some h
    obtain ⟨g3, h⟩ := gd_some h
    obtain ⟨g4, h⟩ := gd_some h
    refine draw_u tOk [.u 2 0 (.d (.str x2)) []] 11 [] [0, 1, 3, 0, 8, 24, 56, 120, 248, 511, 1023] [] ?_
    conv => whnf
    refine And.intro g1 ?_
    clear g1
    conv => whnf
    refine And.intro (callD_any (spec_l24Dec_d5_c hx2) (by kernel_rfl)) ?_
    conv => whnf
    refine And.intro g3 ?_
    clear g3
    conv => whnf
    refine bldS (enc := encByte) ([IntKind.u8.wrap (IntKind.i64.wrap (48 + ((a0 : Int).tmod 10)))] : List Int) ?_
    conv => whnf
    refine And.intro g4 ?_
    clear g4
    conv => whnf
    refine And.intro (by kernel_rfl) ?_
    conv => whnf
    obtain rfl := Option.some.inj h
    exact lfP []

noncomputable def spec_l24Dec_d3_m (a0 : Int) : Option (ByteArray) :=
(if (decide (a0 < 10)) = true then
 some (strOf ([IntKind.u8.wrap (IntKind.i64.wrap (48 + a0))] : List Int))
else
 gd ((10 : Int) ≠ 0) <|
 bd (spec_l24Dec_d4_m (IntKind.i64.wrap ((a0 : Int).tdiv 10))) fun x2 =>
 gd ((10 : Int) ≠ 0) <|
 gd (x2.size + (strOf ([IntKind.u8.wrap (IntKind.i64.wrap (48 + ((a0 : Int).tmod 10)))] : List Int)).size ≤ 9223372036854775807) <|
 some (x2 ++ (strOf ([IntKind.u8.wrap (IntKind.i64.wrap (48 + ((a0 : Int).tmod 10)))] : List Int))))

theorem spec_l24Dec_d3_c {a0 : Int} {r : ByteArray} (h : spec_l24Dec_d3_m a0 = some r) : PureC Tryd.prog 14 [.d (.int .i64 a0)] (.d (.str r)) [] := by
  refine pureC_x tOk (fn := Tryd.f14) (c := codeOf Tryd.f14) rfl rfl ?_
  unfold spec_l24Dec_d3_m at h
  conv => whnf
  refine seq_in tOk ?_
  conv => whnf
  refine andI h (fun _ h => ?_) (fun _ h => ?_)
  · conv => whnf
    refine bldS (enc := encByte) ([IntKind.u8.wrap (IntKind.i64.wrap (48 + a0))] : List Int) ?_
    conv => whnf
    obtain rfl := Option.some.inj h
    exact lfP []
  · conv => whnf
    obtain ⟨g1, h⟩ := gd_some h
    obtain ⟨x2, hx2, h⟩ := bd_some h
    obtain ⟨g3, h⟩ := gd_some h
    obtain ⟨g4, h⟩ := gd_some h
    refine draw_u tOk [.u 2 0 (.d (.str x2)) []] 11 [] [0, 1, 3, 0, 8, 24, 56, 120, 248, 511, 1023] [] ?_
    conv => whnf
    refine And.intro g1 ?_
    clear g1
    conv => whnf
    refine And.intro (callD_any (spec_l24Dec_d4_c hx2) (by kernel_rfl)) ?_
    conv => whnf
    refine And.intro g3 ?_
    clear g3
    conv => whnf
    refine bldS (enc := encByte) ([IntKind.u8.wrap (IntKind.i64.wrap (48 + ((a0 : Int).tmod 10)))] : List Int) ?_
    conv => whnf
    refine And.intro g4 ?_
    clear g4
    conv => whnf
    refine And.intro (by kernel_rfl) ?_
    conv => whnf
    obtain rfl := Option.some.inj h
    exact lfP []

noncomputable def spec_l24Dec_d2_m (a0 : Int) : Option (ByteArray) :=
(if (decide (a0 < 10)) = true then
 some (strOf ([IntKind.u8.wrap (IntKind.i64.wrap (48 + a0))] : List Int))
else
 gd ((10 : Int) ≠ 0) <|
 bd (spec_l24Dec_d3_m (IntKind.i64.wrap ((a0 : Int).tdiv 10))) fun x2 =>
 gd ((10 : Int) ≠ 0) <|
 gd (x2.size + (strOf ([IntKind.u8.wrap (IntKind.i64.wrap (48 + ((a0 : Int).tmod 10)))] : List Int)).size ≤ 9223372036854775807) <|
 some (x2 ++ (strOf ([IntKind.u8.wrap (IntKind.i64.wrap (48 + ((a0 : Int).tmod 10)))] : List Int))))

theorem spec_l24Dec_d2_c {a0 : Int} {r : ByteArray} (h : spec_l24Dec_d2_m a0 = some r) : PureC Tryd.prog 14 [.d (.int .i64 a0)] (.d (.str r)) [] := by
  refine pureC_x tOk (fn := Tryd.f14) (c := codeOf Tryd.f14) rfl rfl ?_
  unfold spec_l24Dec_d2_m at h
  conv => whnf
  refine seq_in tOk ?_
  conv => whnf
  refine andI h (fun _ h => ?_) (fun _ h => ?_)
  · conv => whnf
    refine bldS (enc := encByte) ([IntKind.u8.wrap (IntKind.i64.wrap (48 + a0))] : List Int) ?_
    conv => whnf
    obtain rfl := Option.some.inj h
    exact lfP []
  · conv => whnf
    obtain ⟨g1, h⟩ := gd_some h
    obtain ⟨x2, hx2, h⟩ := bd_some h
    obtain ⟨g3, h⟩ := gd_some h
    obtain ⟨g4, h⟩ := gd_some h
    refine draw_u tOk [.u 2 0 (.d (.str x2)) []] 11 [] [0, 1, 3, 0, 8, 24, 56, 120, 248, 511, 1023] [] ?_
    conv => whnf
    refine And.intro g1 ?_
    clear g1
    conv => whnf
    refine And.intro (callD_any (spec_l24Dec_d3_c hx2) (by kernel_rfl)) ?_
    conv => whnf
    refine And.intro g3 ?_
    clear g3
    conv => whnf
    refine bldS (enc := encByte) ([IntKind.u8.wrap (IntKind.i64.wrap (48 + ((a0 : Int).tmod 10)))] : List Int) ?_
    conv => whnf
    refine And.intro g4 ?_
    clear g4
    conv => whnf
    refine And.intro (by kernel_rfl) ?_
    conv => whnf
    obtain rfl := Option.some.inj h
    exact lfP []

noncomputable def spec_l24Dec_d1_m (a0 : Int) : Option (ByteArray) :=
(if (decide (a0 < 10)) = true then
 some (strOf ([IntKind.u8.wrap (IntKind.i64.wrap (48 + a0))] : List Int))
else
 gd ((10 : Int) ≠ 0) <|
 bd (spec_l24Dec_d2_m (IntKind.i64.wrap ((a0 : Int).tdiv 10))) fun x2 =>
 gd ((10 : Int) ≠ 0) <|
 gd (x2.size + (strOf ([IntKind.u8.wrap (IntKind.i64.wrap (48 + ((a0 : Int).tmod 10)))] : List Int)).size ≤ 9223372036854775807) <|
 some (x2 ++ (strOf ([IntKind.u8.wrap (IntKind.i64.wrap (48 + ((a0 : Int).tmod 10)))] : List Int))))

theorem spec_l24Dec_d1_c {a0 : Int} {r : ByteArray} (h : spec_l24Dec_d1_m a0 = some r) : PureC Tryd.prog 14 [.d (.int .i64 a0)] (.d (.str r)) [] := by
  refine pureC_x tOk (fn := Tryd.f14) (c := codeOf Tryd.f14) rfl rfl ?_
  unfold spec_l24Dec_d1_m at h
  conv => whnf
  refine seq_in tOk ?_
  conv => whnf
  refine andI h (fun _ h => ?_) (fun _ h => ?_)
  · conv => whnf
    refine bldS (enc := encByte) ([IntKind.u8.wrap (IntKind.i64.wrap (48 + a0))] : List Int) ?_
    conv => whnf
    obtain rfl := Option.some.inj h
    exact lfP []
  · conv => whnf
    obtain ⟨g1, h⟩ := gd_some h
    obtain ⟨x2, hx2, h⟩ := bd_some h
    obtain ⟨g3, h⟩ := gd_some h
    obtain ⟨g4, h⟩ := gd_some h
    refine draw_u tOk [.u 2 0 (.d (.str x2)) []] 11 [] [0, 1, 3, 0, 8, 24, 56, 120, 248, 511, 1023] [] ?_
    conv => whnf
    refine And.intro g1 ?_
    clear g1
    conv => whnf
    refine And.intro (callD_any (spec_l24Dec_d2_c hx2) (by kernel_rfl)) ?_
    conv => whnf
    refine And.intro g3 ?_
    clear g3
    conv => whnf
    refine bldS (enc := encByte) ([IntKind.u8.wrap (IntKind.i64.wrap (48 + ((a0 : Int).tmod 10)))] : List Int) ?_
    conv => whnf
    refine And.intro g4 ?_
    clear g4
    conv => whnf
    refine And.intro (by kernel_rfl) ?_
    conv => whnf
    obtain rfl := Option.some.inj h
    exact lfP []

noncomputable def spec_l24Dec_m (a0 : Int) : Option (ByteArray) :=
(if (decide (a0 < 10)) = true then
 some (strOf ([IntKind.u8.wrap (IntKind.i64.wrap (48 + a0))] : List Int))
else
 gd ((10 : Int) ≠ 0) <|
 bd (spec_l24Dec_d1_m (IntKind.i64.wrap ((a0 : Int).tdiv 10))) fun x2 =>
 gd ((10 : Int) ≠ 0) <|
 gd (x2.size + (strOf ([IntKind.u8.wrap (IntKind.i64.wrap (48 + ((a0 : Int).tmod 10)))] : List Int)).size ≤ 9223372036854775807) <|
 some (x2 ++ (strOf ([IntKind.u8.wrap (IntKind.i64.wrap (48 + ((a0 : Int).tmod 10)))] : List Int))))

theorem spec_l24Dec_c {a0 : Int} {r : ByteArray} (h : spec_l24Dec_m a0 = some r) : PureC Tryd.prog 14 [.d (.int .i64 a0)] (.d (.str r)) [] := by
  refine pureC_x tOk (fn := Tryd.f14) (c := codeOf Tryd.f14) rfl rfl ?_
  unfold spec_l24Dec_m at h
  conv => whnf
  refine seq_in tOk ?_
  conv => whnf
  refine andI h (fun _ h => ?_) (fun _ h => ?_)
  · conv => whnf
    refine bldS (enc := encByte) ([IntKind.u8.wrap (IntKind.i64.wrap (48 + a0))] : List Int) ?_
    conv => whnf
    obtain rfl := Option.some.inj h
    exact lfP []
  · conv => whnf
    obtain ⟨g1, h⟩ := gd_some h
    obtain ⟨x2, hx2, h⟩ := bd_some h
    obtain ⟨g3, h⟩ := gd_some h
    obtain ⟨g4, h⟩ := gd_some h
    refine draw_u tOk [.u 2 0 (.d (.str x2)) []] 11 [] [0, 1, 3, 0, 8, 24, 56, 120, 248, 511, 1023] [] ?_
    conv => whnf
    refine And.intro g1 ?_
    clear g1
    conv => whnf
    refine And.intro (callD_any (spec_l24Dec_d1_c hx2) (by kernel_rfl)) ?_
    conv => whnf
    refine And.intro g3 ?_
    clear g3
    conv => whnf
    refine bldS (enc := encByte) ([IntKind.u8.wrap (IntKind.i64.wrap (48 + ((a0 : Int).tmod 10)))] : List Int) ?_
    conv => whnf
    refine And.intro g4 ?_
    clear g4
    conv => whnf
    refine And.intro (by kernel_rfl) ?_
    conv => whnf
    obtain rfl := Option.some.inj h
    exact lfP []

noncomputable def spec_l24At_m (a0 : Int) (a1 : Int) : Option (ByteArray) :=
 gd ((256 : Int) ≠ 0) <|
 bd (spec_l24Dec_m (IntKind.i64.wrap ((a0 : Int).tdiv 256))) fun x2 =>
 gd (x2.size + (⟨#[46]⟩ : ByteArray).size ≤ 9223372036854775807) <|
 gd ((256 : Int) ≠ 0) <|
 bd (spec_l24Dec_m ((a0 : Int).tmod 256)) fun x5 =>
 gd ((x2 ++ (⟨#[46]⟩ : ByteArray)).size + x5.size ≤ 9223372036854775807) <|
 gd (((x2 ++ (⟨#[46]⟩ : ByteArray)) ++ x5).size + (⟨#[58]⟩ : ByteArray).size ≤ 9223372036854775807) <|
 bd (spec_l24Dec_m a1) fun x8 =>
 gd ((((x2 ++ (⟨#[46]⟩ : ByteArray)) ++ x5) ++ (⟨#[58]⟩ : ByteArray)).size + x8.size ≤ 9223372036854775807) <|
 some ((((x2 ++ (⟨#[46]⟩ : ByteArray)) ++ x5) ++ (⟨#[58]⟩ : ByteArray)) ++ x8)

theorem spec_l24At_c {a0 : Int} {a1 : Int} {r : ByteArray} (h : spec_l24At_m a0 a1 = some r) : PureC Tryd.prog 15 [.d (.int .i64 a0), .d (.int .i64 a1)] (.d (.str r)) [] := by
  refine pureC_x tOk (fn := Tryd.f15) (c := codeOf Tryd.f15) rfl rfl ?_
  unfold spec_l24At_m at h
  conv => whnf
  refine gdI h (fun h => ?_)
  conv => whnf
  obtain ⟨x2, hx2, h⟩ := bd_some h
  refine cC 0 (spec_l24Dec_c hx2) ?_
  clear hx2
  conv => whnf
  refine gdI h (fun h => ?_)
  conv => whnf
  refine gdI h (fun h => ?_)
  conv => whnf
  obtain ⟨x5, hx5, h⟩ := bd_some h
  refine cC 0 (spec_l24Dec_c hx5) ?_
  clear hx5
  conv => whnf
  refine gdI h (fun h => ?_)
  conv => whnf
  refine gdI h (fun h => ?_)
  conv => whnf
  obtain ⟨x8, hx8, h⟩ := bd_some h
  refine cC 0 (spec_l24Dec_c hx8) ?_
  clear hx8
  conv => whnf
  refine gdI h (fun h => ?_)
  conv => whnf
  obtain rfl := Option.some.inj h
  exact lfP []

noncomputable def spec_l24Entry_m (a0 : NatBook) (a1 : NatEntry) : Option (ByteArray) :=
 bd (spec_l24Dec_m a1.Kind) fun x1 =>
 gd ((⟨#[102, 108, 111, 119, 32]⟩ : ByteArray).size + x1.size ≤ 9223372036854775807) <|
 gd (((⟨#[102, 108, 111, 119, 32]⟩ : ByteArray) ++ x1).size + (⟨#[32]⟩ : ByteArray).size ≤ 9223372036854775807) <|
 bd (spec_l24At_m a1.Inner a1.InnerPort) fun x4 =>
 gd ((((⟨#[102, 108, 111, 119, 32]⟩ : ByteArray) ++ x1) ++ (⟨#[32]⟩ : ByteArray)).size + x4.size ≤ 9223372036854775807) <|
 gd (((((⟨#[102, 108, 111, 119, 32]⟩ : ByteArray) ++ x1) ++ (⟨#[32]⟩ : ByteArray)) ++ x4).size + (⟨#[32, 97, 115, 32]⟩ : ByteArray).size ≤ 9223372036854775807) <|
 bd (spec_l24At_m a0.Own a1.Outer) fun x7 =>
 gd ((((((⟨#[102, 108, 111, 119, 32]⟩ : ByteArray) ++ x1) ++ (⟨#[32]⟩ : ByteArray)) ++ x4) ++ (⟨#[32, 97, 115, 32]⟩ : ByteArray)).size + x7.size ≤ 9223372036854775807) <|
 gd (((((((⟨#[102, 108, 111, 119, 32]⟩ : ByteArray) ++ x1) ++ (⟨#[32]⟩ : ByteArray)) ++ x4) ++ (⟨#[32, 97, 115, 32]⟩ : ByteArray)) ++ x7).size + (⟨#[32, 116, 111, 32]⟩ : ByteArray).size ≤ 9223372036854775807) <|
 bd (spec_l24At_m a1.Peer a1.PeerPort) fun x10 =>
 gd ((((((((⟨#[102, 108, 111, 119, 32]⟩ : ByteArray) ++ x1) ++ (⟨#[32]⟩ : ByteArray)) ++ x4) ++ (⟨#[32, 97, 115, 32]⟩ : ByteArray)) ++ x7) ++ (⟨#[32, 116, 111, 32]⟩ : ByteArray)).size + x10.size ≤ 9223372036854775807) <|
 bd (spec_l22Live_m a0 a1) fun x12 =>
(if x12 = true then
 gd (((((((((⟨#[102, 108, 111, 119, 32]⟩ : ByteArray) ++ x1) ++ (⟨#[32]⟩ : ByteArray)) ++ x4) ++ (⟨#[32, 97, 115, 32]⟩ : ByteArray)) ++ x7) ++ (⟨#[32, 116, 111, 32]⟩ : ByteArray)) ++ x10).size + (⟨#[32, 108, 101, 102, 116, 32]⟩ : ByteArray).size ≤ 9223372036854775807) <|
 bd (spec_l24Dec_m (IntKind.i64.wrap (8 - (IntKind.i64.wrap (a0.Now - a1.Last))))) fun x14 =>
 gd ((((((((((⟨#[102, 108, 111, 119, 32]⟩ : ByteArray) ++ x1) ++ (⟨#[32]⟩ : ByteArray)) ++ x4) ++ (⟨#[32, 97, 115, 32]⟩ : ByteArray)) ++ x7) ++ (⟨#[32, 116, 111, 32]⟩ : ByteArray)) ++ x10) ++ (⟨#[32, 108, 101, 102, 116, 32]⟩ : ByteArray)).size + x14.size ≤ 9223372036854775807) <|
 gd (((((((((((⟨#[102, 108, 111, 119, 32]⟩ : ByteArray) ++ x1) ++ (⟨#[32]⟩ : ByteArray)) ++ x4) ++ (⟨#[32, 97, 115, 32]⟩ : ByteArray)) ++ x7) ++ (⟨#[32, 116, 111, 32]⟩ : ByteArray)) ++ x10) ++ (⟨#[32, 108, 101, 102, 116, 32]⟩ : ByteArray)) ++ x14).size + (⟨#[10]⟩ : ByteArray).size ≤ 9223372036854775807) <|
 some (((((((((((⟨#[102, 108, 111, 119, 32]⟩ : ByteArray) ++ x1) ++ (⟨#[32]⟩ : ByteArray)) ++ x4) ++ (⟨#[32, 97, 115, 32]⟩ : ByteArray)) ++ x7) ++ (⟨#[32, 116, 111, 32]⟩ : ByteArray)) ++ x10) ++ (⟨#[32, 108, 101, 102, 116, 32]⟩ : ByteArray)) ++ x14) ++ (⟨#[10]⟩ : ByteArray))
else
 gd (((((((((⟨#[102, 108, 111, 119, 32]⟩ : ByteArray) ++ x1) ++ (⟨#[32]⟩ : ByteArray)) ++ x4) ++ (⟨#[32, 97, 115, 32]⟩ : ByteArray)) ++ x7) ++ (⟨#[32, 116, 111, 32]⟩ : ByteArray)) ++ x10).size + (⟨#[32, 114, 101, 115, 116, 115, 32]⟩ : ByteArray).size ≤ 9223372036854775807) <|
 bd (spec_l24Dec_m (IntKind.i64.wrap (12 - (IntKind.i64.wrap (a0.Now - a1.Last))))) fun x18 =>
 gd ((((((((((⟨#[102, 108, 111, 119, 32]⟩ : ByteArray) ++ x1) ++ (⟨#[32]⟩ : ByteArray)) ++ x4) ++ (⟨#[32, 97, 115, 32]⟩ : ByteArray)) ++ x7) ++ (⟨#[32, 116, 111, 32]⟩ : ByteArray)) ++ x10) ++ (⟨#[32, 114, 101, 115, 116, 115, 32]⟩ : ByteArray)).size + x18.size ≤ 9223372036854775807) <|
 gd (((((((((((⟨#[102, 108, 111, 119, 32]⟩ : ByteArray) ++ x1) ++ (⟨#[32]⟩ : ByteArray)) ++ x4) ++ (⟨#[32, 97, 115, 32]⟩ : ByteArray)) ++ x7) ++ (⟨#[32, 116, 111, 32]⟩ : ByteArray)) ++ x10) ++ (⟨#[32, 114, 101, 115, 116, 115, 32]⟩ : ByteArray)) ++ x18).size + (⟨#[10]⟩ : ByteArray).size ≤ 9223372036854775807) <|
 some (((((((((((⟨#[102, 108, 111, 119, 32]⟩ : ByteArray) ++ x1) ++ (⟨#[32]⟩ : ByteArray)) ++ x4) ++ (⟨#[32, 97, 115, 32]⟩ : ByteArray)) ++ x7) ++ (⟨#[32, 116, 111, 32]⟩ : ByteArray)) ++ x10) ++ (⟨#[32, 114, 101, 115, 116, 115, 32]⟩ : ByteArray)) ++ x18) ++ (⟨#[10]⟩ : ByteArray)))

theorem spec_l24Entry_c {a0 : NatBook} {a1 : NatEntry} {r : ByteArray} (h : spec_l24Entry_m a0 a1 = some r) : PureC Tryd.prog 16 [.agg [.d (.int .i64 a0.Addr), .d (.int .i64 a0.Len), .d (.int .i64 a0.Own), .d (.int .i64 a0.Low), .d (.int .i64 a0.High), .d (slD NatDoor.enc a0.Doors), .d (.int .i64 a0.Now), .d (slD NatEntry.enc a0.Entries)], .agg [.d (.int .i64 a1.Kind), .d (.int .i64 a1.Peer), .d (.int .i64 a1.PeerPort), .d (.int .i64 a1.Outer), .d (.int .i64 a1.Inner), .d (.int .i64 a1.InnerPort), .d (.int .i64 a1.Last)]] (.d (.str r)) [] := by
  refine pureC_x tOk (fn := Tryd.f16) (c := codeOf Tryd.f16) rfl rfl ?_
  unfold spec_l24Entry_m at h
  conv => whnf
  obtain ⟨x1, hx1, h⟩ := bd_some h
  obtain ⟨g2, h⟩ := gd_some h
  obtain ⟨g3, h⟩ := gd_some h
  obtain ⟨x4, hx4, h⟩ := bd_some h
  obtain ⟨g5, h⟩ := gd_some h
  obtain ⟨g6, h⟩ := gd_some h
  obtain ⟨x7, hx7, h⟩ := bd_some h
  obtain ⟨g8, h⟩ := gd_some h
  obtain ⟨g9, h⟩ := gd_some h
  obtain ⟨x10, hx10, h⟩ := bd_some h
  obtain ⟨g11, h⟩ := gd_some h
  refine draw_u tOk [.u 2 0 (.d (.str x1)) [], .u 9 0 (.d (.str x4)) [], .u 16 0 (.d (.str x7)) [], .u 23 0 (.d (.str x10)) []] 26 [] [0, 1, 3, 7, 15, 0, 32, 0, 128, 487, 1023, 2047, 0, 4096, 0, 16384, 62439, 131071, 262143, 0, 524288, 0, 2097152, 7992295, 16777215, 33554431] [] ?_
  conv => whnf
  refine And.intro (callD_any (spec_l24Dec_c hx1) (by kernel_rfl)) ?_
  conv => whnf
  refine And.intro g2 ?_
  clear g2
  conv => whnf
  refine And.intro g3 ?_
  clear g3
  conv => whnf
  refine And.intro (callD_any (spec_l24At_c hx4) (by kernel_rfl)) ?_
  conv => whnf
  refine And.intro g5 ?_
  clear g5
  conv => whnf
  refine And.intro g6 ?_
  clear g6
  conv => whnf
  refine And.intro (callD_any (spec_l24At_c hx7) (by kernel_rfl)) ?_
  conv => whnf
  refine And.intro g8 ?_
  clear g8
  conv => whnf
  refine And.intro g9 ?_
  clear g9
  conv => whnf
  refine And.intro (callD_any (spec_l24At_c hx10) (by kernel_rfl)) ?_
  conv => whnf
  refine And.intro g11 ?_
  clear g11
  conv => whnf
  refine And.intro (by kernel_rfl) ?_
  conv => whnf
  refine seq_in tOk ?_
  conv => whnf
  obtain ⟨x12, hx12, h⟩ := bd_some h
  refine cC 0 (spec_l22Live_c hx12) ?_
  clear hx12
  conv => whnf
  refine andI h (fun _ h => ?_) (fun _ h => ?_)
  · conv => whnf
    refine gdI h (fun h => ?_)
    conv => whnf
    obtain ⟨x14, hx14, h⟩ := bd_some h
    refine cC 0 (spec_l24Dec_c hx14) ?_
    clear hx14
    conv => whnf
    refine gdI h (fun h => ?_)
    conv => whnf
    refine gdI h (fun h => ?_)
    conv => whnf
    obtain rfl := Option.some.inj h
    exact lfP []
  · conv => whnf
    refine gdI h (fun h => ?_)
    conv => whnf
    obtain ⟨x18, hx18, h⟩ := bd_some h
    refine cC 0 (spec_l24Dec_c hx18) ?_
    clear hx18
    conv => whnf
    refine gdI h (fun h => ?_)
    conv => whnf
    refine gdI h (fun h => ?_)
    conv => whnf
    obtain rfl := Option.some.inj h
    exact lfP []

noncomputable def spec_NatBoard_m (a0 : NatBook) : Option (ByteArray) :=
 bd (spec_NatBookOk_m a0) fun x1 =>
(if (!x1) = true then
 some (⟨#[]⟩ : ByteArray)
else
 bd (spec_l24Dec_m a0.Now) fun x2 =>
 gd ((⟨#[110, 111, 119, 32]⟩ : ByteArray).size + x2.size ≤ 9223372036854775807) <|
 gd (((⟨#[110, 111, 119, 32]⟩ : ByteArray) ++ x2).size + (⟨#[10]⟩ : ByteArray).size ≤ 9223372036854775807) <|
 bd (lp (σ := ByteArray × Int) (β := (ByteArray)) (fun s5 =>
(if (decide (s5.2 < ((a0.Doors.length : Nat) : Int))) = true then
 gd ((0 : Int) ≤ s5.2 ∧ s5.2 < ((a0.Doors.length : Nat) : Int)) <|
 gd (s5.1.size + (⟨#[100, 111, 111, 114, 32]⟩ : ByteArray).size ≤ 9223372036854775807) <|
 bd (spec_l24Dec_m ((a0.Doors.getD s5.2.toNat default).Kind)) fun x11 =>
 gd ((s5.1 ++ (⟨#[100, 111, 111, 114, 32]⟩ : ByteArray)).size + x11.size ≤ 9223372036854775807) <|
 gd (((s5.1 ++ (⟨#[100, 111, 111, 114, 32]⟩ : ByteArray)) ++ x11).size + (⟨#[32]⟩ : ByteArray).size ≤ 9223372036854775807) <|
 bd (spec_l24At_m a0.Own ((a0.Doors.getD s5.2.toNat default).Outer)) fun x14 =>
 gd ((((s5.1 ++ (⟨#[100, 111, 111, 114, 32]⟩ : ByteArray)) ++ x11) ++ (⟨#[32]⟩ : ByteArray)).size + x14.size ≤ 9223372036854775807) <|
 gd (((((s5.1 ++ (⟨#[100, 111, 111, 114, 32]⟩ : ByteArray)) ++ x11) ++ (⟨#[32]⟩ : ByteArray)) ++ x14).size + (⟨#[32, 116, 111, 32]⟩ : ByteArray).size ≤ 9223372036854775807) <|
 bd (spec_l24At_m ((a0.Doors.getD s5.2.toNat default).Inner) ((a0.Doors.getD s5.2.toNat default).InnerPort)) fun x17 =>
 gd ((((((s5.1 ++ (⟨#[100, 111, 111, 114, 32]⟩ : ByteArray)) ++ x11) ++ (⟨#[32]⟩ : ByteArray)) ++ x14) ++ (⟨#[32, 116, 111, 32]⟩ : ByteArray)).size + x17.size ≤ 9223372036854775807) <|
 gd (((((((s5.1 ++ (⟨#[100, 111, 111, 114, 32]⟩ : ByteArray)) ++ x11) ++ (⟨#[32]⟩ : ByteArray)) ++ x14) ++ (⟨#[32, 116, 111, 32]⟩ : ByteArray)) ++ x17).size + (⟨#[10]⟩ : ByteArray).size ≤ 9223372036854775807) <|
 some (.inl ((((((((s5.1 ++ (⟨#[100, 111, 111, 114, 32]⟩ : ByteArray)) ++ x11) ++ (⟨#[32]⟩ : ByteArray)) ++ x14) ++ (⟨#[32, 116, 111, 32]⟩ : ByteArray)) ++ x17) ++ (⟨#[10]⟩ : ByteArray)), IntKind.i64.wrap (s5.2 + 1)))
else
 some (.inr s5.1))) ((((⟨#[110, 111, 119, 32]⟩ : ByteArray) ++ x2) ++ (⟨#[10]⟩ : ByteArray)), 0)) fun x8 =>
 bd (lp (σ := ByteArray × Int) (β := (ByteArray)) (fun s21 =>
(if (decide (s21.2 < ((a0.Entries.length : Nat) : Int))) = true then
 gd ((0 : Int) ≤ s21.2 ∧ s21.2 < ((a0.Entries.length : Nat) : Int)) <|
 bd (spec_l24Entry_m a0 (a0.Entries.getD s21.2.toNat default)) fun x26 =>
 gd (s21.1.size + x26.size ≤ 9223372036854775807) <|
 some (.inl ((s21.1 ++ x26), IntKind.i64.wrap (s21.2 + 1)))
else
 some (.inr s21.1))) (x8, 0)) fun x24 =>
 some x24)

theorem spec_NatBoard_c {a0 : NatBook} {r : ByteArray} (h : spec_NatBoard_m a0 = some r) : PureC Tryd.prog 6 [.agg [.d (.int .i64 a0.Addr), .d (.int .i64 a0.Len), .d (.int .i64 a0.Own), .d (.int .i64 a0.Low), .d (.int .i64 a0.High), .d (slD NatDoor.enc a0.Doors), .d (.int .i64 a0.Now), .d (slD NatEntry.enc a0.Entries)]] (.d (.str r)) [] := by
  refine pureC_x tOk (fn := Tryd.f6) (c := codeOf Tryd.f6) rfl rfl ?_
  unfold spec_NatBoard_m at h
  conv => whnf
  refine seq_in tOk ?_
  conv => whnf
  obtain ⟨x1, hx1, h⟩ := bd_some h
  refine cC 0 (spec_NatBookOk_c hx1) ?_
  clear hx1
  conv => whnf
  refine andI h (fun _ h => ?_) (fun _ h => ?_)
  · conv => whnf
    obtain rfl := Option.some.inj h
    exact lfP []
  · conv => whnf
    obtain ⟨x2, hx2, h⟩ := bd_some h
    refine cC 0 (spec_l24Dec_c hx2) ?_
    clear hx2
    conv => whnf
    refine gdI h (fun h => ?_)
    conv => whnf
    refine gdI h (fun h => ?_)
    conv => whnf
    refine seq_in tOk ?_
    conv => whnf
    obtain ⟨x8, hx8, h⟩ := bd_some h
    refine loop_m tOk hx8 (fun s5 => ⟨0, 65, [(1, .ref 1 0 0), (3, .d (.str s5.1)), (4, .d (.int .i64 s5.2))], [], [(1, .box 31 [.d (.int .i64 a0.Addr), .d (.int .i64 a0.Len), .d (.int .i64 a0.Own), .d (.int .i64 a0.Low), .d (.int .i64 a0.High), .d (slD NatDoor.enc a0.Doors), .d (.int .i64 a0.Now), .d (slD NatEntry.enc a0.Entries)])], []⟩) ?_ ?_
    · exact leX []
    · clear hx8
      intro s5 y6 g7 hy6
      conv => whnf
      refine seq_in tOk ?_
      conv => whnf
      refine andI g7 (fun _ g7 => ?_) (fun _ g7 => ?_)
      · conv => whnf
        refine seq_in tOk ?_
        conv => whnf
        refine gdI g7 (fun g7 => ?_)
        conv => whnf
        obtain ⟨g10, g7⟩ := gd_some g7
        obtain ⟨x11, hx11, g7⟩ := bd_some g7
        obtain ⟨g12, g7⟩ := gd_some g7
        obtain ⟨g13, g7⟩ := gd_some g7
        obtain ⟨x14, hx14, g7⟩ := bd_some g7
        obtain ⟨g15, g7⟩ := gd_some g7
        obtain ⟨g16, g7⟩ := gd_some g7
        obtain ⟨x17, hx17, g7⟩ := bd_some g7
        obtain ⟨g18, g7⟩ := gd_some g7
        obtain ⟨g19, g7⟩ := gd_some g7
        refine draw_u tOk [.u 4 0 (.d (.str x11)) [], .u 11 0 (.d (.str x14)) [], .u 18 0 (.d (.str x17)) []] 21 [] [0, 1, 0, 4, 12, 31, 63, 0, 128, 0, 512, 1948, 4095, 8191, 0, 16384, 0, 65536, 249756, 524287, 1048575] [2097151] ?_
        conv => whnf
        refine And.intro g10 ?_
        clear g10
        conv => whnf
        refine And.intro (callD_any (spec_l24Dec_c hx11) (by kernel_rfl)) ?_
        conv => whnf
        refine And.intro g12 ?_
        clear g12
        conv => whnf
        refine And.intro g13 ?_
        clear g13
        conv => whnf
        refine And.intro (callD_any (spec_l24At_c hx14) (by kernel_rfl)) ?_
        conv => whnf
        refine And.intro g15 ?_
        clear g15
        conv => whnf
        refine And.intro g16 ?_
        clear g16
        conv => whnf
        refine And.intro (callD_any (spec_l24At_c hx17) (by kernel_rfl)) ?_
        conv => whnf
        refine And.intro g18 ?_
        clear g18
        conv => whnf
        refine And.intro g19 ?_
        clear g19
        conv => whnf
        refine And.intro (by kernel_rfl) ?_
        conv => whnf
        obtain rfl := Option.some.inj g7
        exact ⟨_, rfl, leX []⟩
      · conv => whnf
        obtain rfl := Option.some.inj g7
        obtain rfl := hy6 _ rfl
        refine seq_in tOk ?_
        conv => whnf
        obtain ⟨x24, hx24, h⟩ := bd_some h
        refine loop_m tOk hx24 (fun s21 => ⟨0, 65, [(1, .ref 1 0 0), (3, .d (.str s21.1)), (6, .d (.int .i64 s21.2))], [], [(1, .box 31 [.d (.int .i64 a0.Addr), .d (.int .i64 a0.Len), .d (.int .i64 a0.Own), .d (.int .i64 a0.Low), .d (.int .i64 a0.High), .d (slD NatDoor.enc a0.Doors), .d (.int .i64 a0.Now), .d (slD NatEntry.enc a0.Entries)])], []⟩) ?_ ?_
        · exact leX []
        · clear hx24
          intro s21 y22 g23 hy22
          conv => whnf
          refine seq_in tOk ?_
          conv => whnf
          refine andI g23 (fun _ g23 => ?_) (fun _ g23 => ?_)
          · conv => whnf
            refine seq_in tOk ?_
            conv => whnf
            obtain ⟨g25, g23⟩ := gd_some g23
            obtain ⟨x26, hx26, g23⟩ := bd_some g23
            obtain ⟨g27, g23⟩ := gd_some g23
            refine draw_u tOk [.u 7 0 (.d (.str x26)) []] 9 [] [0, 0, 0, 4, 0, 28, 60, 126, 255] [511] ?_
            conv => whnf
            refine And.intro g25 ?_
            clear g25
            conv => whnf
            refine And.intro (callD_any (spec_l24Entry_c hx26) (by kernel_rfl)) ?_
            conv => whnf
            refine And.intro g27 ?_
            clear g27
            conv => whnf
            refine And.intro (by kernel_rfl) ?_
            conv => whnf
            obtain rfl := Option.some.inj g23
            exact ⟨_, rfl, leX []⟩
          · conv => whnf
            obtain rfl := Option.some.inj g23
            obtain rfl := hy22 _ rfl
            obtain rfl := Option.some.inj h
            exact lfP []

noncomputable def laws_FnNatBoard_m (a0 : (List Int)) : Option (Bool) :=
(if (decide (((a0.length : Nat) : Int) > 1048576)) = true then
 some true
else
 bd (spec_DrawNatBoard_m a0) fun x1 =>
 bd (impl_NatBoard_m x1) fun x2 =>
 bd (spec_NatBoard_m x1) fun x3 =>
(if (!(x2 == x3)) = true then
 some false
else
 bd (lp (σ := Int × Int) (β := (Int)) (fun s4 =>
(if (decide (s4.2 < ((x2.size : Nat) : Int))) = true then
 gd ((0 : Int) ≤ s4.2 ∧ s4.2 < ((x2.size : Nat) : Int)) <|
(if ((strAt x2 s4.2.toNat) == 10) = true then
 some (.inl (IntKind.i64.wrap (s4.1 + 1), IntKind.i64.wrap (s4.2 + 1)))
else
 some (.inl (s4.1, IntKind.i64.wrap (s4.2 + 1))))
else
 some (.inr s4.1))) (0, 0)) fun x7 =>
 bd (gcall ((x7 == 0) = true) (spec_NatBookOk_m x1)) fun x10 =>
 some (((x7 == 0) && (!x10)) || (x7 == (IntKind.i64.wrap ((IntKind.i64.wrap (1 + ((x1.Doors.length : Nat) : Int))) + ((x1.Entries.length : Nat) : Int)))))))

theorem laws_FnNatBoard_c {a0 : (List Int)} {r : Bool} (h : laws_FnNatBoard_m a0 = some r) : PureC Tryd.prog 4 [.d (slD encByte a0)] (.d (.bool r)) [] := by
  refine pureC_x tOk (fn := Tryd.f4) (c := codeOf Tryd.f4) rfl rfl ?_
  unfold laws_FnNatBoard_m at h
  conv => whnf
  refine seq_in tOk ?_
  conv => whnf
  refine andI h (fun _ h => ?_) (fun _ h => ?_)
  · conv => whnf
    obtain rfl := Option.some.inj h
    exact lfP []
  · conv => whnf
    obtain ⟨x1, hx1, h⟩ := bd_some h
    refine cE [] 0 (spec_DrawNatBoard_c hx1) ?_
    conv => whnf
    obtain ⟨x2, hx2, h⟩ := bd_some h
    refine cC 0 (impl_NatBoard_c hx2) ?_
    clear hx2
    conv => whnf
    refine seq_in tOk ?_
    conv => whnf
    obtain ⟨x3, hx3, h⟩ := bd_some h
    refine cC 0 (spec_NatBoard_c hx3) ?_
    clear hx3
    conv => whnf
    refine andI h (fun _ h => ?_) (fun _ h => ?_)
    · conv => whnf
      obtain rfl := Option.some.inj h
      exact lfP []
    · conv => whnf
      refine seq_in tOk ?_
      conv => whnf
      obtain ⟨x7, hx7, h⟩ := bd_some h
      refine loop_m tOk hx7 (fun s4 => ⟨0, 49, [(3, .ref 3 0 0), (4, .d (.str x2)), (5, .d (.int .i64 s4.1)), (6, .d (.int .i64 s4.2))], [], [(3, .box 31 [.d (.int .i64 x1.Addr), .d (.int .i64 x1.Len), .d (.int .i64 x1.Own), .d (.int .i64 x1.Low), .d (.int .i64 x1.High), .d (slD NatDoor.enc x1.Doors), .d (.int .i64 x1.Now), .d (slD NatEntry.enc x1.Entries)])], []⟩) ?_ ?_
      · exact leX []
      · clear hx7
        intro s4 y5 g6 hy5
        conv => whnf
        refine seq_in tOk ?_
        conv => whnf
        refine andI g6 (fun _ g6 => ?_) (fun _ g6 => ?_)
        · conv => whnf
          refine seq_in tOk ?_
          conv => whnf
          refine gdI g6 (fun g6 => ?_)
          conv => whnf
          refine andI g6 (fun _ g6 => ?_) (fun _ g6 => ?_)
          · conv => whnf
            obtain rfl := Option.some.inj g6
            exact ⟨_, rfl, leX []⟩
          · conv => whnf
            obtain rfl := Option.some.inj g6
            exact ⟨_, rfl, leX []⟩
        · conv => whnf
          obtain rfl := Option.some.inj g6
          obtain rfl := hy5 _ rfl
          obtain ⟨x10, hx10, h⟩ := bd_some h
          refine cG (fun c0 => spec_NatBookOk_c (gcall_some hx10 c0)) ?_
          conv => whnf
          obtain rfl := Option.some.inj h
          exact lfP []

end Go.Proofs.YtjgjdobkahdgfaaDoor
