/-
  What some of the program's functions compute: their models, and that the functions compute these; no condition.
-/
import Derived.Test.YtaoeomoepefojaaGreatTyz
import Derived.Test.YtaoeomoepefojaaGreatTbz
import Derived.Test.YtaoeomoepefojaaGreatAbz7
import Derived.Test.YtaoeomoepefojaaGreatKz2
set_option linter.all false
namespace Go.Proofs.YtaoeomoepefojaaGreat
open Go Go.Ab
set_option maxRecDepth 100000
set_option maxHeartbeats 40000000
noncomputable def impl_HelloEnd_learn_r02_04_016_m (a0 : HelloEnd) (a1 : HelloEntry) : Option (Bool × HelloEnd) :=
 bd (impl_HelloEntry_prefix_m a1) fun x1 =>
 bd (impl_HelloEnd_findRoute_m a0 x1) fun x2 =>
(if x2.2 = true then
 gd ((0 : Int) ≤ x2.1 ∧ x2.1 < ((a0.Heard.length : Nat) : Int)) <|
 some (true, { a0 with Heard := a0.Heard.set x2.1.toNat (⟨a1, false⟩ : HelloRoute) })
else
 bd (α := (List HelloRoute) ⊕ Unit) ((if (((a0.Heard.length : Nat) : Int) == 16) = true then
 bd (slices_IndexFunc_HelloRoute_HelloRoute_impl_HelloEnd_learn_1_m a0.Heard) fun x7 =>
(if (decide (x7 < 0)) = true then
 some (.inr ())
else
 bd (slices_Delete_HelloRoute_HelloRoute_m a0.Heard x7 (IntKind.i64.wrap (x7 + 1))) fun x8 =>
 some (.inl x8))
else
 some (.inl a0.Heard))) fun x4 =>
(match x4 with
| .inl d6 =>
 bd (impl_HelloEntry_prefix_m a1) fun x9 =>
 bd (impl_HelloEnd_findRoute_m ({ a0 with Heard := d6 }) x9) fun x10 =>
 bd (slices_Insert_HelloRoute_HelloRoute_m d6 x10.1 ([(⟨a1, false⟩ : HelloRoute)] : List HelloRoute)) fun x11 =>
 some (true, { a0 with Heard := x11 })
| .inr d12 =>
 some (false, a0)))

theorem impl_HelloEnd_learn_r02_04_016_c {a0 : HelloEnd} {a1 : HelloEntry} {r : Bool × HelloEnd} (h : impl_HelloEnd_learn_r02_04_016_m a0 a1 = some r) : EffC Tryz.prog 126 [.ref 9000 0 0, .agg [.d (.int .i64 a1.Addr), .d (.int .i64 a1.Len), .d (.int .i64 a1.Cost), .d (.int .i64 a1.Label)]] [(9000, .box 41 [.d (.int .i64 a0.Name), .d (.int .i64 a0.Peer), .osl 9001 0 a0.Keys.length, .d (.int .i64 a0.Boot), .osl 9002 0 a0.Want.length, .d (.int .i64 a0.Turn), .d (.int .i64 a0.PeerBoot), .d (.int .i64 a0.PeerTurn), .d (.bool a0.Up), .d (.int .i64 a0.Left), .d (.int .i64 a0.Num), .d (.int .i64 a0.Under.Kind), .d (.int .i64 a0.Under.Entry.Addr), .d (.int .i64 a0.Under.Entry.Len), .d (.int .i64 a0.Under.Entry.Cost), .d (.int .i64 a0.Under.Entry.Label), .osl 9003 0 a0.Told.length, .d (.bool a0.All), .d (.int .i64 a0.Got), .d (.bool a0.Full), .osl 9004 0 a0.Heard.length, .d (.int .i64 a0.Keep)]), (9001, .arr 90 2 a0.Keys.length (rows HelloKey.enc a0.Keys)), (9002, .arr 36 4 a0.Want.length (rows HelloEntry.enc a0.Want)), (9003, .arr 36 4 a0.Told.length (rows HelloEntry.enc a0.Told)), (9004, .arr 94 5 a0.Heard.length (rows HelloRoute.enc a0.Heard))] (.d (.bool r.1)) [(9000, .box 41 [.d (.int .i64 a0.Name), .d (.int .i64 a0.Peer), .osl 5001 0 r.2.Keys.length, .d (.int .i64 a0.Boot), .osl 5002 0 r.2.Want.length, .d (.int .i64 a0.Turn), .d (.int .i64 a0.PeerBoot), .d (.int .i64 a0.PeerTurn), .d (.bool a0.Up), .d (.int .i64 a0.Left), .d (.int .i64 a0.Num), .d (.int .i64 a0.Under.Kind), .d (.int .i64 a0.Under.Entry.Addr), .d (.int .i64 a0.Under.Entry.Len), .d (.int .i64 a0.Under.Entry.Cost), .d (.int .i64 a0.Under.Entry.Label), .osl 5003 0 r.2.Told.length, .d (.bool a0.All), .d (.int .i64 a0.Got), .d (.bool a0.Full), .osl 5004 0 r.2.Heard.length, .d (.int .i64 a0.Keep)]), (5001, .arr 90 2 r.2.Keys.length (rows HelloKey.enc r.2.Keys)), (5002, .arr 36 4 r.2.Want.length (rows HelloEntry.enc r.2.Want)), (5003, .arr 36 4 r.2.Told.length (rows HelloEntry.enc r.2.Told)), (5004, .arr 94 5 r.2.Heard.length (rows HelloRoute.enc r.2.Heard))] := by
  refine effC_x tOk (fn := Tryz.f126) (c := codeOf Tryz.f126) rfl rfl ?_
  unfold impl_HelloEnd_learn_r02_04_016_m at h
  conv => whnf
  refine seq_in tOk ?_
  conv => whnf
  obtain ⟨x1, hx1, h⟩ := bd_some h
  refine cC 0 (impl_HelloEntry_prefix_c hx1) ?_
  clear hx1
  conv => whnf
  obtain ⟨x2, hx2, h⟩ := bd_some h
  refine cC 0 (impl_HelloEnd_findRoute_c hx2) ?_
  clear hx2
  conv => whnf
  refine andI h (fun _ h => ?_) (fun _ h => ?_)
  · conv => whnf
    obtain ⟨g3, h⟩ := gd_some h
    refine draw_u tOk [] 8 [] [0, 1, 3, 7, 0, 0, 32, 127] [255] ?_
    conv => whnf
    refine And.intro g3 ?_
    clear g3
    conv => whnf
    refine And.intro (by kernel_rfl) ?_
    conv => whnf
    refine ⟨rows HelloRoute.enc (a0.Heard.set x2.1.toNat (⟨a1, false⟩ : HelloRoute)), store_rows' lenA rfl, ?_⟩
    conv => whnf
    obtain rfl := Option.some.inj h
    exact lfE [.s [(5001, 9001), (5002, 9002), (5003, 9003), (5004, 9004), (9001, 5001), (9002, 5002), (9003, 5003), (9004, 5004)]]
  · conv => whnf
    obtain ⟨x4, hx4, h⟩ := bd_some h
    refine seq_join tOk (fun s5 => ⟨0, 69, [(0, .ref 9000 0 0), (3, .ref 3 0 0)], [], [(6001, .arr 94 5 s5.length (rows HelloRoute.enc s5)), (3, .box 36 [.d (.int .i64 a1.Addr), .d (.int .i64 a1.Len), .d (.int .i64 a1.Cost), .d (.int .i64 a1.Label)]), (9000, .box 41 [.d (.int .i64 a0.Name), .d (.int .i64 a0.Peer), .osl 9001 0 a0.Keys.length, .d (.int .i64 a0.Boot), .osl 9002 0 a0.Want.length, .d (.int .i64 a0.Turn), .d (.int .i64 a0.PeerBoot), .d (.int .i64 a0.PeerTurn), .d (.bool a0.Up), .d (.int .i64 a0.Left), .d (.int .i64 a0.Num), .d (.int .i64 a0.Under.Kind), .d (.int .i64 a0.Under.Entry.Addr), .d (.int .i64 a0.Under.Entry.Len), .d (.int .i64 a0.Under.Entry.Cost), .d (.int .i64 a0.Under.Entry.Label), .osl 9003 0 a0.Told.length, .d (.bool a0.All), .d (.int .i64 a0.Got), .d (.bool a0.Full), .osl 6001 0 s5.length, .d (.int .i64 a0.Keep)]), (9001, .arr 90 2 a0.Keys.length (rows HelloKey.enc a0.Keys)), (9002, .arr 36 4 a0.Want.length (rows HelloEntry.enc a0.Want)), (9003, .arr 36 4 a0.Told.length (rows HelloEntry.enc a0.Told))], [⟨[(0, .ref 9000 0 0)], []⟩]⟩) (fun s5 => x4 = .inl s5) ?_ ?_
    · conv => whnf
      refine andI hx4 (fun _ hx4 => ?_) (fun _ hx4 => ?_)
      · conv => whnf
        obtain ⟨x7, hx7, hx4⟩ := bd_some hx4
        refine cC 0 (slices_IndexFunc_HelloRoute_HelloRoute_impl_HelloEnd_learn_1_c hx7) ?_
        clear hx7
        conv => whnf
        refine seq_in tOk ?_
        conv => whnf
        refine andI hx4 (fun _ hx4 => ?_) (fun _ hx4 => ?_)
        · conv => whnf
          obtain rfl := Option.some.inj hx4
          obtain rfl := Option.some.inj h
          exact lfE [.s [(5001, 9001), (5002, 9002), (5003, 9003), (5004, 9004), (9001, 5001), (9002, 5002), (9003, 5003), (9004, 5004)]]
        · conv => whnf
          obtain ⟨x8, hx8, hx4⟩ := bd_some hx4
          refine cE [(9000, 9004)] 1000 (slices_Delete_HelloRoute_HelloRoute_c hx8) ?_
          conv => whnf
          obtain rfl := Option.some.inj hx4
          exact ⟨_, rfl, leX []⟩
      · conv => whnf
        obtain rfl := Option.some.inj hx4
        exact ⟨_, rfl, leX [.s [(6001, 9004), (9004, 6001)]]⟩
    · intro d6 hdd6
      subst hdd6
      conv => whnf
      obtain ⟨x9, hx9, h⟩ := bd_some h
      refine cC 0 (impl_HelloEntry_prefix_c hx9) ?_
      clear hx9
      conv => whnf
      obtain ⟨x10, hx10, h⟩ := bd_some h
      refine cC 0 (impl_HelloEnd_findRoute_c hx10) ?_
      clear hx10
      conv => whnf
      obtain ⟨x11, hx11, h⟩ := bd_some h
      refine draw_t tOk [.a 8 [] (.osl 65 0 (([(⟨a1, false⟩ : HelloRoute)] : List HelloRoute).length)) [(65, .arr 94 5 (([(⟨a1, false⟩ : HelloRoute)] : List HelloRoute).length) (rows HelloRoute.enc ([(⟨a1, false⟩ : HelloRoute)] : List HelloRoute)))], .e 9 [(6001, .arr 94 5 d6.length (rows HelloRoute.enc d6)), (65, .arr 94 5 (([(⟨a1, false⟩ : HelloRoute)] : List HelloRoute).length) (rows HelloRoute.enc ([(⟨a1, false⟩ : HelloRoute)] : List HelloRoute)))] (.osl 7001 0 x11.length) [(7001, .arr 94 5 x11.length (rows HelloRoute.enc x11))] []] 12 [] [0, 0, 2, 6, 14, 0, 0, 64, 192, 510, 1023, 2047] [4095] [6001] ?_
      conv => whnf
      refine And.intro (by (conv => whnf); exact bldS (enc := HelloRoute.enc) ([(⟨a1, false⟩ : HelloRoute)] : List HelloRoute) ⟨rfl, rfl⟩) ?_
      conv => whnf
      refine And.intro (eD [(9000, 6001), (9001, 65)] 2000 (slices_Insert_HelloRoute_HelloRoute_c hx11)) ?_
      conv => whnf
      refine And.intro (by kernel_rfl) ?_
      conv => whnf
      obtain rfl := Option.some.inj h
      exact lfE [.s [(5001, 9001), (5002, 9002), (5003, 9003), (5004, 7001), (7001, 5004), (9001, 5001), (9002, 5002), (9003, 5003)]]

noncomputable def slices_DeleteFunc_HelloRoute_HelloRoute_impl_HelloEnd_dropStale_1_o00_m (a0 : (List HelloRoute)) : Option ((List HelloRoute)) :=
 bd (slices_IndexFunc_HelloRoute_HelloRoute_impl_HelloEnd_dropStale_1_m a0) fun x1 =>
(if (x1 == (-1)) = true then
 some a0
else
 bd (lp (σ := List HelloRoute × Int × Int) (β := (Nat × Int × (List HelloRoute))) (fun s2 =>
(if (decide (s2.2.2 < ((s2.1.length : Nat) : Int))) = true then
 gd ((0 : Int) ≤ s2.2.2 ∧ s2.2.2 < ((s2.1.length : Nat) : Int)) <|
 bd (impl_HelloEnd_dropStale_1_m (⟨((s2.1.getD s2.2.2.toNat default).Entry), (s2.1.getD s2.2.2.toNat default).Stale⟩ : HelloRoute)) fun x7 =>
(if (!x7) = true then
 gd ((0 : Int) ≤ s2.2.1 ∧ s2.2.1 < ((s2.1.length : Nat) : Int)) <|
 bd (some (s2.1.set s2.2.1.toNat (⟨((s2.1.getD s2.2.2.toNat default).Entry), (s2.1.getD s2.2.2.toNat default).Stale⟩ : HelloRoute))) fun x9 =>
 some (.inl (x9, IntKind.i64.wrap (s2.2.1 + 1), IntKind.i64.wrap (s2.2.2 + 1)))
else
 some (.inl (s2.1, s2.2.1, IntKind.i64.wrap (s2.2.2 + 1))))
else
 some (.inr (s2.1.length, s2.2.1, s2.1)))) (a0, x1, IntKind.i64.wrap (x1 + 1))) fun x5 =>
 gd ((0 : Int) ≤ x5.2.1 ∧ x5.2.1 ≤ ((x5.1 : Nat) : Int) ∧ ((x5.1 : Nat) : Int) ≤ ((x5.1 : Nat) : Int)) <|
 gd ((0 : Int) ≤ (0 : Int) ∧ (0 : Int) ≤ x5.2.1 ∧ x5.2.1 ≤ ((x5.1 : Nat) : Int)) <|
 some ((clrL x5.2.2 x5.2.1.toNat (dsub ((x5.1 : Nat) : Int) x5.2.1)).take x5.2.1.toNat))

theorem slices_DeleteFunc_HelloRoute_HelloRoute_impl_HelloEnd_dropStale_1_o00_c {a0 : (List HelloRoute)} {r : (List HelloRoute)} (h : slices_DeleteFunc_HelloRoute_HelloRoute_impl_HelloEnd_dropStale_1_o00_m a0 = some r) : EffC Tryz.prog 135 [.osl 9000 0 a0.length, .fn 136 []] [(9000, .arr 94 5 a0.length (rows HelloRoute.enc a0))] (.osl 5001 0 r.length) [(5001, .arr 94 5 r.length (rows HelloRoute.enc r))] := by
  refine effC_x tOk (fn := Tryz.f135) (c := codeOf Tryz.f135) rfl rfl ?_
  unfold slices_DeleteFunc_HelloRoute_HelloRoute_impl_HelloEnd_dropStale_1_o00_m at h
  conv => whnf
  obtain ⟨x1, hx1, h⟩ := bd_some h
  refine cC 0 (slices_IndexFunc_HelloRoute_HelloRoute_impl_HelloEnd_dropStale_1_c hx1) ?_
  clear hx1
  conv => whnf
  refine seq_in tOk ?_
  conv => whnf
  refine andI h (fun _ h => ?_) (fun _ h => ?_)
  · conv => whnf
    obtain rfl := Option.some.inj h
    exact lfE [.s [(5001, 9000), (9000, 5001)]]
  · conv => whnf
    refine seq_in tOk ?_
    conv => whnf
    obtain ⟨x5, hx5, h⟩ := bd_some h
    refine loop_m tOk hx5 (fun s2 => ⟨0, 42, [(0, .osl 9000 0 s2.1.length), (1, .fn 136 []), (5, .d (.int .i64 s2.2.1)), (6, .d (.int .i64 s2.2.2))], [], [(9000, .arr 94 5 s2.1.length (rows HelloRoute.enc s2.1))], [⟨[], []⟩]⟩) ?_ ?_
    · exact leX []
    · clear hx5
      intro s2 y3 g4 hy3
      conv => whnf
      refine seq_in tOk ?_
      conv => whnf
      refine andI g4 (fun _ g4 => ?_) (fun _ g4 => ?_)
      · conv => whnf
        refine seq_in tOk ?_
        conv => whnf
        refine gdI g4 (fun g4 => ?_)
        conv => whnf
        obtain ⟨x7, hx7, g4⟩ := bd_some g4
        refine cC 0 (impl_HelloEnd_dropStale_1_c hx7) ?_
        clear hx7
        conv => whnf
        refine andI g4 (fun _ g4 => ?_) (fun _ g4 => ?_)
        · conv => whnf
          refine gdI g4 (fun g4 => ?_)
          conv => whnf
          obtain ⟨x9, hx9, hlx9, g4⟩ := bd_set g4
          refine setS (enc := HelloRoute.enc) hx9 ?_
          conv => whnf
          obtain rfl := Option.some.inj g4
          exact ⟨_, rfl, leX []⟩
        · conv => whnf
          obtain rfl := Option.some.inj g4
          exact ⟨_, rfl, leX []⟩
      · conv => whnf
        obtain rfl := Option.some.inj g4
        obtain rfl := hy3 _ rfl
        dsimp only at h
        obtain ⟨g11, h⟩ := gd_some h
        refine And.intro g11 ?_
        conv => whnf
        refine ⟨rows HelloRoute.enc (clrL (s2.1.length, s2.2.1, s2.1).2.2 (s2.1.length, s2.2.1, s2.1).2.1.toNat (dsub (((s2.1.length, s2.2.1, s2.1).1 : Nat) : Int) (s2.1.length, s2.2.1, s2.1).2.1)), clr_rows lenA rfl, ?_⟩
        conv => whnf
        obtain ⟨g12, h⟩ := gd_some h
        refine And.intro g12 ?_
        conv => whnf
        obtain rfl := Option.some.inj h
        exact lfE [.c 4, .s [(5001, 9000), (9000, 5001)]]

noncomputable def impl_HelloEnd_dropStale_r02_04_016_k020_m (a0 : HelloEnd) : Option (HelloEnd) :=
 bd (slices_DeleteFunc_HelloRoute_HelloRoute_impl_HelloEnd_dropStale_1_o00_m a0.Heard) fun x1 =>
 some ({ a0 with Heard := x1 })

theorem impl_HelloEnd_dropStale_r02_04_016_k020_c {a0 : HelloEnd} {r : HelloEnd} (h : impl_HelloEnd_dropStale_r02_04_016_k020_m a0 = some r) : EffC Tryz.prog 100 [.ref 9000 0 0] [(9000, .box 41 [.d (.int .i64 a0.Name), .d (.int .i64 a0.Peer), .osl 9001 0 a0.Keys.length, .d (.int .i64 a0.Boot), .osl 9002 0 a0.Want.length, .d (.int .i64 a0.Turn), .d (.int .i64 a0.PeerBoot), .d (.int .i64 a0.PeerTurn), .d (.bool a0.Up), .d (.int .i64 a0.Left), .d (.int .i64 a0.Num), .d (.int .i64 a0.Under.Kind), .d (.int .i64 a0.Under.Entry.Addr), .d (.int .i64 a0.Under.Entry.Len), .d (.int .i64 a0.Under.Entry.Cost), .d (.int .i64 a0.Under.Entry.Label), .osl 9003 0 a0.Told.length, .d (.bool a0.All), .d (.int .i64 a0.Got), .d (.bool a0.Full), .osl 9004 0 a0.Heard.length, .d (.int .i64 a0.Keep)]), (9001, .arr 90 2 a0.Keys.length (rows HelloKey.enc a0.Keys)), (9002, .arr 36 4 a0.Want.length (rows HelloEntry.enc a0.Want)), (9003, .arr 36 4 a0.Told.length (rows HelloEntry.enc a0.Told)), (9004, .arr 94 5 a0.Heard.length (rows HelloRoute.enc a0.Heard))] (.tup []) [(9000, .box 41 [.d (.int .i64 a0.Name), .d (.int .i64 a0.Peer), .osl 5001 0 r.Keys.length, .d (.int .i64 a0.Boot), .osl 5002 0 r.Want.length, .d (.int .i64 a0.Turn), .d (.int .i64 a0.PeerBoot), .d (.int .i64 a0.PeerTurn), .d (.bool a0.Up), .d (.int .i64 a0.Left), .d (.int .i64 a0.Num), .d (.int .i64 a0.Under.Kind), .d (.int .i64 a0.Under.Entry.Addr), .d (.int .i64 a0.Under.Entry.Len), .d (.int .i64 a0.Under.Entry.Cost), .d (.int .i64 a0.Under.Entry.Label), .osl 5003 0 r.Told.length, .d (.bool a0.All), .d (.int .i64 a0.Got), .d (.bool a0.Full), .osl 5004 0 r.Heard.length, .d (.int .i64 a0.Keep)]), (5001, .arr 90 2 r.Keys.length (rows HelloKey.enc r.Keys)), (5002, .arr 36 4 r.Want.length (rows HelloEntry.enc r.Want)), (5003, .arr 36 4 r.Told.length (rows HelloEntry.enc r.Told)), (5004, .arr 94 5 r.Heard.length (rows HelloRoute.enc r.Heard))] := by
  refine effC_x tOk (fn := Tryz.f100) (c := codeOf Tryz.f100) rfl rfl ?_
  unfold impl_HelloEnd_dropStale_r02_04_016_k020_m at h
  conv => whnf
  obtain ⟨x1, hx1, h⟩ := bd_some h
  refine cE [(9000, 9004)] 1000 (slices_DeleteFunc_HelloRoute_HelloRoute_impl_HelloEnd_dropStale_1_o00_c hx1) ?_
  conv => whnf
  obtain rfl := Option.some.inj h
  exact lfE [.s [(5001, 9001), (5002, 9002), (5003, 9003), (5004, 6001), (6001, 5004), (9001, 5001), (9002, 5002), (9003, 5003)]]

noncomputable def impl_HelloEnd_take_r02_04_016_k02_04_016_020_m (a0 : HelloEnd) (a1 : HelloChange) : Option (Bool × HelloEnd) :=
(if (a1.Kind == 1) = true then
 bd (impl_HelloEnd_learn_r02_04_016_m a0 a1.Entry) fun x1 =>
 some (x1.1, { a0 with Keys := x1.2.Keys, Want := x1.2.Want, Told := x1.2.Told, Heard := x1.2.Heard })
else
(if (a1.Kind == 2) = true then
 bd (impl_HelloEntry_prefix_m a1.Entry) fun x2 =>
 bd (impl_HelloEnd_findRoute_m a0 x2) fun x3 =>
(if x3.2 = true then
 bd (slices_Delete_HelloRoute_HelloRoute_m a0.Heard x3.1 (IntKind.i64.wrap (x3.1 + 1))) fun x4 =>
 some (true, { a0 with Heard := x4 })
else
 some (true, a0))
else
(if (a1.Kind == 3) = true then
 bd (impl_HelloEnd_dropStale_r02_04_016_k020_m a0) fun x5 =>
 some (true, { a0 with Keys := x5.Keys, Want := x5.Want, Told := x5.Told, Full := true, Heard := x5.Heard })
else
 some (true, a0))))

theorem impl_HelloEnd_take_r02_04_016_k02_04_016_020_c {a0 : HelloEnd} {a1 : HelloChange} {r : Bool × HelloEnd} (h : impl_HelloEnd_take_r02_04_016_k02_04_016_020_m a0 a1 = some r) : EffC Tryz.prog 92 [.ref 9000 0 0, .agg [.d (.int .i64 a1.Kind), .d (.int .i64 a1.Entry.Addr), .d (.int .i64 a1.Entry.Len), .d (.int .i64 a1.Entry.Cost), .d (.int .i64 a1.Entry.Label)]] [(9000, .box 41 [.d (.int .i64 a0.Name), .d (.int .i64 a0.Peer), .osl 9001 0 a0.Keys.length, .d (.int .i64 a0.Boot), .osl 9002 0 a0.Want.length, .d (.int .i64 a0.Turn), .d (.int .i64 a0.PeerBoot), .d (.int .i64 a0.PeerTurn), .d (.bool a0.Up), .d (.int .i64 a0.Left), .d (.int .i64 a0.Num), .d (.int .i64 a0.Under.Kind), .d (.int .i64 a0.Under.Entry.Addr), .d (.int .i64 a0.Under.Entry.Len), .d (.int .i64 a0.Under.Entry.Cost), .d (.int .i64 a0.Under.Entry.Label), .osl 9003 0 a0.Told.length, .d (.bool a0.All), .d (.int .i64 a0.Got), .d (.bool a0.Full), .osl 9004 0 a0.Heard.length, .d (.int .i64 a0.Keep)]), (9001, .arr 90 2 a0.Keys.length (rows HelloKey.enc a0.Keys)), (9002, .arr 36 4 a0.Want.length (rows HelloEntry.enc a0.Want)), (9003, .arr 36 4 a0.Told.length (rows HelloEntry.enc a0.Told)), (9004, .arr 94 5 a0.Heard.length (rows HelloRoute.enc a0.Heard))] (.d (.bool r.1)) [(9000, .box 41 [.d (.int .i64 a0.Name), .d (.int .i64 a0.Peer), .osl 5001 0 r.2.Keys.length, .d (.int .i64 a0.Boot), .osl 5002 0 r.2.Want.length, .d (.int .i64 a0.Turn), .d (.int .i64 a0.PeerBoot), .d (.int .i64 a0.PeerTurn), .d (.bool a0.Up), .d (.int .i64 a0.Left), .d (.int .i64 a0.Num), .d (.int .i64 a0.Under.Kind), .d (.int .i64 a0.Under.Entry.Addr), .d (.int .i64 a0.Under.Entry.Len), .d (.int .i64 a0.Under.Entry.Cost), .d (.int .i64 a0.Under.Entry.Label), .osl 5003 0 r.2.Told.length, .d (.bool a0.All), .d (.int .i64 a0.Got), .d (.bool r.2.Full), .osl 5004 0 r.2.Heard.length, .d (.int .i64 a0.Keep)]), (5001, .arr 90 2 r.2.Keys.length (rows HelloKey.enc r.2.Keys)), (5002, .arr 36 4 r.2.Want.length (rows HelloEntry.enc r.2.Want)), (5003, .arr 36 4 r.2.Told.length (rows HelloEntry.enc r.2.Told)), (5004, .arr 94 5 r.2.Heard.length (rows HelloRoute.enc r.2.Heard))] := by
  refine effC_x tOk (fn := Tryz.f92) (c := codeOf Tryz.f92) rfl rfl ?_
  unfold impl_HelloEnd_take_r02_04_016_k02_04_016_020_m at h
  conv => whnf
  refine seq_in tOk ?_
  conv => whnf
  refine andI h (fun _ h => ?_) (fun _ h => ?_)
  · conv => whnf
    obtain ⟨x1, hx1, h⟩ := bd_some h
    refine cE2 [(9000, 9000), (9001, 9001), (9002, 9002), (9003, 9003), (9004, 9004)] 1000 (impl_HelloEnd_learn_r02_04_016_c hx1) ?_
    conv => whnf
    obtain rfl := Option.some.inj h
    exact lfE [.s [(5001, 6001), (5002, 6002), (5003, 6003), (5004, 6004), (6001, 5001), (6002, 5002), (6003, 5003), (6004, 5004)]]
  · conv => whnf
    refine andI h (fun _ h => ?_) (fun _ h => ?_)
    · conv => whnf
      obtain ⟨x2, hx2, h⟩ := bd_some h
      refine cC 0 (impl_HelloEntry_prefix_c hx2) ?_
      clear hx2
      conv => whnf
      obtain ⟨x3, hx3, h⟩ := bd_some h
      refine cC 0 (impl_HelloEnd_findRoute_c hx3) ?_
      clear hx3
      conv => whnf
      refine andI h (fun _ h => ?_) (fun _ h => ?_)
      · conv => whnf
        obtain ⟨x4, hx4, h⟩ := bd_some h
        refine cE [(9000, 9004)] 1000 (slices_Delete_HelloRoute_HelloRoute_c hx4) ?_
        conv => whnf
        obtain rfl := Option.some.inj h
        exact lfE [.s [(5001, 9001), (5002, 9002), (5003, 9003), (5004, 6001), (6001, 5004), (9001, 5001), (9002, 5002), (9003, 5003)]]
      · conv => whnf
        obtain rfl := Option.some.inj h
        exact lfE [.s [(5001, 9001), (5002, 9002), (5003, 9003), (5004, 9004), (9001, 5001), (9002, 5002), (9003, 5003), (9004, 5004)]]
    · conv => whnf
      refine andI h (fun _ h => ?_) (fun _ h => ?_)
      · conv => whnf
        obtain ⟨x5, hx5, h⟩ := bd_some h
        refine cE2 [(9000, 9000), (9001, 9001), (9002, 9002), (9003, 9003), (9004, 9004)] 1000 (impl_HelloEnd_dropStale_r02_04_016_k020_c hx5) ?_
        conv => whnf
        obtain rfl := Option.some.inj h
        exact lfE [.s [(5001, 6001), (5002, 6002), (5003, 6003), (5004, 6004), (6001, 5001), (6002, 5002), (6003, 5003), (6004, 5004)]]
      · conv => whnf
        obtain rfl := Option.some.inj h
        exact lfE [.s [(5001, 9001), (5002, 9002), (5003, 9003), (5004, 9004), (9001, 5001), (9002, 5002), (9003, 5003), (9004, 5004)]]

noncomputable def impl_HelloEnd_hear_r02_04_k02_04_016_020_m (a0 : HelloEnd) (a1 : HelloWord) : Option (HelloEnd) :=
 bd (impl_HelloEnd_isNew_m a0 a1) fun x1 =>
(if (!x1) = true then
 some a0
else
 bd (α := List HelloKey × List HelloEntry × List HelloEntry × List HelloRoute × Int × Int × Int × Int × Int × Int × Bool × Int × Bool × Int × Int × Bool) ((if (decide (a1.Boot > a0.PeerBoot)) = true then
 bd (impl_HelloEnd_beginAnew_r02_04_k016_m a0) fun x5 =>
 some (x5.Keys, x5.Want, x5.Told, x5.Heard, x5.Num, x5.Under.Kind, x5.Under.Entry.Addr, x5.Under.Entry.Len, x5.Under.Entry.Cost, x5.Under.Entry.Label, x5.All, x5.Got, x5.Full, x5.Keep, a1.Boot, x5.Up)
else
 some (a0.Keys, a0.Want, a0.Told, a0.Heard, a0.Num, a0.Under.Kind, a0.Under.Entry.Addr, a0.Under.Entry.Len, a0.Under.Entry.Cost, a0.Under.Entry.Label, a0.All, a0.Got, a0.Full, a0.Keep, a0.PeerBoot, a0.Up))) fun x2 =>
(if (!(a1.Yours == a0.Boot)) = true then
 some ({ a0 with Keys := x2.1, Want := x2.2.1, PeerBoot := x2.2.2.2.2.2.2.2.2.2.2.2.2.2.2.1, PeerTurn := a1.Turn, Up := (a1.Yours == a0.Boot), Left := 4, Num := x2.2.2.2.2.1, Under := (⟨x2.2.2.2.2.2.1, (⟨x2.2.2.2.2.2.2.1, x2.2.2.2.2.2.2.2.1, x2.2.2.2.2.2.2.2.2.1, x2.2.2.2.2.2.2.2.2.2.1⟩ : HelloEntry)⟩ : HelloChange), Told := x2.2.2.1, All := x2.2.2.2.2.2.2.2.2.2.2.1, Got := x2.2.2.2.2.2.2.2.2.2.2.2.1, Full := x2.2.2.2.2.2.2.2.2.2.2.2.2.1, Heard := x2.2.2.2.1, Keep := x2.2.2.2.2.2.2.2.2.2.2.2.2.2.1 })
else
 bd (α := List HelloKey × List HelloEntry × List HelloEntry × List HelloRoute × Int × Int × Int × Int × Int × Bool) ((if ((x2.2.2.2.2.2.1 != 0) && (a1.Heard == x2.2.2.2.2.1)) = true then
 bd (impl_HelloEnd_answered_r02_04_020_k016_m ({ a0 with Keys := x2.1, Want := x2.2.1, PeerBoot := x2.2.2.2.2.2.2.2.2.2.2.2.2.2.2.1, PeerTurn := a1.Turn, Up := (a1.Yours == a0.Boot), Left := 4, Num := x2.2.2.2.2.1, Under := (⟨x2.2.2.2.2.2.1, (⟨x2.2.2.2.2.2.2.1, x2.2.2.2.2.2.2.2.1, x2.2.2.2.2.2.2.2.2.1, x2.2.2.2.2.2.2.2.2.2.1⟩ : HelloEntry)⟩ : HelloChange), Told := x2.2.2.1, All := x2.2.2.2.2.2.2.2.2.2.2.1, Got := x2.2.2.2.2.2.2.2.2.2.2.2.1, Full := x2.2.2.2.2.2.2.2.2.2.2.2.2.1, Heard := x2.2.2.2.1, Keep := x2.2.2.2.2.2.2.2.2.2.2.2.2.2.1 })) fun x9 =>
 some (x9.Keys, x9.Want, x9.Told, x9.Heard, x9.Under.Kind, x9.Under.Entry.Addr, x9.Under.Entry.Len, x9.Under.Entry.Cost, x9.Under.Entry.Label, x9.All)
else
 some (x2.1, x2.2.1, x2.2.2.1, x2.2.2.2.1, x2.2.2.2.2.2.1, x2.2.2.2.2.2.2.1, x2.2.2.2.2.2.2.2.1, x2.2.2.2.2.2.2.2.2.1, x2.2.2.2.2.2.2.2.2.2.1, x2.2.2.2.2.2.2.2.2.2.2.1))) fun x6 =>
 bd (α := List HelloKey × List HelloEntry × List HelloEntry × List HelloRoute × Int × Bool) ((if ((a1.Change.Kind != 0) && (a1.Num == (IntKind.i64.wrap (x2.2.2.2.2.2.2.2.2.2.2.2.1 + 1)))) = true then
 bd (impl_HelloEnd_take_r02_04_016_k02_04_016_020_m ({ a0 with Keys := x6.1, Want := x6.2.1, PeerBoot := x2.2.2.2.2.2.2.2.2.2.2.2.2.2.2.1, PeerTurn := a1.Turn, Up := (a1.Yours == a0.Boot), Left := 4, Num := x2.2.2.2.2.1, Under := (⟨x6.2.2.2.2.1, (⟨x6.2.2.2.2.2.1, x6.2.2.2.2.2.2.1, x6.2.2.2.2.2.2.2.1, x6.2.2.2.2.2.2.2.2.1⟩ : HelloEntry)⟩ : HelloChange), Told := x6.2.2.1, All := x6.2.2.2.2.2.2.2.2.2, Got := x2.2.2.2.2.2.2.2.2.2.2.2.1, Full := x2.2.2.2.2.2.2.2.2.2.2.2.2.1, Heard := x6.2.2.2.1, Keep := x2.2.2.2.2.2.2.2.2.2.2.2.2.2.1 }) a1.Change) fun x14 =>
(if (((a1.Change.Kind != 0) && (a1.Num == (IntKind.i64.wrap (x2.2.2.2.2.2.2.2.2.2.2.2.1 + 1)))) && x14.1) = true then
 some (x14.2.Keys, x14.2.Want, x14.2.Told, x14.2.Heard, a1.Num, x14.2.Full)
else
 some (x14.2.Keys, x14.2.Want, x14.2.Told, x14.2.Heard, x2.2.2.2.2.2.2.2.2.2.2.2.1, x14.2.Full))
else
(if (((a1.Change.Kind != 0) && (a1.Num == (IntKind.i64.wrap (x2.2.2.2.2.2.2.2.2.2.2.2.1 + 1)))) && false) = true then
 some (x6.1, x6.2.1, x6.2.2.1, x6.2.2.2.1, a1.Num, x2.2.2.2.2.2.2.2.2.2.2.2.2.1)
else
 some (x6.1, x6.2.1, x6.2.2.1, x6.2.2.2.1, x2.2.2.2.2.2.2.2.2.2.2.2.1, x2.2.2.2.2.2.2.2.2.2.2.2.2.1)))) fun x10 =>
 bd (impl_anyStale_m x10.2.2.2.1) fun x15 =>
(if (!x15) = true then
 some ({ a0 with Keys := x10.1, Want := x10.2.1, PeerBoot := x2.2.2.2.2.2.2.2.2.2.2.2.2.2.2.1, PeerTurn := a1.Turn, Up := (a1.Yours == a0.Boot), Left := 4, Num := x2.2.2.2.2.1, Under := (⟨x6.2.2.2.2.1, (⟨x6.2.2.2.2.2.1, x6.2.2.2.2.2.2.1, x6.2.2.2.2.2.2.2.1, x6.2.2.2.2.2.2.2.2.1⟩ : HelloEntry)⟩ : HelloChange), Told := x10.2.2.1, All := x6.2.2.2.2.2.2.2.2.2, Got := x10.2.2.2.2.1, Full := x10.2.2.2.2.2, Heard := x10.2.2.2.1, Keep := 0 })
else
 some ({ a0 with Keys := x10.1, Want := x10.2.1, PeerBoot := x2.2.2.2.2.2.2.2.2.2.2.2.2.2.2.1, PeerTurn := a1.Turn, Up := (a1.Yours == a0.Boot), Left := 4, Num := x2.2.2.2.2.1, Under := (⟨x6.2.2.2.2.1, (⟨x6.2.2.2.2.2.1, x6.2.2.2.2.2.2.1, x6.2.2.2.2.2.2.2.1, x6.2.2.2.2.2.2.2.2.1⟩ : HelloEntry)⟩ : HelloChange), Told := x10.2.2.1, All := x6.2.2.2.2.2.2.2.2.2, Got := x10.2.2.2.2.1, Full := x10.2.2.2.2.2, Heard := x10.2.2.2.1, Keep := x2.2.2.2.2.2.2.2.2.2.2.2.2.2.1 }))))

theorem impl_HelloEnd_hear_r02_04_k02_04_016_020_c {a0 : HelloEnd} {a1 : HelloWord} {r : HelloEnd} (h : impl_HelloEnd_hear_r02_04_k02_04_016_020_m a0 a1 = some r) : EffC Tryz.prog 38 [.ref 9000 0 0, .agg [.d (.int .i64 a1.From), .d (.int .i64 a1.To), .d (.int .i64 a1.Key), .d (.int .i64 a1.Boot), .d (.int .i64 a1.Yours), .d (.int .i64 a1.Turn), .d (.int .i64 a1.Num), .d (.int .i64 a1.Heard), .d (.int .i64 a1.Change.Kind), .d (.int .i64 a1.Change.Entry.Addr), .d (.int .i64 a1.Change.Entry.Len), .d (.int .i64 a1.Change.Entry.Cost), .d (.int .i64 a1.Change.Entry.Label), .d (.int .i64 a1.Sum)]] [(9000, .box 41 [.d (.int .i64 a0.Name), .d (.int .i64 a0.Peer), .osl 9001 0 a0.Keys.length, .d (.int .i64 a0.Boot), .osl 9002 0 a0.Want.length, .d (.int .i64 a0.Turn), .d (.int .i64 a0.PeerBoot), .d (.int .i64 a0.PeerTurn), .d (.bool a0.Up), .d (.int .i64 a0.Left), .d (.int .i64 a0.Num), .d (.int .i64 a0.Under.Kind), .d (.int .i64 a0.Under.Entry.Addr), .d (.int .i64 a0.Under.Entry.Len), .d (.int .i64 a0.Under.Entry.Cost), .d (.int .i64 a0.Under.Entry.Label), .osl 9003 0 a0.Told.length, .d (.bool a0.All), .d (.int .i64 a0.Got), .d (.bool a0.Full), .osl 9004 0 a0.Heard.length, .d (.int .i64 a0.Keep)]), (9001, .arr 90 2 a0.Keys.length (rows HelloKey.enc a0.Keys)), (9002, .arr 36 4 a0.Want.length (rows HelloEntry.enc a0.Want)), (9003, .arr 36 4 a0.Told.length (rows HelloEntry.enc a0.Told)), (9004, .arr 94 5 a0.Heard.length (rows HelloRoute.enc a0.Heard))] (.tup []) [(9000, .box 41 [.d (.int .i64 a0.Name), .d (.int .i64 a0.Peer), .osl 5001 0 r.Keys.length, .d (.int .i64 a0.Boot), .osl 5002 0 r.Want.length, .d (.int .i64 a0.Turn), .d (.int .i64 r.PeerBoot), .d (.int .i64 r.PeerTurn), .d (.bool r.Up), .d (.int .i64 r.Left), .d (.int .i64 r.Num), .d (.int .i64 r.Under.Kind), .d (.int .i64 r.Under.Entry.Addr), .d (.int .i64 r.Under.Entry.Len), .d (.int .i64 r.Under.Entry.Cost), .d (.int .i64 r.Under.Entry.Label), .osl 5003 0 r.Told.length, .d (.bool r.All), .d (.int .i64 r.Got), .d (.bool r.Full), .osl 5004 0 r.Heard.length, .d (.int .i64 r.Keep)]), (5001, .arr 90 2 r.Keys.length (rows HelloKey.enc r.Keys)), (5002, .arr 36 4 r.Want.length (rows HelloEntry.enc r.Want)), (5003, .arr 36 4 r.Told.length (rows HelloEntry.enc r.Told)), (5004, .arr 94 5 r.Heard.length (rows HelloRoute.enc r.Heard))] := by
  refine effC_x tOk (fn := Tryz.f38) (c := codeOf Tryz.f38) rfl rfl ?_
  unfold impl_HelloEnd_hear_r02_04_k02_04_016_020_m at h
  conv => whnf
  refine seq_in tOk ?_
  conv => whnf
  obtain ⟨x1, hx1, h⟩ := bd_some h
  refine cC 0 (impl_HelloEnd_isNew_c hx1) ?_
  clear hx1
  conv => whnf
  refine andI h (fun _ h => ?_) (fun _ h => ?_)
  · conv => whnf
    obtain rfl := Option.some.inj h
    exact lfE [.s [(5001, 9001), (5002, 9002), (5003, 9003), (5004, 9004), (9001, 5001), (9002, 5002), (9003, 5003), (9004, 5004)]]
  · conv => whnf
    obtain ⟨x2, hx2, h⟩ := bd_some h
    refine seq_join tOk (fun s3 => ⟨0, 96, [(0, .ref 9000 0 0), (3, .ref 3 0 0)], [], [(6001, .arr 90 2 s3.1.length (rows HelloKey.enc s3.1)), (6002, .arr 36 4 s3.2.1.length (rows HelloEntry.enc s3.2.1)), (6003, .arr 36 4 s3.2.2.1.length (rows HelloEntry.enc s3.2.2.1)), (6004, .arr 94 5 s3.2.2.2.1.length (rows HelloRoute.enc s3.2.2.2.1)), (3, .box 45 [.d (.int .i64 a1.From), .d (.int .i64 a1.To), .d (.int .i64 a1.Key), .d (.int .i64 a1.Boot), .d (.int .i64 a1.Yours), .d (.int .i64 a1.Turn), .d (.int .i64 a1.Num), .d (.int .i64 a1.Heard), .d (.int .i64 a1.Change.Kind), .d (.int .i64 a1.Change.Entry.Addr), .d (.int .i64 a1.Change.Entry.Len), .d (.int .i64 a1.Change.Entry.Cost), .d (.int .i64 a1.Change.Entry.Label), .d (.int .i64 a1.Sum)]), (9000, .box 41 [.d (.int .i64 a0.Name), .d (.int .i64 a0.Peer), .osl 6001 0 s3.1.length, .d (.int .i64 a0.Boot), .osl 6002 0 s3.2.1.length, .d (.int .i64 a0.Turn), .d (.int .i64 s3.2.2.2.2.2.2.2.2.2.2.2.2.2.2.1), .d (.int .i64 a0.PeerTurn), .d (.bool s3.2.2.2.2.2.2.2.2.2.2.2.2.2.2.2), .d (.int .i64 a0.Left), .d (.int .i64 s3.2.2.2.2.1), .d (.int .i64 s3.2.2.2.2.2.1), .d (.int .i64 s3.2.2.2.2.2.2.1), .d (.int .i64 s3.2.2.2.2.2.2.2.1), .d (.int .i64 s3.2.2.2.2.2.2.2.2.1), .d (.int .i64 s3.2.2.2.2.2.2.2.2.2.1), .osl 6003 0 s3.2.2.1.length, .d (.bool s3.2.2.2.2.2.2.2.2.2.2.1), .d (.int .i64 s3.2.2.2.2.2.2.2.2.2.2.2.1), .d (.bool s3.2.2.2.2.2.2.2.2.2.2.2.2.1), .osl 6004 0 s3.2.2.2.1.length, .d (.int .i64 s3.2.2.2.2.2.2.2.2.2.2.2.2.2.1)])], [⟨[(0, .ref 9000 0 0)], []⟩]⟩) (fun s3 => x2 = s3) ?_ ?_
    · conv => whnf
      refine draw_u tOk [] 7 [] [0, 1, 0, 4, 12, 28, 63] [] ?_
      conv => whnf
      refine And.intro (by kernel_rfl) ?_
      conv => whnf
      refine andI hx2 (fun _ hx2 => ?_) (fun _ hx2 => ?_)
      · conv => whnf
        obtain ⟨x5, hx5, hx2⟩ := bd_some hx2
        refine callFz [9003] ?_
        conv => whnf
        refine cE2 [(9000, 9000), (9001, 9001), (9002, 9002), (9003, 9004)] 1000 (impl_HelloEnd_beginAnew_r02_04_k016_c hx5) ?_
        conv => whnf
        obtain rfl := Option.some.inj hx2
        exact ⟨_, rfl, leX []⟩
      · conv => whnf
        obtain rfl := Option.some.inj hx2
        exact ⟨_, rfl, leX [.s [(6001, 9001), (6002, 9002), (6003, 9003), (6004, 9004), (9001, 6001), (9002, 6002), (9003, 6003), (9004, 6004)]]⟩
    · rintro _ rfl
      conv => whnf
      refine draw_t tOk [.l 10 [(9000, .box 41 [.d (.int .i64 a0.Name), .d (.int .i64 a0.Peer), .osl 6001 0 x2.1.length, .d (.int .i64 a0.Boot), .osl 6002 0 x2.2.1.length, .d (.int .i64 a0.Turn), .d (.int .i64 x2.2.2.2.2.2.2.2.2.2.2.2.2.2.2.1), .d (.int .i64 a0.PeerTurn), .d (.bool x2.2.2.2.2.2.2.2.2.2.2.2.2.2.2.2), .d (.int .i64 a0.Left), .d (.int .i64 x2.2.2.2.2.1), .d (.int .i64 x2.2.2.2.2.2.1), .d (.int .i64 x2.2.2.2.2.2.2.1), .d (.int .i64 x2.2.2.2.2.2.2.2.1), .d (.int .i64 x2.2.2.2.2.2.2.2.2.1), .d (.int .i64 x2.2.2.2.2.2.2.2.2.2.1), .osl 6003 0 x2.2.2.1.length, .d (.bool x2.2.2.2.2.2.2.2.2.2.2.1), .d (.int .i64 x2.2.2.2.2.2.2.2.2.2.2.2.1), .d (.bool x2.2.2.2.2.2.2.2.2.2.2.2.2.1), .osl 6004 0 x2.2.2.2.1.length, .d (.int .i64 x2.2.2.2.2.2.2.2.2.2.2.2.2.2.1)])] (.d (.int .i64 a0.Boot)), .a 14 [(9000, .box 41 [.d (.int .i64 a0.Name), .d (.int .i64 a0.Peer), .osl 6001 0 x2.1.length, .d (.int .i64 a0.Boot), .osl 6002 0 x2.2.1.length, .d (.int .i64 a0.Turn), .d (.int .i64 x2.2.2.2.2.2.2.2.2.2.2.2.2.2.2.1), .d (.int .i64 a0.PeerTurn), .d (.bool x2.2.2.2.2.2.2.2.2.2.2.2.2.2.2.2), .d (.int .i64 a0.Left), .d (.int .i64 x2.2.2.2.2.1), .d (.int .i64 x2.2.2.2.2.2.1), .d (.int .i64 x2.2.2.2.2.2.2.1), .d (.int .i64 x2.2.2.2.2.2.2.2.1), .d (.int .i64 x2.2.2.2.2.2.2.2.2.1), .d (.int .i64 x2.2.2.2.2.2.2.2.2.2.1), .osl 6003 0 x2.2.2.1.length, .d (.bool x2.2.2.2.2.2.2.2.2.2.2.1), .d (.int .i64 x2.2.2.2.2.2.2.2.2.2.2.2.1), .d (.bool x2.2.2.2.2.2.2.2.2.2.2.2.2.1), .osl 6004 0 x2.2.2.2.1.length, .d (.int .i64 x2.2.2.2.2.2.2.2.2.2.2.2.2.2.1)])] (.any) [(9000, .box 41 [.d (.int .i64 a0.Name), .d (.int .i64 a0.Peer), .osl 6001 0 x2.1.length, .d (.int .i64 a0.Boot), .osl 6002 0 x2.2.1.length, .d (.int .i64 a0.Turn), .d (.int .i64 x2.2.2.2.2.2.2.2.2.2.2.2.2.2.2.1), .d (.int .i64 a1.Turn), .d (.bool x2.2.2.2.2.2.2.2.2.2.2.2.2.2.2.2), .d (.int .i64 a0.Left), .d (.int .i64 x2.2.2.2.2.1), .d (.int .i64 x2.2.2.2.2.2.1), .d (.int .i64 x2.2.2.2.2.2.2.1), .d (.int .i64 x2.2.2.2.2.2.2.2.1), .d (.int .i64 x2.2.2.2.2.2.2.2.2.1), .d (.int .i64 x2.2.2.2.2.2.2.2.2.2.1), .osl 6003 0 x2.2.2.1.length, .d (.bool x2.2.2.2.2.2.2.2.2.2.2.1), .d (.int .i64 x2.2.2.2.2.2.2.2.2.2.2.2.1), .d (.bool x2.2.2.2.2.2.2.2.2.2.2.2.2.1), .osl 6004 0 x2.2.2.2.1.length, .d (.int .i64 x2.2.2.2.2.2.2.2.2.2.2.2.2.2.1)])], .a 17 [(9000, .box 41 [.d (.int .i64 a0.Name), .d (.int .i64 a0.Peer), .osl 6001 0 x2.1.length, .d (.int .i64 a0.Boot), .osl 6002 0 x2.2.1.length, .d (.int .i64 a0.Turn), .d (.int .i64 x2.2.2.2.2.2.2.2.2.2.2.2.2.2.2.1), .d (.int .i64 a1.Turn), .d (.bool x2.2.2.2.2.2.2.2.2.2.2.2.2.2.2.2), .d (.int .i64 a0.Left), .d (.int .i64 x2.2.2.2.2.1), .d (.int .i64 x2.2.2.2.2.2.1), .d (.int .i64 x2.2.2.2.2.2.2.1), .d (.int .i64 x2.2.2.2.2.2.2.2.1), .d (.int .i64 x2.2.2.2.2.2.2.2.2.1), .d (.int .i64 x2.2.2.2.2.2.2.2.2.2.1), .osl 6003 0 x2.2.2.1.length, .d (.bool x2.2.2.2.2.2.2.2.2.2.2.1), .d (.int .i64 x2.2.2.2.2.2.2.2.2.2.2.2.1), .d (.bool x2.2.2.2.2.2.2.2.2.2.2.2.2.1), .osl 6004 0 x2.2.2.2.1.length, .d (.int .i64 x2.2.2.2.2.2.2.2.2.2.2.2.2.2.1)])] (.any) [(9000, .box 41 [.d (.int .i64 a0.Name), .d (.int .i64 a0.Peer), .osl 6001 0 x2.1.length, .d (.int .i64 a0.Boot), .osl 6002 0 x2.2.1.length, .d (.int .i64 a0.Turn), .d (.int .i64 x2.2.2.2.2.2.2.2.2.2.2.2.2.2.2.1), .d (.int .i64 a1.Turn), .d (.bool x2.2.2.2.2.2.2.2.2.2.2.2.2.2.2.2), .d (.int .i64 4), .d (.int .i64 x2.2.2.2.2.1), .d (.int .i64 x2.2.2.2.2.2.1), .d (.int .i64 x2.2.2.2.2.2.2.1), .d (.int .i64 x2.2.2.2.2.2.2.2.1), .d (.int .i64 x2.2.2.2.2.2.2.2.2.1), .d (.int .i64 x2.2.2.2.2.2.2.2.2.2.1), .osl 6003 0 x2.2.2.1.length, .d (.bool x2.2.2.2.2.2.2.2.2.2.2.1), .d (.int .i64 x2.2.2.2.2.2.2.2.2.2.2.2.1), .d (.bool x2.2.2.2.2.2.2.2.2.2.2.2.2.1), .osl 6004 0 x2.2.2.2.1.length, .d (.int .i64 x2.2.2.2.2.2.2.2.2.2.2.2.2.2.1)])], .a 20 [(9000, .box 41 [.d (.int .i64 a0.Name), .d (.int .i64 a0.Peer), .osl 6001 0 x2.1.length, .d (.int .i64 a0.Boot), .osl 6002 0 x2.2.1.length, .d (.int .i64 a0.Turn), .d (.int .i64 x2.2.2.2.2.2.2.2.2.2.2.2.2.2.2.1), .d (.int .i64 a1.Turn), .d (.bool x2.2.2.2.2.2.2.2.2.2.2.2.2.2.2.2), .d (.int .i64 4), .d (.int .i64 x2.2.2.2.2.1), .d (.int .i64 x2.2.2.2.2.2.1), .d (.int .i64 x2.2.2.2.2.2.2.1), .d (.int .i64 x2.2.2.2.2.2.2.2.1), .d (.int .i64 x2.2.2.2.2.2.2.2.2.1), .d (.int .i64 x2.2.2.2.2.2.2.2.2.2.1), .osl 6003 0 x2.2.2.1.length, .d (.bool x2.2.2.2.2.2.2.2.2.2.2.1), .d (.int .i64 x2.2.2.2.2.2.2.2.2.2.2.2.1), .d (.bool x2.2.2.2.2.2.2.2.2.2.2.2.2.1), .osl 6004 0 x2.2.2.2.1.length, .d (.int .i64 x2.2.2.2.2.2.2.2.2.2.2.2.2.2.1)])] (.any) [(9000, .box 41 [.d (.int .i64 a0.Name), .d (.int .i64 a0.Peer), .osl 6001 0 x2.1.length, .d (.int .i64 a0.Boot), .osl 6002 0 x2.2.1.length, .d (.int .i64 a0.Turn), .d (.int .i64 x2.2.2.2.2.2.2.2.2.2.2.2.2.2.2.1), .d (.int .i64 a1.Turn), .d (.bool (a1.Yours == a0.Boot)), .d (.int .i64 4), .d (.int .i64 x2.2.2.2.2.1), .d (.int .i64 x2.2.2.2.2.2.1), .d (.int .i64 x2.2.2.2.2.2.2.1), .d (.int .i64 x2.2.2.2.2.2.2.2.1), .d (.int .i64 x2.2.2.2.2.2.2.2.2.1), .d (.int .i64 x2.2.2.2.2.2.2.2.2.2.1), .osl 6003 0 x2.2.2.1.length, .d (.bool x2.2.2.2.2.2.2.2.2.2.2.1), .d (.int .i64 x2.2.2.2.2.2.2.2.2.2.2.2.1), .d (.bool x2.2.2.2.2.2.2.2.2.2.2.2.2.1), .osl 6004 0 x2.2.2.2.1.length, .d (.int .i64 x2.2.2.2.2.2.2.2.2.2.2.2.2.2.1)])]] 21 [] [0, 0, 0, 0, 8, 0, 32, 0, 128, 384, 896, 2016, 1945, 6041, 14233, 30619, 63387, 128923, 262143, 524287, 1048575] [] [9000] ?_
      conv => whnf
      refine And.intro (by (conv => whnf); exact ⟨rfl, rfl⟩) ?_
      conv => whnf
      refine And.intro (by (conv => whnf); exact ⟨rfl, rfl⟩) ?_
      conv => whnf
      refine And.intro (by (conv => whnf); exact ⟨rfl, rfl⟩) ?_
      conv => whnf
      refine And.intro (by (conv => whnf); exact ⟨rfl, rfl⟩) ?_
      conv => whnf
      refine And.intro (by kernel_rfl) ?_
      conv => whnf
      refine seq_in tOk ?_
      conv => whnf
      refine andI h (fun _ h => ?_) (fun _ h => ?_)
      · conv => whnf
        obtain rfl := Option.some.inj h
        exact lfE [.s [(5001, 6001), (5002, 6002), (5003, 6003), (5004, 6004), (6001, 5001), (6002, 5002), (6003, 5003), (6004, 5004)]]
      · conv => whnf
        obtain ⟨x6, hx6, h⟩ := bd_some h
        refine seq_join tOk (fun s7 => ⟨0, 96, [(0, .ref 9000 0 0), (3, .ref 3 0 0)], [], [(7001, .arr 90 2 s7.1.length (rows HelloKey.enc s7.1)), (7002, .arr 36 4 s7.2.1.length (rows HelloEntry.enc s7.2.1)), (7003, .arr 36 4 s7.2.2.1.length (rows HelloEntry.enc s7.2.2.1)), (7004, .arr 94 5 s7.2.2.2.1.length (rows HelloRoute.enc s7.2.2.2.1)), (3, .box 45 [.d (.int .i64 a1.From), .d (.int .i64 a1.To), .d (.int .i64 a1.Key), .d (.int .i64 a1.Boot), .d (.int .i64 a1.Yours), .d (.int .i64 a1.Turn), .d (.int .i64 a1.Num), .d (.int .i64 a1.Heard), .d (.int .i64 a1.Change.Kind), .d (.int .i64 a1.Change.Entry.Addr), .d (.int .i64 a1.Change.Entry.Len), .d (.int .i64 a1.Change.Entry.Cost), .d (.int .i64 a1.Change.Entry.Label), .d (.int .i64 a1.Sum)]), (9000, .box 41 [.d (.int .i64 a0.Name), .d (.int .i64 a0.Peer), .osl 7001 0 s7.1.length, .d (.int .i64 a0.Boot), .osl 7002 0 s7.2.1.length, .d (.int .i64 a0.Turn), .d (.int .i64 x2.2.2.2.2.2.2.2.2.2.2.2.2.2.2.1), .d (.int .i64 a1.Turn), .d (.bool (a1.Yours == a0.Boot)), .d (.int .i64 4), .d (.int .i64 x2.2.2.2.2.1), .d (.int .i64 s7.2.2.2.2.1), .d (.int .i64 s7.2.2.2.2.2.1), .d (.int .i64 s7.2.2.2.2.2.2.1), .d (.int .i64 s7.2.2.2.2.2.2.2.1), .d (.int .i64 s7.2.2.2.2.2.2.2.2.1), .osl 7003 0 s7.2.2.1.length, .d (.bool s7.2.2.2.2.2.2.2.2.2), .d (.int .i64 x2.2.2.2.2.2.2.2.2.2.2.2.1), .d (.bool x2.2.2.2.2.2.2.2.2.2.2.2.2.1), .osl 7004 0 s7.2.2.2.1.length, .d (.int .i64 x2.2.2.2.2.2.2.2.2.2.2.2.2.2.1)])], [⟨[(0, .ref 9000 0 0)], []⟩]⟩) (fun s7 => x6 = s7) ?_ ?_
        · conv => whnf
          refine draw_u tOk [] 15 [] [0, 1, 3, 7, 15, 31, 63, 127, 255, 127, 639, 1663, 3711, 8191, 16383] [] ?_
          conv => whnf
          refine And.intro (by kernel_rfl) ?_
          conv => whnf
          refine andI hx6 (fun _ hx6 => ?_) (fun _ hx6 => ?_)
          · conv => whnf
            obtain ⟨x9, hx9, hx6⟩ := bd_some hx6
            refine callFz [6003] ?_
            conv => whnf
            refine cE2 [(9000, 9000), (9001, 6001), (9002, 6002), (9003, 6004)] 2000 (impl_HelloEnd_answered_r02_04_020_k016_c hx9) ?_
            conv => whnf
            obtain rfl := Option.some.inj hx6
            exact ⟨_, rfl, leX []⟩
          · conv => whnf
            obtain rfl := Option.some.inj hx6
            exact ⟨_, rfl, leX [.s [(6001, 7001), (6002, 7002), (6003, 7003), (6004, 7004), (7001, 6001), (7002, 6002), (7003, 6003), (7004, 6004)]]⟩
        · rintro _ rfl
          conv => whnf
          obtain ⟨x10, hx10, h⟩ := bd_some h
          refine seq_join tOk (fun s11 => ⟨0, 96, [(0, .ref 9000 0 0)], [], [(6001, .arr 90 2 s11.1.length (rows HelloKey.enc s11.1)), (6002, .arr 36 4 s11.2.1.length (rows HelloEntry.enc s11.2.1)), (6003, .arr 36 4 s11.2.2.1.length (rows HelloEntry.enc s11.2.2.1)), (6004, .arr 94 5 s11.2.2.2.1.length (rows HelloRoute.enc s11.2.2.2.1)), (9000, .box 41 [.d (.int .i64 a0.Name), .d (.int .i64 a0.Peer), .osl 6001 0 s11.1.length, .d (.int .i64 a0.Boot), .osl 6002 0 s11.2.1.length, .d (.int .i64 a0.Turn), .d (.int .i64 x2.2.2.2.2.2.2.2.2.2.2.2.2.2.2.1), .d (.int .i64 a1.Turn), .d (.bool (a1.Yours == a0.Boot)), .d (.int .i64 4), .d (.int .i64 x2.2.2.2.2.1), .d (.int .i64 x6.2.2.2.2.1), .d (.int .i64 x6.2.2.2.2.2.1), .d (.int .i64 x6.2.2.2.2.2.2.1), .d (.int .i64 x6.2.2.2.2.2.2.2.1), .d (.int .i64 x6.2.2.2.2.2.2.2.2.1), .osl 6003 0 s11.2.2.1.length, .d (.bool x6.2.2.2.2.2.2.2.2.2), .d (.int .i64 s11.2.2.2.2.1), .d (.bool s11.2.2.2.2.2), .osl 6004 0 s11.2.2.2.1.length, .d (.int .i64 x2.2.2.2.2.2.2.2.2.2.2.2.2.2.1)])], [⟨[(0, .ref 9000 0 0)], []⟩]⟩) (fun s11 => x10 = s11) ?_ ?_
          · conv => whnf
            refine draw_u tOk [] 18 [] [0, 1, 3, 7, 15, 31, 63, 31, 159, 415, 927, 1951, 4095, 8191, 16383, 32767, 32767, 98303] [262143, 524287] ?_
            conv => whnf
            refine And.intro (by kernel_rfl) ?_
            conv => whnf
            refine spI hx10 (fun hb13 hx10 => ?_) (fun hb13 hx10 => ?_)
            · obtain ⟨x14, hx14, hx10⟩ := bd_some hx10
              refine callG_t [(9000, 9000), (9001, 7001), (9002, 7002), (9003, 7003), (9004, 7004)] 1000 (impl_HelloEnd_take_r02_04_016_k02_04_016_020_c hx14) (by (conv => whnf); exact fun q => absurd (q.symm.trans hb13) (by decide)) ?_
              conv => whnf
              refine andI hx10 (fun _ hx10 => ?_) (fun _ hx10 => ?_)
              · conv => whnf
                obtain rfl := Option.some.inj hx10
                exact ⟨_, rfl, leX []⟩
              · conv => whnf
                obtain rfl := Option.some.inj hx10
                exact ⟨_, rfl, leX []⟩
            · refine callG_no (.d (.bool false)) ?_ (by (conv => whnf); exact fun q => absurd (hb13.symm.trans q) (by decide))
              conv => whnf
              refine andI hx10 (fun _ hx10 => ?_) (fun _ hx10 => ?_)
              · conv => whnf
                obtain rfl := Option.some.inj hx10
                exact ⟨_, rfl, leX [.s [(6001, 7001), (6002, 7002), (6003, 7003), (6004, 7004), (7001, 6001), (7002, 6002), (7003, 6003), (7004, 6004)]]⟩
              · conv => whnf
                obtain rfl := Option.some.inj hx10
                exact ⟨_, rfl, leX [.s [(6001, 7001), (6002, 7002), (6003, 7003), (6004, 7004), (7001, 6001), (7002, 6002), (7003, 6003), (7004, 6004)]]⟩
          · rintro _ rfl
            conv => whnf
            obtain ⟨x15, hx15, h⟩ := bd_some h
            refine cC 0 (impl_anyStale_c hx15) ?_
            clear hx15
            conv => whnf
            refine andI h (fun _ h => ?_) (fun _ h => ?_)
            · conv => whnf
              obtain rfl := Option.some.inj h
              exact lfE [.s [(5001, 6001), (5002, 6002), (5003, 6003), (5004, 6004), (6001, 5001), (6002, 5002), (6003, 5003), (6004, 5004)]]
            · conv => whnf
              obtain rfl := Option.some.inj h
              exact lfE [.s [(5001, 6001), (5002, 6002), (5003, 6003), (5004, 6004), (6001, 5001), (6002, 5002), (6003, 5003), (6004, 5004)]]

noncomputable def impl_HelloHear_pu_o02_04_016_020_m (a0 : HelloEnd) (a1 : HelloWord) : Option (HelloEnd) :=
 bd (impl_HelloEndOk_m a0) fun x1 =>
(if (!x1) = true then
 some (⟨0, 0, [], 0, [], 0, 0, 0, false, 0, 0, (⟨0, (⟨0, 0, 0, 0⟩ : HelloEntry)⟩ : HelloChange), [], false, 0, false, [], 0⟩ : HelloEnd)
else
 bd (impl_copyEnd_m a0) fun x2 =>
 bd (impl_HelloEnd_hear_r02_04_k02_04_016_020_m x2 a1) fun x3 =>
 some ({ x3 with Name := x2.Name, Peer := x2.Peer, Boot := x2.Boot, Turn := x2.Turn }))

theorem impl_HelloHear_pu_o02_04_016_020_c {a0 : HelloEnd} {a1 : HelloWord} {r : HelloEnd} (h : impl_HelloHear_pu_o02_04_016_020_m a0 a1 = some r) : PureC Tryz.prog 11 [.agg [.d (.int .i64 a0.Name), .d (.int .i64 a0.Peer), .d (slD HelloKey.enc a0.Keys), .d (.int .i64 a0.Boot), .d (slD HelloEntry.enc a0.Want), .d (.int .i64 a0.Turn), .d (.int .i64 a0.PeerBoot), .d (.int .i64 a0.PeerTurn), .d (.bool a0.Up), .d (.int .i64 a0.Left), .d (.int .i64 a0.Num), .d (.int .i64 a0.Under.Kind), .d (.int .i64 a0.Under.Entry.Addr), .d (.int .i64 a0.Under.Entry.Len), .d (.int .i64 a0.Under.Entry.Cost), .d (.int .i64 a0.Under.Entry.Label), .d (slD HelloEntry.enc a0.Told), .d (.bool a0.All), .d (.int .i64 a0.Got), .d (.bool a0.Full), .d (slD HelloRoute.enc a0.Heard), .d (.int .i64 a0.Keep)], .agg [.d (.int .i64 a1.From), .d (.int .i64 a1.To), .d (.int .i64 a1.Key), .d (.int .i64 a1.Boot), .d (.int .i64 a1.Yours), .d (.int .i64 a1.Turn), .d (.int .i64 a1.Num), .d (.int .i64 a1.Heard), .d (.int .i64 a1.Change.Kind), .d (.int .i64 a1.Change.Entry.Addr), .d (.int .i64 a1.Change.Entry.Len), .d (.int .i64 a1.Change.Entry.Cost), .d (.int .i64 a1.Change.Entry.Label), .d (.int .i64 a1.Sum)]] (.agg [.d (.int .i64 r.Name), .d (.int .i64 r.Peer), .osl 5001 0 r.Keys.length, .d (.int .i64 r.Boot), .osl 5002 0 r.Want.length, .d (.int .i64 r.Turn), .d (.int .i64 r.PeerBoot), .d (.int .i64 r.PeerTurn), .d (.bool r.Up), .d (.int .i64 r.Left), .d (.int .i64 r.Num), .d (.int .i64 r.Under.Kind), .d (.int .i64 r.Under.Entry.Addr), .d (.int .i64 r.Under.Entry.Len), .d (.int .i64 r.Under.Entry.Cost), .d (.int .i64 r.Under.Entry.Label), .osl 5003 0 r.Told.length, .d (.bool r.All), .d (.int .i64 r.Got), .d (.bool r.Full), .osl 5004 0 r.Heard.length, .d (.int .i64 r.Keep)]) [⟨5001, 90, 2, r.Keys.length, rows HelloKey.enc r.Keys⟩, ⟨5002, 36, 4, r.Want.length, rows HelloEntry.enc r.Want⟩, ⟨5003, 36, 4, r.Told.length, rows HelloEntry.enc r.Told⟩, ⟨5004, 94, 5, r.Heard.length, rows HelloRoute.enc r.Heard⟩] := by
  refine EffC.pure (M := [(5001, .arr 90 2 r.Keys.length (rows HelloKey.enc r.Keys)), (5002, .arr 36 4 r.Want.length (rows HelloEntry.enc r.Want)), (5003, .arr 36 4 r.Told.length (rows HelloEntry.enc r.Told)), (5004, .arr 94 5 r.Heard.length (rows HelloRoute.enc r.Heard))]) ?_
  refine effC_x tOk (fn := Tryz.f11) (c := codeOf Tryz.f11) rfl rfl ?_
  unfold impl_HelloHear_pu_o02_04_016_020_m at h
  conv => whnf
  refine seq_in tOk ?_
  conv => whnf
  obtain ⟨x1, hx1, h⟩ := bd_some h
  refine cC 0 (impl_HelloEndOk_c hx1) ?_
  clear hx1
  conv => whnf
  refine andI h (fun _ h => ?_) (fun _ h => ?_)
  · conv => whnf
    obtain rfl := Option.some.inj h
    exact lfE [.k [2, 3], .p 5001 90 2 (rows HelloKey.enc ([] : List HelloKey)), .p 5002 36 4 (rows HelloEntry.enc ([] : List HelloEntry)), .p 5003 36 4 (rows HelloEntry.enc ([] : List HelloEntry)), .p 5004 94 5 (rows HelloRoute.enc ([] : List HelloRoute))]
  · conv => whnf
    obtain ⟨x2, hx2, h⟩ := bd_some h
    refine cC 1000 (impl_copyEnd_c hx2) ?_
    clear hx2
    conv => whnf
    obtain ⟨x3, hx3, h⟩ := bd_some h
    refine cE2 [(9000, 5), (9001, 6001), (9002, 6002), (9003, 6003), (9004, 6004)] 2000 (impl_HelloEnd_hear_r02_04_k02_04_016_020_c hx3) ?_
    conv => whnf
    obtain rfl := Option.some.inj h
    exact lfE [.s [(5001, 7001), (5002, 7002), (5003, 7003), (5004, 7004), (7001, 5001), (7002, 5002), (7003, 5003), (7004, 5004)]]

noncomputable def laws_eqHelloKey_m (a0 : HelloKey) (a1 : HelloKey) : Option (Bool) :=
(if (a0.Id != a1.Id) = true then
 some false
else
(if (a0.Secret != a1.Secret) = true then
 some false
else
 some true))

theorem laws_eqHelloKey_c {a0 : HelloKey} {a1 : HelloKey} {r : Bool} (h : laws_eqHelloKey_m a0 a1 = some r) : PureC Tryz.prog 94 [.agg [.d (.int .i64 a0.Id), .d (.int .i64 a0.Secret)], .agg [.d (.int .i64 a1.Id), .d (.int .i64 a1.Secret)]] (.d (.bool r)) [] := by
  refine pureC_x tOk (fn := Tryz.f94) (c := codeOf Tryz.f94) rfl rfl ?_
  unfold laws_eqHelloKey_m at h
  conv => whnf
  refine seq_in tOk ?_
  conv => whnf
  refine andI h (fun _ h => ?_) (fun _ h => ?_)
  · conv => whnf
    obtain rfl := Option.some.inj h
    exact lfP []
  · conv => whnf
    refine seq_in tOk ?_
    conv => whnf
    refine andI h (fun _ h => ?_) (fun _ h => ?_)
    · conv => whnf
      obtain rfl := Option.some.inj h
      exact lfP []
    · conv => whnf
      obtain rfl := Option.some.inj h
      exact lfP []

noncomputable def laws_eqHelloKeyS_m (a0 : (List HelloKey)) (a1 : (List HelloKey)) : Option (Bool) :=
(if (((a0.length : Nat) : Int) != ((a1.length : Nat) : Int)) = true then
 some false
else
 bd (lp (σ := Int) (β := (Unit ⊕ Unit)) (fun s1 =>
(if (decide (s1 < ((a0.length : Nat) : Int))) = true then
 gd ((0 : Int) ≤ s1 ∧ s1 < ((a0.length : Nat) : Int)) <|
 gd ((0 : Int) ≤ s1 ∧ s1 < ((a1.length : Nat) : Int)) <|
 bd (laws_eqHelloKey_m (a0.getD s1.toNat default) (a1.getD s1.toNat default)) fun x7 =>
(if (!x7) = true then
 some (.inr (.inl ()))
else
 some (.inl (IntKind.i64.wrap (s1 + 1))))
else
 some (.inr (.inr ())))) 0) fun x4 =>
(match x4 with
| .inl d8 =>
 some false
| .inr d9 =>
 some true))

theorem laws_eqHelloKeyS_c {a0 : (List HelloKey)} {a1 : (List HelloKey)} {r : Bool} (h : laws_eqHelloKeyS_m a0 a1 = some r) : PureC Tryz.prog 39 [.d (slD HelloKey.enc a0), .d (slD HelloKey.enc a1)] (.d (.bool r)) [] := by
  refine pureC_x tOk (fn := Tryz.f39) (c := codeOf Tryz.f39) rfl rfl ?_
  unfold laws_eqHelloKeyS_m at h
  conv => whnf
  refine seq_in tOk ?_
  conv => whnf
  refine andI h (fun _ h => ?_) (fun _ h => ?_)
  · conv => whnf
    obtain rfl := Option.some.inj h
    exact lfP []
  · conv => whnf
    refine seq_in tOk ?_
    conv => whnf
    obtain ⟨x4, hx4, h⟩ := bd_some h
    refine loop_m tOk hx4 (fun s1 => ⟨0, 27, [(0, .d (slD HelloKey.enc a0)), (1, .d (slD HelloKey.enc a1)), (5, .d (.int .i64 s1))], [], [], []⟩) ?_ ?_
    · exact leX []
    · clear hx4
      intro s1 y2 g3 hy2
      conv => whnf
      refine seq_in tOk ?_
      conv => whnf
      refine andI g3 (fun _ g3 => ?_) (fun _ g3 => ?_)
      · conv => whnf
        refine seq_in tOk ?_
        conv => whnf
        obtain ⟨g5, g3⟩ := gd_some g3
        obtain ⟨g6, g3⟩ := gd_some g3
        obtain ⟨x7, hx7, g3⟩ := bd_some g3
        refine draw_u tOk [.u 8 0 (.d (.bool x7)) []] 10 [] [0, 0, 3, 7, 0, 0, 48, 112, 255, 511] [] ?_
        conv => whnf
        refine And.intro g5 ?_
        clear g5
        conv => whnf
        refine And.intro g6 ?_
        clear g6
        conv => whnf
        refine And.intro (callD_any (laws_eqHelloKey_c hx7) (by kernel_rfl)) ?_
        conv => whnf
        refine And.intro (by kernel_rfl) ?_
        conv => whnf
        refine andI g3 (fun _ g3 => ?_) (fun _ g3 => ?_)
        · conv => whnf
          obtain rfl := Option.some.inj g3
          obtain rfl := hy2 _ rfl
          obtain rfl := Option.some.inj h
          exact lfP []
        · conv => whnf
          obtain rfl := Option.some.inj g3
          exact ⟨_, rfl, leX []⟩
      · conv => whnf
        obtain rfl := Option.some.inj g3
        obtain rfl := hy2 _ rfl
        obtain rfl := Option.some.inj h
        exact lfP []

noncomputable def laws_eqHelloEntry_m (a0 : HelloEntry) (a1 : HelloEntry) : Option (Bool) :=
(if (a0.Addr != a1.Addr) = true then
 some false
else
(if (a0.Len != a1.Len) = true then
 some false
else
(if (a0.Cost != a1.Cost) = true then
 some false
else
(if (a0.Label != a1.Label) = true then
 some false
else
 some true))))

theorem laws_eqHelloEntry_c {a0 : HelloEntry} {a1 : HelloEntry} {r : Bool} (h : laws_eqHelloEntry_m a0 a1 = some r) : PureC Tryz.prog 95 [.agg [.d (.int .i64 a0.Addr), .d (.int .i64 a0.Len), .d (.int .i64 a0.Cost), .d (.int .i64 a0.Label)], .agg [.d (.int .i64 a1.Addr), .d (.int .i64 a1.Len), .d (.int .i64 a1.Cost), .d (.int .i64 a1.Label)]] (.d (.bool r)) [] := by
  refine pureC_x tOk (fn := Tryz.f95) (c := codeOf Tryz.f95) rfl rfl ?_
  unfold laws_eqHelloEntry_m at h
  conv => whnf
  refine seq_in tOk ?_
  conv => whnf
  refine andI h (fun _ h => ?_) (fun _ h => ?_)
  · conv => whnf
    obtain rfl := Option.some.inj h
    exact lfP []
  · conv => whnf
    refine seq_in tOk ?_
    conv => whnf
    refine andI h (fun _ h => ?_) (fun _ h => ?_)
    · conv => whnf
      obtain rfl := Option.some.inj h
      exact lfP []
    · conv => whnf
      refine seq_in tOk ?_
      conv => whnf
      refine andI h (fun _ h => ?_) (fun _ h => ?_)
      · conv => whnf
        obtain rfl := Option.some.inj h
        exact lfP []
      · conv => whnf
        refine seq_in tOk ?_
        conv => whnf
        refine andI h (fun _ h => ?_) (fun _ h => ?_)
        · conv => whnf
          obtain rfl := Option.some.inj h
          exact lfP []
        · conv => whnf
          obtain rfl := Option.some.inj h
          exact lfP []

noncomputable def laws_eqHelloEntryS_m (a0 : (List HelloEntry)) (a1 : (List HelloEntry)) : Option (Bool) :=
(if (((a0.length : Nat) : Int) != ((a1.length : Nat) : Int)) = true then
 some false
else
 bd (lp (σ := Int) (β := (Unit ⊕ Unit)) (fun s1 =>
(if (decide (s1 < ((a0.length : Nat) : Int))) = true then
 gd ((0 : Int) ≤ s1 ∧ s1 < ((a0.length : Nat) : Int)) <|
 gd ((0 : Int) ≤ s1 ∧ s1 < ((a1.length : Nat) : Int)) <|
 bd (laws_eqHelloEntry_m (a0.getD s1.toNat default) (a1.getD s1.toNat default)) fun x7 =>
(if (!x7) = true then
 some (.inr (.inl ()))
else
 some (.inl (IntKind.i64.wrap (s1 + 1))))
else
 some (.inr (.inr ())))) 0) fun x4 =>
(match x4 with
| .inl d8 =>
 some false
| .inr d9 =>
 some true))

theorem laws_eqHelloEntryS_c {a0 : (List HelloEntry)} {a1 : (List HelloEntry)} {r : Bool} (h : laws_eqHelloEntryS_m a0 a1 = some r) : PureC Tryz.prog 40 [.d (slD HelloEntry.enc a0), .d (slD HelloEntry.enc a1)] (.d (.bool r)) [] := by
  refine pureC_x tOk (fn := Tryz.f40) (c := codeOf Tryz.f40) rfl rfl ?_
  unfold laws_eqHelloEntryS_m at h
  conv => whnf
  refine seq_in tOk ?_
  conv => whnf
  refine andI h (fun _ h => ?_) (fun _ h => ?_)
  · conv => whnf
    obtain rfl := Option.some.inj h
    exact lfP []
  · conv => whnf
    refine seq_in tOk ?_
    conv => whnf
    obtain ⟨x4, hx4, h⟩ := bd_some h
    refine loop_m tOk hx4 (fun s1 => ⟨0, 27, [(0, .d (slD HelloEntry.enc a0)), (1, .d (slD HelloEntry.enc a1)), (5, .d (.int .i64 s1))], [], [], []⟩) ?_ ?_
    · exact leX []
    · clear hx4
      intro s1 y2 g3 hy2
      conv => whnf
      refine seq_in tOk ?_
      conv => whnf
      refine andI g3 (fun _ g3 => ?_) (fun _ g3 => ?_)
      · conv => whnf
        refine seq_in tOk ?_
        conv => whnf
        obtain ⟨g5, g3⟩ := gd_some g3
        obtain ⟨g6, g3⟩ := gd_some g3
        obtain ⟨x7, hx7, g3⟩ := bd_some g3
        refine draw_u tOk [.u 8 0 (.d (.bool x7)) []] 10 [] [0, 0, 3, 7, 0, 0, 48, 112, 255, 511] [] ?_
        conv => whnf
        refine And.intro g5 ?_
        clear g5
        conv => whnf
        refine And.intro g6 ?_
        clear g6
        conv => whnf
        refine And.intro (callD_any (laws_eqHelloEntry_c hx7) (by kernel_rfl)) ?_
        conv => whnf
        refine And.intro (by kernel_rfl) ?_
        conv => whnf
        refine andI g3 (fun _ g3 => ?_) (fun _ g3 => ?_)
        · conv => whnf
          obtain rfl := Option.some.inj g3
          obtain rfl := hy2 _ rfl
          obtain rfl := Option.some.inj h
          exact lfP []
        · conv => whnf
          obtain rfl := Option.some.inj g3
          exact ⟨_, rfl, leX []⟩
      · conv => whnf
        obtain rfl := Option.some.inj g3
        obtain rfl := hy2 _ rfl
        obtain rfl := Option.some.inj h
        exact lfP []

noncomputable def laws_eqHelloChange_m (a0 : HelloChange) (a1 : HelloChange) : Option (Bool) :=
(if (a0.Kind != a1.Kind) = true then
 some false
else
 bd (laws_eqHelloEntry_m a0.Entry a1.Entry) fun x1 =>
(if (!x1) = true then
 some false
else
 some true))

theorem laws_eqHelloChange_c {a0 : HelloChange} {a1 : HelloChange} {r : Bool} (h : laws_eqHelloChange_m a0 a1 = some r) : PureC Tryz.prog 41 [.agg [.d (.int .i64 a0.Kind), .d (.int .i64 a0.Entry.Addr), .d (.int .i64 a0.Entry.Len), .d (.int .i64 a0.Entry.Cost), .d (.int .i64 a0.Entry.Label)], .agg [.d (.int .i64 a1.Kind), .d (.int .i64 a1.Entry.Addr), .d (.int .i64 a1.Entry.Len), .d (.int .i64 a1.Entry.Cost), .d (.int .i64 a1.Entry.Label)]] (.d (.bool r)) [] := by
  refine pureC_x tOk (fn := Tryz.f41) (c := codeOf Tryz.f41) rfl rfl ?_
  unfold laws_eqHelloChange_m at h
  conv => whnf
  refine seq_in tOk ?_
  conv => whnf
  refine andI h (fun _ h => ?_) (fun _ h => ?_)
  · conv => whnf
    obtain rfl := Option.some.inj h
    exact lfP []
  · conv => whnf
    refine seq_in tOk ?_
    conv => whnf
    obtain ⟨x1, hx1, h⟩ := bd_some h
    refine cC 0 (laws_eqHelloEntry_c hx1) ?_
    clear hx1
    conv => whnf
    refine andI h (fun _ h => ?_) (fun _ h => ?_)
    · conv => whnf
      obtain rfl := Option.some.inj h
      exact lfP []
    · conv => whnf
      obtain rfl := Option.some.inj h
      exact lfP []

noncomputable def laws_eqHelloRoute_m (a0 : HelloRoute) (a1 : HelloRoute) : Option (Bool) :=
 bd (laws_eqHelloEntry_m a0.Entry a1.Entry) fun x1 =>
(if (!x1) = true then
 some false
else
(if (!(a0.Stale == a1.Stale)) = true then
 some false
else
 some true))

theorem laws_eqHelloRoute_c {a0 : HelloRoute} {a1 : HelloRoute} {r : Bool} (h : laws_eqHelloRoute_m a0 a1 = some r) : PureC Tryz.prog 96 [.agg [.d (.int .i64 a0.Entry.Addr), .d (.int .i64 a0.Entry.Len), .d (.int .i64 a0.Entry.Cost), .d (.int .i64 a0.Entry.Label), .d (.bool a0.Stale)], .agg [.d (.int .i64 a1.Entry.Addr), .d (.int .i64 a1.Entry.Len), .d (.int .i64 a1.Entry.Cost), .d (.int .i64 a1.Entry.Label), .d (.bool a1.Stale)]] (.d (.bool r)) [] := by
  refine pureC_x tOk (fn := Tryz.f96) (c := codeOf Tryz.f96) rfl rfl ?_
  unfold laws_eqHelloRoute_m at h
  conv => whnf
  refine seq_in tOk ?_
  conv => whnf
  obtain ⟨x1, hx1, h⟩ := bd_some h
  refine cC 0 (laws_eqHelloEntry_c hx1) ?_
  clear hx1
  conv => whnf
  refine andI h (fun _ h => ?_) (fun _ h => ?_)
  · conv => whnf
    obtain rfl := Option.some.inj h
    exact lfP []
  · conv => whnf
    refine seq_in tOk ?_
    conv => whnf
    refine andI h (fun _ h => ?_) (fun _ h => ?_)
    · conv => whnf
      obtain rfl := Option.some.inj h
      exact lfP []
    · conv => whnf
      obtain rfl := Option.some.inj h
      exact lfP []

noncomputable def laws_eqHelloRouteS_m (a0 : (List HelloRoute)) (a1 : (List HelloRoute)) : Option (Bool) :=
(if (((a0.length : Nat) : Int) != ((a1.length : Nat) : Int)) = true then
 some false
else
 bd (lp (σ := Int) (β := (Unit ⊕ Unit)) (fun s1 =>
(if (decide (s1 < ((a0.length : Nat) : Int))) = true then
 gd ((0 : Int) ≤ s1 ∧ s1 < ((a0.length : Nat) : Int)) <|
 gd ((0 : Int) ≤ s1 ∧ s1 < ((a1.length : Nat) : Int)) <|
 bd (laws_eqHelloRoute_m (⟨((a0.getD s1.toNat default).Entry), (a0.getD s1.toNat default).Stale⟩ : HelloRoute) (⟨((a1.getD s1.toNat default).Entry), (a1.getD s1.toNat default).Stale⟩ : HelloRoute)) fun x7 =>
(if (!x7) = true then
 some (.inr (.inl ()))
else
 some (.inl (IntKind.i64.wrap (s1 + 1))))
else
 some (.inr (.inr ())))) 0) fun x4 =>
(match x4 with
| .inl d8 =>
 some false
| .inr d9 =>
 some true))

theorem laws_eqHelloRouteS_c {a0 : (List HelloRoute)} {a1 : (List HelloRoute)} {r : Bool} (h : laws_eqHelloRouteS_m a0 a1 = some r) : PureC Tryz.prog 42 [.d (slD HelloRoute.enc a0), .d (slD HelloRoute.enc a1)] (.d (.bool r)) [] := by
  refine pureC_x tOk (fn := Tryz.f42) (c := codeOf Tryz.f42) rfl rfl ?_
  unfold laws_eqHelloRouteS_m at h
  conv => whnf
  refine seq_in tOk ?_
  conv => whnf
  refine andI h (fun _ h => ?_) (fun _ h => ?_)
  · conv => whnf
    obtain rfl := Option.some.inj h
    exact lfP []
  · conv => whnf
    refine seq_in tOk ?_
    conv => whnf
    obtain ⟨x4, hx4, h⟩ := bd_some h
    refine loop_m tOk hx4 (fun s1 => ⟨0, 27, [(0, .d (slD HelloRoute.enc a0)), (1, .d (slD HelloRoute.enc a1)), (5, .d (.int .i64 s1))], [], [], []⟩) ?_ ?_
    · exact leX []
    · clear hx4
      intro s1 y2 g3 hy2
      conv => whnf
      refine seq_in tOk ?_
      conv => whnf
      refine andI g3 (fun _ g3 => ?_) (fun _ g3 => ?_)
      · conv => whnf
        refine seq_in tOk ?_
        conv => whnf
        obtain ⟨g5, g3⟩ := gd_some g3
        obtain ⟨g6, g3⟩ := gd_some g3
        obtain ⟨x7, hx7, g3⟩ := bd_some g3
        refine draw_u tOk [.u 8 0 (.d (.bool x7)) []] 10 [] [0, 0, 3, 7, 0, 0, 48, 112, 255, 511] [] ?_
        conv => whnf
        refine And.intro g5 ?_
        clear g5
        conv => whnf
        refine And.intro g6 ?_
        clear g6
        conv => whnf
        refine And.intro (callD_any (laws_eqHelloRoute_c hx7) (by kernel_rfl)) ?_
        conv => whnf
        refine And.intro (by kernel_rfl) ?_
        conv => whnf
        refine andI g3 (fun _ g3 => ?_) (fun _ g3 => ?_)
        · conv => whnf
          obtain rfl := Option.some.inj g3
          obtain rfl := hy2 _ rfl
          obtain rfl := Option.some.inj h
          exact lfP []
        · conv => whnf
          obtain rfl := Option.some.inj g3
          exact ⟨_, rfl, leX []⟩
      · conv => whnf
        obtain rfl := Option.some.inj g3
        obtain rfl := hy2 _ rfl
        obtain rfl := Option.some.inj h
        exact lfP []

noncomputable def laws_eqHelloEnd_m (a0 : HelloEnd) (a1 : HelloEnd) : Option (Bool) :=
(if (a0.Name != a1.Name) = true then
 some false
else
(if (a0.Peer != a1.Peer) = true then
 some false
else
 bd (laws_eqHelloKeyS_m a0.Keys a1.Keys) fun x1 =>
(if (!x1) = true then
 some false
else
(if (a0.Boot != a1.Boot) = true then
 some false
else
 bd (laws_eqHelloEntryS_m a0.Want a1.Want) fun x2 =>
(if (!x2) = true then
 some false
else
(if (a0.Turn != a1.Turn) = true then
 some false
else
(if (a0.PeerBoot != a1.PeerBoot) = true then
 some false
else
(if (a0.PeerTurn != a1.PeerTurn) = true then
 some false
else
(if (!(a0.Up == a1.Up)) = true then
 some false
else
(if (a0.Left != a1.Left) = true then
 some false
else
(if (a0.Num != a1.Num) = true then
 some false
else
 bd (laws_eqHelloChange_m a0.Under a1.Under) fun x3 =>
(if (!x3) = true then
 some false
else
 bd (laws_eqHelloEntryS_m a0.Told a1.Told) fun x4 =>
(if (!x4) = true then
 some false
else
(if (!(a0.All == a1.All)) = true then
 some false
else
(if (a0.Got != a1.Got) = true then
 some false
else
(if (!(a0.Full == a1.Full)) = true then
 some false
else
 bd (laws_eqHelloRouteS_m a0.Heard a1.Heard) fun x5 =>
(if (!x5) = true then
 some false
else
(if (a0.Keep != a1.Keep) = true then
 some false
else
 some true))))))))))))))))))

theorem laws_eqHelloEnd_c {a0 : HelloEnd} {a1 : HelloEnd} {r : Bool} (h : laws_eqHelloEnd_m a0 a1 = some r) : PureC Tryz.prog 12 [.agg [.d (.int .i64 a0.Name), .d (.int .i64 a0.Peer), .d (slD HelloKey.enc a0.Keys), .d (.int .i64 a0.Boot), .d (slD HelloEntry.enc a0.Want), .d (.int .i64 a0.Turn), .d (.int .i64 a0.PeerBoot), .d (.int .i64 a0.PeerTurn), .d (.bool a0.Up), .d (.int .i64 a0.Left), .d (.int .i64 a0.Num), .d (.int .i64 a0.Under.Kind), .d (.int .i64 a0.Under.Entry.Addr), .d (.int .i64 a0.Under.Entry.Len), .d (.int .i64 a0.Under.Entry.Cost), .d (.int .i64 a0.Under.Entry.Label), .d (slD HelloEntry.enc a0.Told), .d (.bool a0.All), .d (.int .i64 a0.Got), .d (.bool a0.Full), .d (slD HelloRoute.enc a0.Heard), .d (.int .i64 a0.Keep)], .agg [.d (.int .i64 a1.Name), .d (.int .i64 a1.Peer), .d (slD HelloKey.enc a1.Keys), .d (.int .i64 a1.Boot), .d (slD HelloEntry.enc a1.Want), .d (.int .i64 a1.Turn), .d (.int .i64 a1.PeerBoot), .d (.int .i64 a1.PeerTurn), .d (.bool a1.Up), .d (.int .i64 a1.Left), .d (.int .i64 a1.Num), .d (.int .i64 a1.Under.Kind), .d (.int .i64 a1.Under.Entry.Addr), .d (.int .i64 a1.Under.Entry.Len), .d (.int .i64 a1.Under.Entry.Cost), .d (.int .i64 a1.Under.Entry.Label), .d (slD HelloEntry.enc a1.Told), .d (.bool a1.All), .d (.int .i64 a1.Got), .d (.bool a1.Full), .d (slD HelloRoute.enc a1.Heard), .d (.int .i64 a1.Keep)]] (.d (.bool r)) [] := by
  refine pureC_x tOk (fn := Tryz.f12) (c := codeOf Tryz.f12) rfl rfl ?_
  unfold laws_eqHelloEnd_m at h
  conv => whnf
  refine seq_in tOk ?_
  conv => whnf
  refine andI h (fun _ h => ?_) (fun _ h => ?_)
  · conv => whnf
    obtain rfl := Option.some.inj h
    exact lfP []
  · conv => whnf
    refine seq_in tOk ?_
    conv => whnf
    refine andI h (fun _ h => ?_) (fun _ h => ?_)
    · conv => whnf
      obtain rfl := Option.some.inj h
      exact lfP []
    · conv => whnf
      refine seq_in tOk ?_
      conv => whnf
      obtain ⟨x1, hx1, h⟩ := bd_some h
      refine cC 0 (laws_eqHelloKeyS_c hx1) ?_
      clear hx1
      conv => whnf
      refine andI h (fun _ h => ?_) (fun _ h => ?_)
      · conv => whnf
        obtain rfl := Option.some.inj h
        exact lfP []
      · conv => whnf
        refine seq_in tOk ?_
        conv => whnf
        refine andI h (fun _ h => ?_) (fun _ h => ?_)
        · conv => whnf
          obtain rfl := Option.some.inj h
          exact lfP []
        · conv => whnf
          refine seq_in tOk ?_
          conv => whnf
          obtain ⟨x2, hx2, h⟩ := bd_some h
          refine cC 0 (laws_eqHelloEntryS_c hx2) ?_
          clear hx2
          conv => whnf
          refine andI h (fun _ h => ?_) (fun _ h => ?_)
          · conv => whnf
            obtain rfl := Option.some.inj h
            exact lfP []
          · conv => whnf
            refine seq_in tOk ?_
            conv => whnf
            refine andI h (fun _ h => ?_) (fun _ h => ?_)
            · conv => whnf
              obtain rfl := Option.some.inj h
              exact lfP []
            · conv => whnf
              refine seq_in tOk ?_
              conv => whnf
              refine andI h (fun _ h => ?_) (fun _ h => ?_)
              · conv => whnf
                obtain rfl := Option.some.inj h
                exact lfP []
              · conv => whnf
                refine seq_in tOk ?_
                conv => whnf
                refine andI h (fun _ h => ?_) (fun _ h => ?_)
                · conv => whnf
                  obtain rfl := Option.some.inj h
                  exact lfP []
                · conv => whnf
                  refine seq_in tOk ?_
                  conv => whnf
                  refine andI h (fun _ h => ?_) (fun _ h => ?_)
                  · conv => whnf
                    obtain rfl := Option.some.inj h
                    exact lfP []
                  · conv => whnf
                    refine seq_in tOk ?_
                    conv => whnf
                    refine andI h (fun _ h => ?_) (fun _ h => ?_)
                    · conv => whnf
                      obtain rfl := Option.some.inj h
                      exact lfP []
                    · conv => whnf
                      refine seq_in tOk ?_
                      conv => whnf
                      refine andI h (fun _ h => ?_) (fun _ h => ?_)
                      · conv => whnf
                        obtain rfl := Option.some.inj h
                        exact lfP []
                      · conv => whnf
                        refine seq_in tOk ?_
                        conv => whnf
                        obtain ⟨x3, hx3, h⟩ := bd_some h
                        refine cC 0 (laws_eqHelloChange_c hx3) ?_
                        clear hx3
                        conv => whnf
                        refine andI h (fun _ h => ?_) (fun _ h => ?_)
                        · conv => whnf
                          obtain rfl := Option.some.inj h
                          exact lfP []
                        · conv => whnf
                          refine seq_in tOk ?_
                          conv => whnf
                          obtain ⟨x4, hx4, h⟩ := bd_some h
                          refine cC 0 (laws_eqHelloEntryS_c hx4) ?_
                          clear hx4
                          conv => whnf
                          refine andI h (fun _ h => ?_) (fun _ h => ?_)
                          · conv => whnf
                            obtain rfl := Option.some.inj h
                            exact lfP []
                          · conv => whnf
                            refine seq_in tOk ?_
                            conv => whnf
                            refine andI h (fun _ h => ?_) (fun _ h => ?_)
                            · conv => whnf
                              obtain rfl := Option.some.inj h
                              exact lfP []
                            · conv => whnf
                              refine seq_in tOk ?_
                              conv => whnf
                              refine andI h (fun _ h => ?_) (fun _ h => ?_)
                              · conv => whnf
                                obtain rfl := Option.some.inj h
                                exact lfP []
                              · conv => whnf
                                refine seq_in tOk ?_
                                conv => whnf
                                refine andI h (fun _ h => ?_) (fun _ h => ?_)
                                · conv => whnf
                                  obtain rfl := Option.some.inj h
                                  exact lfP []
                                · conv => whnf
                                  refine seq_in tOk ?_
                                  conv => whnf
                                  obtain ⟨x5, hx5, h⟩ := bd_some h
                                  refine cC 0 (laws_eqHelloRouteS_c hx5) ?_
                                  clear hx5
                                  conv => whnf
                                  refine andI h (fun _ h => ?_) (fun _ h => ?_)
                                  · conv => whnf
                                    obtain rfl := Option.some.inj h
                                    exact lfP []
                                  · conv => whnf
                                    refine seq_in tOk ?_
                                    conv => whnf
                                    refine andI h (fun _ h => ?_) (fun _ h => ?_)
                                    · conv => whnf
                                      obtain rfl := Option.some.inj h
                                      exact lfP []
                                    · conv => whnf
                                      obtain rfl := Option.some.inj h
                                      exact lfP []

noncomputable def laws_markHelloKeyS_m (a0 : (List HelloKey)) (a1 : Int) : Option (Int × (List HelloKey)) :=
 bd (lp (σ := List HelloKey × Int × Int) (β := (Int × (List HelloKey) × Nat)) (fun s1 =>
(if (decide (s1.2.2 < ((s1.1.length : Nat) : Int))) = true then
 gd ((0 : Int) ≤ s1.2.2 ∧ s1.2.2 < ((s1.1.length : Nat) : Int)) <|
 gd ((0 : Int) ≤ s1.2.2 ∧ s1.2.2 < ((s1.1.length : Nat) : Int)) <|
 bd (some ((s1.1.set s1.2.2.toNat (⟨s1.2.1, (s1.1.getD s1.2.2.toNat default).Secret⟩ : HelloKey)).set s1.2.2.toNat (⟨((s1.1.set s1.2.2.toNat (⟨s1.2.1, (s1.1.getD s1.2.2.toNat default).Secret⟩ : HelloKey)).getD s1.2.2.toNat default).Id, IntKind.i64.wrap (s1.2.1 + 1)⟩ : HelloKey))) fun x7 =>
 some (.inl (x7, IntKind.i64.wrap ((IntKind.i64.wrap (s1.2.1 + 1)) + 1), IntKind.i64.wrap (s1.2.2 + 1)))
else
 some (.inr (s1.2.1, s1.1, s1.1.length)))) (a0, a1, 0)) fun x4 =>
 gd (x4.2.2 = a0.length) <|
 some (x4.1, x4.2.1)

theorem laws_markHelloKeyS_c {a0 : (List HelloKey)} {a1 : Int} {r : Int × (List HelloKey)} (h : laws_markHelloKeyS_m a0 a1 = some r) : EffC Tryz.prog 43 [.osl 9000 0 a0.length, .d (.int .i64 a1)] [(9000, .arr 90 2 a0.length (rows HelloKey.enc a0))] (.d (.int .i64 r.1)) [(9000, .arr 90 2 a0.length (rows HelloKey.enc r.2))] := by
  refine effC_x tOk (fn := Tryz.f43) (c := codeOf Tryz.f43) rfl rfl ?_
  unfold laws_markHelloKeyS_m at h
  conv => whnf
  refine seq_in tOk ?_
  conv => whnf
  obtain ⟨x4, hx4, h⟩ := bd_some h
  refine loop_m tOk hx4 (fun s1 => ⟨0, 27, [(0, .osl 9000 0 s1.1.length), (1, .d (.int .i64 s1.2.1)), (5, .d (.int .i64 s1.2.2))], [], [(9000, .arr 90 2 s1.1.length (rows HelloKey.enc s1.1))], [⟨[(0, .osl 9000 0 s1.1.length)], []⟩]⟩) ?_ ?_
  · exact leX []
  · clear hx4
    intro s1 y2 g3 hy2
    conv => whnf
    refine seq_in tOk ?_
    conv => whnf
    refine andI g3 (fun _ g3 => ?_) (fun _ g3 => ?_)
    · conv => whnf
      refine seq_in tOk ?_
      conv => whnf
      refine gdI g3 (fun g3 => ?_)
      conv => whnf
      refine ⟨rows HelloKey.enc (s1.1.set s1.2.2.toNat (⟨s1.2.1, (s1.1.getD s1.2.2.toNat default).Secret⟩ : HelloKey)), store_rows' lenA rfl, ?_⟩
      conv => whnf
      refine gdI g3 (fun g3 => ?_)
      conv => whnf
      obtain ⟨x7, hx7, hlx7, g3⟩ := bd_set g3
      try simp only [List.length_set] at hlx7
      refine setS (enc := HelloKey.enc) hx7 ?_
      conv => whnf
      obtain rfl := Option.some.inj g3
      exact ⟨_, rfl, leX []⟩
    · conv => whnf
      obtain rfl := Option.some.inj g3
      obtain rfl := hy2 _ rfl
      obtain ⟨g9, h⟩ := gd_some h
      obtain rfl := Option.some.inj h
      exact lfE []

noncomputable def laws_markHelloEntryS_m (a0 : (List HelloEntry)) (a1 : Int) : Option (Int × (List HelloEntry)) :=
 bd (lp (σ := List HelloEntry × Int × Int) (β := (Int × (List HelloEntry) × Nat)) (fun s1 =>
(if (decide (s1.2.2 < ((s1.1.length : Nat) : Int))) = true then
 gd ((0 : Int) ≤ s1.2.2 ∧ s1.2.2 < ((s1.1.length : Nat) : Int)) <|
 gd ((0 : Int) ≤ s1.2.2 ∧ s1.2.2 < ((s1.1.length : Nat) : Int)) <|
 bd (some ((s1.1.set s1.2.2.toNat ({ (s1.1.getD s1.2.2.toNat default) with Addr := s1.2.1 })).set s1.2.2.toNat ({ ((s1.1.set s1.2.2.toNat ({ (s1.1.getD s1.2.2.toNat default) with Addr := s1.2.1 })).getD s1.2.2.toNat default) with Len := IntKind.i64.wrap (s1.2.1 + 1) }))) fun x7 =>
 gd ((0 : Int) ≤ s1.2.2 ∧ s1.2.2 < ((s1.1.length : Nat) : Int)) <|
 bd (some (x7.set s1.2.2.toNat ({ (x7.getD s1.2.2.toNat default) with Cost := IntKind.i64.wrap ((IntKind.i64.wrap (s1.2.1 + 1)) + 1) }))) fun x9 =>
 gd ((0 : Int) ≤ s1.2.2 ∧ s1.2.2 < ((s1.1.length : Nat) : Int)) <|
 bd (some (x9.set s1.2.2.toNat ({ (x9.getD s1.2.2.toNat default) with Label := IntKind.i64.wrap ((IntKind.i64.wrap ((IntKind.i64.wrap (s1.2.1 + 1)) + 1)) + 1) }))) fun x11 =>
 some (.inl (x11, IntKind.i64.wrap ((IntKind.i64.wrap ((IntKind.i64.wrap ((IntKind.i64.wrap (s1.2.1 + 1)) + 1)) + 1)) + 1), IntKind.i64.wrap (s1.2.2 + 1)))
else
 some (.inr (s1.2.1, s1.1, s1.1.length)))) (a0, a1, 0)) fun x4 =>
 gd (x4.2.2 = a0.length) <|
 some (x4.1, x4.2.1)

theorem laws_markHelloEntryS_c {a0 : (List HelloEntry)} {a1 : Int} {r : Int × (List HelloEntry)} (h : laws_markHelloEntryS_m a0 a1 = some r) : EffC Tryz.prog 44 [.osl 9000 0 a0.length, .d (.int .i64 a1)] [(9000, .arr 36 4 a0.length (rows HelloEntry.enc a0))] (.d (.int .i64 r.1)) [(9000, .arr 36 4 a0.length (rows HelloEntry.enc r.2))] := by
  refine effC_x tOk (fn := Tryz.f44) (c := codeOf Tryz.f44) rfl rfl ?_
  unfold laws_markHelloEntryS_m at h
  conv => whnf
  refine seq_in tOk ?_
  conv => whnf
  obtain ⟨x4, hx4, h⟩ := bd_some h
  refine loop_m tOk hx4 (fun s1 => ⟨0, 41, [(0, .osl 9000 0 s1.1.length), (1, .d (.int .i64 s1.2.1)), (5, .d (.int .i64 s1.2.2))], [], [(9000, .arr 36 4 s1.1.length (rows HelloEntry.enc s1.1))], [⟨[(0, .osl 9000 0 s1.1.length)], []⟩]⟩) ?_ ?_
  · exact leX []
  · clear hx4
    intro s1 y2 g3 hy2
    conv => whnf
    refine seq_in tOk ?_
    conv => whnf
    refine andI g3 (fun _ g3 => ?_) (fun _ g3 => ?_)
    · conv => whnf
      refine seq_in tOk ?_
      conv => whnf
      refine gdI g3 (fun g3 => ?_)
      conv => whnf
      refine ⟨rows HelloEntry.enc (s1.1.set s1.2.2.toNat ({ (s1.1.getD s1.2.2.toNat default) with Addr := s1.2.1 })), store_rows' lenA rfl, ?_⟩
      conv => whnf
      refine gdI g3 (fun g3 => ?_)
      conv => whnf
      obtain ⟨x7, hx7, hlx7, g3⟩ := bd_set g3
      try simp only [List.length_set] at hlx7
      refine setS (enc := HelloEntry.enc) hx7 ?_
      conv => whnf
      refine gdI g3 (fun g3 => ?_)
      conv => whnf
      obtain ⟨x9, hx9, hlx9, g3⟩ := bd_set g3
      refine setS (enc := HelloEntry.enc) hx9 ?_
      conv => whnf
      refine gdI g3 (fun g3 => ?_)
      conv => whnf
      obtain ⟨x11, hx11, hlx11, g3⟩ := bd_set g3
      refine setS (enc := HelloEntry.enc) hx11 ?_
      conv => whnf
      obtain rfl := Option.some.inj g3
      exact ⟨_, rfl, leX []⟩
    · conv => whnf
      obtain rfl := Option.some.inj g3
      obtain rfl := hy2 _ rfl
      obtain ⟨g13, h⟩ := gd_some h
      obtain rfl := Option.some.inj h
      exact lfE []

noncomputable def laws_markHelloRouteS_m (a0 : (List HelloRoute)) (a1 : Int) : Option (Int × (List HelloRoute)) :=
 bd (lp (σ := List HelloRoute × Int × Int) (β := (Int × (List HelloRoute) × Nat)) (fun s1 =>
(if (decide (s1.2.2 < ((s1.1.length : Nat) : Int))) = true then
 gd ((0 : Int) ≤ s1.2.2 ∧ s1.2.2 < ((s1.1.length : Nat) : Int)) <|
 bd (some (s1.1.set s1.2.2.toNat (⟨{ ((s1.1.getD s1.2.2.toNat default).Entry) with Addr := s1.2.1 }, (s1.1.getD s1.2.2.toNat default).Stale⟩ : HelloRoute))) fun x6 =>
 gd ((0 : Int) ≤ s1.2.2 ∧ s1.2.2 < ((s1.1.length : Nat) : Int)) <|
 bd (some (x6.set s1.2.2.toNat (⟨{ ((x6.getD s1.2.2.toNat default).Entry) with Len := IntKind.i64.wrap (s1.2.1 + 1) }, (x6.getD s1.2.2.toNat default).Stale⟩ : HelloRoute))) fun x8 =>
 gd ((0 : Int) ≤ s1.2.2 ∧ s1.2.2 < ((s1.1.length : Nat) : Int)) <|
 bd (some (x8.set s1.2.2.toNat (⟨{ ((x8.getD s1.2.2.toNat default).Entry) with Cost := IntKind.i64.wrap ((IntKind.i64.wrap (s1.2.1 + 1)) + 1) }, (x8.getD s1.2.2.toNat default).Stale⟩ : HelloRoute))) fun x10 =>
 gd ((0 : Int) ≤ s1.2.2 ∧ s1.2.2 < ((s1.1.length : Nat) : Int)) <|
 bd (some (x10.set s1.2.2.toNat (⟨{ ((x10.getD s1.2.2.toNat default).Entry) with Label := IntKind.i64.wrap ((IntKind.i64.wrap ((IntKind.i64.wrap (s1.2.1 + 1)) + 1)) + 1) }, (x10.getD s1.2.2.toNat default).Stale⟩ : HelloRoute))) fun x12 =>
 gd ((3 : Int) ≠ 0) <|
 gd ((0 : Int) ≤ s1.2.2 ∧ s1.2.2 < ((s1.1.length : Nat) : Int)) <|
 bd (some (x12.set s1.2.2.toNat (⟨((x12.getD s1.2.2.toNat default).Entry), (((IntKind.i64.wrap ((IntKind.i64.wrap ((IntKind.i64.wrap ((IntKind.i64.wrap (s1.2.1 + 1)) + 1)) + 1)) + 1) : Int).tmod 3) == 0)⟩ : HelloRoute))) fun x15 =>
 some (.inl (x15, IntKind.i64.wrap ((IntKind.i64.wrap ((IntKind.i64.wrap ((IntKind.i64.wrap ((IntKind.i64.wrap (s1.2.1 + 1)) + 1)) + 1)) + 1)) + 1), IntKind.i64.wrap (s1.2.2 + 1)))
else
 some (.inr (s1.2.1, s1.1, s1.1.length)))) (a0, a1, 0)) fun x4 =>
 gd (x4.2.2 = a0.length) <|
 some (x4.1, x4.2.1)

theorem laws_markHelloRouteS_c {a0 : (List HelloRoute)} {a1 : Int} {r : Int × (List HelloRoute)} (h : laws_markHelloRouteS_m a0 a1 = some r) : EffC Tryz.prog 45 [.osl 9000 0 a0.length, .d (.int .i64 a1)] [(9000, .arr 94 5 a0.length (rows HelloRoute.enc a0))] (.d (.int .i64 r.1)) [(9000, .arr 94 5 a0.length (rows HelloRoute.enc r.2))] := by
  refine effC_x tOk (fn := Tryz.f45) (c := codeOf Tryz.f45) rfl rfl ?_
  unfold laws_markHelloRouteS_m at h
  conv => whnf
  refine seq_in tOk ?_
  conv => whnf
  obtain ⟨x4, hx4, h⟩ := bd_some h
  refine loop_m tOk hx4 (fun s1 => ⟨0, 54, [(0, .osl 9000 0 s1.1.length), (1, .d (.int .i64 s1.2.1)), (5, .d (.int .i64 s1.2.2))], [], [(9000, .arr 94 5 s1.1.length (rows HelloRoute.enc s1.1))], [⟨[(0, .osl 9000 0 s1.1.length)], []⟩]⟩) ?_ ?_
  · exact leX []
  · clear hx4
    intro s1 y2 g3 hy2
    conv => whnf
    refine seq_in tOk ?_
    conv => whnf
    refine andI g3 (fun _ g3 => ?_) (fun _ g3 => ?_)
    · conv => whnf
      refine seq_in tOk ?_
      conv => whnf
      refine gdI g3 (fun g3 => ?_)
      conv => whnf
      obtain ⟨x6, hx6, hlx6, g3⟩ := bd_set g3
      refine setS (enc := HelloRoute.enc) hx6 ?_
      conv => whnf
      refine gdI g3 (fun g3 => ?_)
      conv => whnf
      obtain ⟨x8, hx8, hlx8, g3⟩ := bd_set g3
      refine setS (enc := HelloRoute.enc) hx8 ?_
      conv => whnf
      refine gdI g3 (fun g3 => ?_)
      conv => whnf
      obtain ⟨x10, hx10, hlx10, g3⟩ := bd_set g3
      refine setS (enc := HelloRoute.enc) hx10 ?_
      conv => whnf
      refine gdI g3 (fun g3 => ?_)
      conv => whnf
      obtain ⟨x12, hx12, hlx12, g3⟩ := bd_set g3
      refine setS (enc := HelloRoute.enc) hx12 ?_
      conv => whnf
      refine gdI g3 (fun g3 => ?_)
      conv => whnf
      refine gdI g3 (fun g3 => ?_)
      conv => whnf
      obtain ⟨x15, hx15, hlx15, g3⟩ := bd_set g3
      refine setS (enc := HelloRoute.enc) hx15 ?_
      conv => whnf
      obtain rfl := Option.some.inj g3
      exact ⟨_, rfl, leX []⟩
    · conv => whnf
      obtain rfl := Option.some.inj g3
      obtain rfl := hy2 _ rfl
      obtain ⟨g17, h⟩ := gd_some h
      obtain rfl := Option.some.inj h
      exact lfE []

noncomputable def laws_markHelloEnd_m (a0 : HelloEnd) (a1 : Int) : Option (Int × HelloEnd) :=
 bd (laws_markHelloKeyS_m a0.Keys a1) fun x1 =>
 gd (x1.2.length = a0.Keys.length) <|
 bd (laws_markHelloEntryS_m a0.Want x1.1) fun x2 =>
 gd (x2.2.length = a0.Want.length) <|
 bd (laws_markHelloEntryS_m a0.Told x2.1) fun x3 =>
 gd (x3.2.length = a0.Told.length) <|
 bd (laws_markHelloRouteS_m a0.Heard x3.1) fun x4 =>
 gd (x4.2.length = a0.Heard.length) <|
 some (x4.1, { a0 with Keys := x1.2, Want := x2.2, Told := x3.2, Heard := x4.2 })

theorem laws_markHelloEnd_c {a0 : HelloEnd} {a1 : Int} {r : Int × HelloEnd} (h : laws_markHelloEnd_m a0 a1 = some r) : EffC Tryz.prog 13 [.agg [.d (.int .i64 a0.Name), .d (.int .i64 a0.Peer), .osl 9000 0 a0.Keys.length, .d (.int .i64 a0.Boot), .osl 9001 0 a0.Want.length, .d (.int .i64 a0.Turn), .d (.int .i64 a0.PeerBoot), .d (.int .i64 a0.PeerTurn), .d (.bool a0.Up), .d (.int .i64 a0.Left), .d (.int .i64 a0.Num), .d (.int .i64 a0.Under.Kind), .d (.int .i64 a0.Under.Entry.Addr), .d (.int .i64 a0.Under.Entry.Len), .d (.int .i64 a0.Under.Entry.Cost), .d (.int .i64 a0.Under.Entry.Label), .osl 9002 0 a0.Told.length, .d (.bool a0.All), .d (.int .i64 a0.Got), .d (.bool a0.Full), .osl 9003 0 a0.Heard.length, .d (.int .i64 a0.Keep)], .d (.int .i64 a1)] [(9000, .arr 90 2 a0.Keys.length (rows HelloKey.enc a0.Keys)), (9001, .arr 36 4 a0.Want.length (rows HelloEntry.enc a0.Want)), (9002, .arr 36 4 a0.Told.length (rows HelloEntry.enc a0.Told)), (9003, .arr 94 5 a0.Heard.length (rows HelloRoute.enc a0.Heard))] (.d (.int .i64 r.1)) [(9000, .arr 90 2 a0.Keys.length (rows HelloKey.enc r.2.Keys)), (9001, .arr 36 4 a0.Want.length (rows HelloEntry.enc r.2.Want)), (9002, .arr 36 4 a0.Told.length (rows HelloEntry.enc r.2.Told)), (9003, .arr 94 5 a0.Heard.length (rows HelloRoute.enc r.2.Heard))] := by
  refine effC_x tOk (fn := Tryz.f13) (c := codeOf Tryz.f13) rfl rfl ?_
  unfold laws_markHelloEnd_m at h
  conv => whnf
  obtain ⟨x1, hx1, h⟩ := bd_some h
  obtain ⟨g8, h⟩ := gd_some h
  refine cE [(9000, 9000)] 0 (laws_markHelloKeyS_c hx1) ?_
  conv => whnf
  obtain ⟨x2, hx2, h⟩ := bd_some h
  obtain ⟨g7, h⟩ := gd_some h
  refine cE [(9000, 9001)] 0 (laws_markHelloEntryS_c hx2) ?_
  conv => whnf
  obtain ⟨x3, hx3, h⟩ := bd_some h
  obtain ⟨g6, h⟩ := gd_some h
  refine cE [(9000, 9002)] 0 (laws_markHelloEntryS_c hx3) ?_
  conv => whnf
  obtain ⟨x4, hx4, h⟩ := bd_some h
  obtain ⟨g5, h⟩ := gd_some h
  refine cE [(9000, 9003)] 0 (laws_markHelloRouteS_c hx4) ?_
  conv => whnf
  obtain rfl := Option.some.inj h
  exact lfE []

noncomputable def laws_heldHelloKeyS_m (a0 : (List HelloKey)) (a1 : Int) : Option (Int) :=
 bd (lp (σ := Int × Int) (β := (Unit ⊕ Int)) (fun s1 =>
(if (decide (s1.2 < ((a0.length : Nat) : Int))) = true then
 gd ((0 : Int) ≤ s1.2 ∧ s1.2 < ((a0.length : Nat) : Int)) <|
(if (((a0.getD s1.2.toNat default).Id) != s1.1) = true then
 some (.inr (.inl ()))
else
 gd ((0 : Int) ≤ s1.2 ∧ s1.2 < ((a0.length : Nat) : Int)) <|
(if (((a0.getD s1.2.toNat default).Secret) != (IntKind.i64.wrap (s1.1 + 1))) = true then
 some (.inr (.inl ()))
else
 some (.inl (IntKind.i64.wrap ((IntKind.i64.wrap (s1.1 + 1)) + 1), IntKind.i64.wrap (s1.2 + 1)))))
else
 some (.inr (.inr s1.1)))) (a1, 0)) fun x4 =>
(match x4 with
| .inl d7 =>
 some (-1)
| .inr d8 =>
 some d8)

theorem laws_heldHelloKeyS_c {a0 : (List HelloKey)} {a1 : Int} {r : Int} (h : laws_heldHelloKeyS_m a0 a1 = some r) : PureC Tryz.prog 46 [.d (slD HelloKey.enc a0), .d (.int .i64 a1)] (.d (.int .i64 r)) [] := by
  refine pureC_x tOk (fn := Tryz.f46) (c := codeOf Tryz.f46) rfl rfl ?_
  unfold laws_heldHelloKeyS_m at h
  conv => whnf
  refine seq_in tOk ?_
  conv => whnf
  obtain ⟨x4, hx4, h⟩ := bd_some h
  refine loop_m tOk hx4 (fun s1 => ⟨0, 31, [(0, .d (slD HelloKey.enc a0)), (1, .d (.int .i64 s1.1)), (5, .d (.int .i64 s1.2))], [], [], []⟩) ?_ ?_
  · exact leX []
  · clear hx4
    intro s1 y2 g3 hy2
    conv => whnf
    refine seq_in tOk ?_
    conv => whnf
    refine andI g3 (fun _ g3 => ?_) (fun _ g3 => ?_)
    · conv => whnf
      refine seq_in tOk ?_
      conv => whnf
      refine seq_in tOk ?_
      conv => whnf
      refine gdI g3 (fun g3 => ?_)
      conv => whnf
      refine andI g3 (fun _ g3 => ?_) (fun _ g3 => ?_)
      · conv => whnf
        obtain rfl := Option.some.inj g3
        obtain rfl := hy2 _ rfl
        obtain rfl := Option.some.inj h
        exact lfP []
      · conv => whnf
        refine seq_in tOk ?_
        conv => whnf
        refine gdI g3 (fun g3 => ?_)
        conv => whnf
        refine andI g3 (fun _ g3 => ?_) (fun _ g3 => ?_)
        · conv => whnf
          obtain rfl := Option.some.inj g3
          obtain rfl := hy2 _ rfl
          obtain rfl := Option.some.inj h
          exact lfP []
        · conv => whnf
          obtain rfl := Option.some.inj g3
          exact ⟨_, rfl, leX []⟩
    · conv => whnf
      obtain rfl := Option.some.inj g3
      obtain rfl := hy2 _ rfl
      obtain rfl := Option.some.inj h
      exact lfP []

noncomputable def laws_heldHelloEntryS_m (a0 : (List HelloEntry)) (a1 : Int) : Option (Int) :=
 bd (lp (σ := Int × Int) (β := (Unit ⊕ Int)) (fun s1 =>
(if (decide (s1.2 < ((a0.length : Nat) : Int))) = true then
 gd ((0 : Int) ≤ s1.2 ∧ s1.2 < ((a0.length : Nat) : Int)) <|
(if (((a0.getD s1.2.toNat default).Addr) != s1.1) = true then
 some (.inr (.inl ()))
else
 gd ((0 : Int) ≤ s1.2 ∧ s1.2 < ((a0.length : Nat) : Int)) <|
(if (((a0.getD s1.2.toNat default).Len) != (IntKind.i64.wrap (s1.1 + 1))) = true then
 some (.inr (.inl ()))
else
 gd ((0 : Int) ≤ s1.2 ∧ s1.2 < ((a0.length : Nat) : Int)) <|
(if (((a0.getD s1.2.toNat default).Cost) != (IntKind.i64.wrap ((IntKind.i64.wrap (s1.1 + 1)) + 1))) = true then
 some (.inr (.inl ()))
else
 gd ((0 : Int) ≤ s1.2 ∧ s1.2 < ((a0.length : Nat) : Int)) <|
(if (((a0.getD s1.2.toNat default).Label) != (IntKind.i64.wrap ((IntKind.i64.wrap ((IntKind.i64.wrap (s1.1 + 1)) + 1)) + 1))) = true then
 some (.inr (.inl ()))
else
 some (.inl (IntKind.i64.wrap ((IntKind.i64.wrap ((IntKind.i64.wrap ((IntKind.i64.wrap (s1.1 + 1)) + 1)) + 1)) + 1), IntKind.i64.wrap (s1.2 + 1)))))))
else
 some (.inr (.inr s1.1)))) (a1, 0)) fun x4 =>
(match x4 with
| .inl d9 =>
 some (-1)
| .inr d10 =>
 some d10)

theorem laws_heldHelloEntryS_c {a0 : (List HelloEntry)} {a1 : Int} {r : Int} (h : laws_heldHelloEntryS_m a0 a1 = some r) : PureC Tryz.prog 47 [.d (slD HelloEntry.enc a0), .d (.int .i64 a1)] (.d (.int .i64 r)) [] := by
  refine pureC_x tOk (fn := Tryz.f47) (c := codeOf Tryz.f47) rfl rfl ?_
  unfold laws_heldHelloEntryS_m at h
  conv => whnf
  refine seq_in tOk ?_
  conv => whnf
  obtain ⟨x4, hx4, h⟩ := bd_some h
  refine loop_m tOk hx4 (fun s1 => ⟨0, 49, [(0, .d (slD HelloEntry.enc a0)), (1, .d (.int .i64 s1.1)), (5, .d (.int .i64 s1.2))], [], [], []⟩) ?_ ?_
  · exact leX []
  · clear hx4
    intro s1 y2 g3 hy2
    conv => whnf
    refine seq_in tOk ?_
    conv => whnf
    refine andI g3 (fun _ g3 => ?_) (fun _ g3 => ?_)
    · conv => whnf
      refine seq_in tOk ?_
      conv => whnf
      refine seq_in tOk ?_
      conv => whnf
      refine gdI g3 (fun g3 => ?_)
      conv => whnf
      refine andI g3 (fun _ g3 => ?_) (fun _ g3 => ?_)
      · conv => whnf
        obtain rfl := Option.some.inj g3
        obtain rfl := hy2 _ rfl
        obtain rfl := Option.some.inj h
        exact lfP []
      · conv => whnf
        refine seq_in tOk ?_
        conv => whnf
        refine gdI g3 (fun g3 => ?_)
        conv => whnf
        refine andI g3 (fun _ g3 => ?_) (fun _ g3 => ?_)
        · conv => whnf
          obtain rfl := Option.some.inj g3
          obtain rfl := hy2 _ rfl
          obtain rfl := Option.some.inj h
          exact lfP []
        · conv => whnf
          refine seq_in tOk ?_
          conv => whnf
          refine gdI g3 (fun g3 => ?_)
          conv => whnf
          refine andI g3 (fun _ g3 => ?_) (fun _ g3 => ?_)
          · conv => whnf
            obtain rfl := Option.some.inj g3
            obtain rfl := hy2 _ rfl
            obtain rfl := Option.some.inj h
            exact lfP []
          · conv => whnf
            refine seq_in tOk ?_
            conv => whnf
            refine gdI g3 (fun g3 => ?_)
            conv => whnf
            refine andI g3 (fun _ g3 => ?_) (fun _ g3 => ?_)
            · conv => whnf
              obtain rfl := Option.some.inj g3
              obtain rfl := hy2 _ rfl
              obtain rfl := Option.some.inj h
              exact lfP []
            · conv => whnf
              obtain rfl := Option.some.inj g3
              exact ⟨_, rfl, leX []⟩
    · conv => whnf
      obtain rfl := Option.some.inj g3
      obtain rfl := hy2 _ rfl
      obtain rfl := Option.some.inj h
      exact lfP []

noncomputable def laws_heldHelloRouteS_m (a0 : (List HelloRoute)) (a1 : Int) : Option (Int) :=
 bd (lp (σ := Int × Int) (β := (Unit ⊕ Int)) (fun s1 =>
(if (decide (s1.2 < ((a0.length : Nat) : Int))) = true then
 gd ((0 : Int) ≤ s1.2 ∧ s1.2 < ((a0.length : Nat) : Int)) <|
(if ((((a0.getD s1.2.toNat default).Entry).Addr) != s1.1) = true then
 some (.inr (.inl ()))
else
 gd ((0 : Int) ≤ s1.2 ∧ s1.2 < ((a0.length : Nat) : Int)) <|
(if ((((a0.getD s1.2.toNat default).Entry).Len) != (IntKind.i64.wrap (s1.1 + 1))) = true then
 some (.inr (.inl ()))
else
 gd ((0 : Int) ≤ s1.2 ∧ s1.2 < ((a0.length : Nat) : Int)) <|
(if ((((a0.getD s1.2.toNat default).Entry).Cost) != (IntKind.i64.wrap ((IntKind.i64.wrap (s1.1 + 1)) + 1))) = true then
 some (.inr (.inl ()))
else
 gd ((0 : Int) ≤ s1.2 ∧ s1.2 < ((a0.length : Nat) : Int)) <|
(if ((((a0.getD s1.2.toNat default).Entry).Label) != (IntKind.i64.wrap ((IntKind.i64.wrap ((IntKind.i64.wrap (s1.1 + 1)) + 1)) + 1))) = true then
 some (.inr (.inl ()))
else
 gd ((0 : Int) ≤ s1.2 ∧ s1.2 < ((a0.length : Nat) : Int)) <|
 gd ((3 : Int) ≠ 0) <|
(if (!(((a0.getD s1.2.toNat default).Stale) == (((IntKind.i64.wrap ((IntKind.i64.wrap ((IntKind.i64.wrap ((IntKind.i64.wrap (s1.1 + 1)) + 1)) + 1)) + 1) : Int).tmod 3) == 0))) = true then
 some (.inr (.inl ()))
else
 some (.inl (IntKind.i64.wrap ((IntKind.i64.wrap ((IntKind.i64.wrap ((IntKind.i64.wrap ((IntKind.i64.wrap (s1.1 + 1)) + 1)) + 1)) + 1)) + 1), IntKind.i64.wrap (s1.2 + 1))))))))
else
 some (.inr (.inr s1.1)))) (a1, 0)) fun x4 =>
(match x4 with
| .inl d11 =>
 some (-1)
| .inr d12 =>
 some d12)

theorem laws_heldHelloRouteS_c {a0 : (List HelloRoute)} {a1 : Int} {r : Int} (h : laws_heldHelloRouteS_m a0 a1 = some r) : PureC Tryz.prog 48 [.d (slD HelloRoute.enc a0), .d (.int .i64 a1)] (.d (.int .i64 r)) [] := by
  refine pureC_x tOk (fn := Tryz.f48) (c := codeOf Tryz.f48) rfl rfl ?_
  unfold laws_heldHelloRouteS_m at h
  conv => whnf
  refine seq_in tOk ?_
  conv => whnf
  obtain ⟨x4, hx4, h⟩ := bd_some h
  refine loop_m tOk hx4 (fun s1 => ⟨0, 64, [(0, .d (slD HelloRoute.enc a0)), (1, .d (.int .i64 s1.1)), (5, .d (.int .i64 s1.2))], [], [], []⟩) ?_ ?_
  · exact leX []
  · clear hx4
    intro s1 y2 g3 hy2
    conv => whnf
    refine seq_in tOk ?_
    conv => whnf
    refine andI g3 (fun _ g3 => ?_) (fun _ g3 => ?_)
    · conv => whnf
      refine seq_in tOk ?_
      conv => whnf
      refine seq_in tOk ?_
      conv => whnf
      refine gdI g3 (fun g3 => ?_)
      conv => whnf
      refine andI g3 (fun _ g3 => ?_) (fun _ g3 => ?_)
      · conv => whnf
        obtain rfl := Option.some.inj g3
        obtain rfl := hy2 _ rfl
        obtain rfl := Option.some.inj h
        exact lfP []
      · conv => whnf
        refine seq_in tOk ?_
        conv => whnf
        refine gdI g3 (fun g3 => ?_)
        conv => whnf
        refine andI g3 (fun _ g3 => ?_) (fun _ g3 => ?_)
        · conv => whnf
          obtain rfl := Option.some.inj g3
          obtain rfl := hy2 _ rfl
          obtain rfl := Option.some.inj h
          exact lfP []
        · conv => whnf
          refine seq_in tOk ?_
          conv => whnf
          refine gdI g3 (fun g3 => ?_)
          conv => whnf
          refine andI g3 (fun _ g3 => ?_) (fun _ g3 => ?_)
          · conv => whnf
            obtain rfl := Option.some.inj g3
            obtain rfl := hy2 _ rfl
            obtain rfl := Option.some.inj h
            exact lfP []
          · conv => whnf
            refine seq_in tOk ?_
            conv => whnf
            refine gdI g3 (fun g3 => ?_)
            conv => whnf
            refine andI g3 (fun _ g3 => ?_) (fun _ g3 => ?_)
            · conv => whnf
              obtain rfl := Option.some.inj g3
              obtain rfl := hy2 _ rfl
              obtain rfl := Option.some.inj h
              exact lfP []
            · conv => whnf
              refine seq_in tOk ?_
              conv => whnf
              refine gdI g3 (fun g3 => ?_)
              conv => whnf
              refine gdI g3 (fun g3 => ?_)
              conv => whnf
              refine andI g3 (fun _ g3 => ?_) (fun _ g3 => ?_)
              · conv => whnf
                obtain rfl := Option.some.inj g3
                obtain rfl := hy2 _ rfl
                obtain rfl := Option.some.inj h
                exact lfP []
              · conv => whnf
                obtain rfl := Option.some.inj g3
                exact ⟨_, rfl, leX []⟩
    · conv => whnf
      obtain rfl := Option.some.inj g3
      obtain rfl := hy2 _ rfl
      obtain rfl := Option.some.inj h
      exact lfP []

noncomputable def laws_heldHelloEnd_m (a0 : HelloEnd) (a1 : Int) : Option (Int) :=
 bd (laws_heldHelloKeyS_m a0.Keys a1) fun x1 =>
(if (decide (x1 < 0)) = true then
 some (-1)
else
 bd (laws_heldHelloEntryS_m a0.Want x1) fun x2 =>
(if (decide (x2 < 0)) = true then
 some (-1)
else
 bd (laws_heldHelloEntryS_m a0.Told x2) fun x3 =>
(if (decide (x3 < 0)) = true then
 some (-1)
else
 bd (laws_heldHelloRouteS_m a0.Heard x3) fun x4 =>
(if (decide (x4 < 0)) = true then
 some (-1)
else
 some x4))))

theorem laws_heldHelloEnd_c {a0 : HelloEnd} {a1 : Int} {r : Int} (h : laws_heldHelloEnd_m a0 a1 = some r) : PureC Tryz.prog 14 [.agg [.d (.int .i64 a0.Name), .d (.int .i64 a0.Peer), .d (slD HelloKey.enc a0.Keys), .d (.int .i64 a0.Boot), .d (slD HelloEntry.enc a0.Want), .d (.int .i64 a0.Turn), .d (.int .i64 a0.PeerBoot), .d (.int .i64 a0.PeerTurn), .d (.bool a0.Up), .d (.int .i64 a0.Left), .d (.int .i64 a0.Num), .d (.int .i64 a0.Under.Kind), .d (.int .i64 a0.Under.Entry.Addr), .d (.int .i64 a0.Under.Entry.Len), .d (.int .i64 a0.Under.Entry.Cost), .d (.int .i64 a0.Under.Entry.Label), .d (slD HelloEntry.enc a0.Told), .d (.bool a0.All), .d (.int .i64 a0.Got), .d (.bool a0.Full), .d (slD HelloRoute.enc a0.Heard), .d (.int .i64 a0.Keep)], .d (.int .i64 a1)] (.d (.int .i64 r)) [] := by
  refine pureC_x tOk (fn := Tryz.f14) (c := codeOf Tryz.f14) rfl rfl ?_
  unfold laws_heldHelloEnd_m at h
  conv => whnf
  obtain ⟨x1, hx1, h⟩ := bd_some h
  refine cC 0 (laws_heldHelloKeyS_c hx1) ?_
  clear hx1
  conv => whnf
  refine seq_in tOk ?_
  conv => whnf
  refine andI h (fun _ h => ?_) (fun _ h => ?_)
  · conv => whnf
    obtain rfl := Option.some.inj h
    exact lfP []
  · conv => whnf
    obtain ⟨x2, hx2, h⟩ := bd_some h
    refine cC 0 (laws_heldHelloEntryS_c hx2) ?_
    clear hx2
    conv => whnf
    refine seq_in tOk ?_
    conv => whnf
    refine andI h (fun _ h => ?_) (fun _ h => ?_)
    · conv => whnf
      obtain rfl := Option.some.inj h
      exact lfP []
    · conv => whnf
      obtain ⟨x3, hx3, h⟩ := bd_some h
      refine cC 0 (laws_heldHelloEntryS_c hx3) ?_
      clear hx3
      conv => whnf
      refine seq_in tOk ?_
      conv => whnf
      refine andI h (fun _ h => ?_) (fun _ h => ?_)
      · conv => whnf
        obtain rfl := Option.some.inj h
        exact lfP []
      · conv => whnf
        obtain ⟨x4, hx4, h⟩ := bd_some h
        refine cC 0 (laws_heldHelloRouteS_c hx4) ?_
        clear hx4
        conv => whnf
        refine seq_in tOk ?_
        conv => whnf
        refine andI h (fun _ h => ?_) (fun _ h => ?_)
        · conv => whnf
          obtain rfl := Option.some.inj h
          exact lfP []
        · conv => whnf
          obtain rfl := Option.some.inj h
          exact lfP []

noncomputable def laws_FnExactHelloHear_m (a0 : HelloEnd) (a1 : HelloWord) : Option (Bool) :=
 bd (laws_szHelloEnd_m a0 1048576) fun x1 =>
(if (decide (x1 < 0)) = true then
 some true
else
 bd (laws_toHelloEnd_m a0) fun x2 =>
 bd (laws_toHelloWord_m a1) fun x3 =>
 bd (spec_HelloHear_m x2 x3) fun x4 =>
 bd (laws_toHelloEnd_m a0) fun x5 =>
 bd (laws_toHelloWord_m a1) fun x6 =>
 bd (impl_HelloHear_pu_o02_04_016_020_m x5 x6) fun x7 =>
 bd (laws_eqHelloEnd_m x7 x4) fun x8 =>
(if (!x8) = true then
 some false
else
 bd (laws_toHelloEnd_m a0) fun x9 =>
 bd (laws_eqHelloEnd_m x5 x9) fun x10 =>
(if (!x10) = true then
 some false
else
 bd (laws_markHelloEnd_m x5 1) fun x11 =>
 gd (x11.2.Keys.length = x5.Keys.length) <|
 gd (x11.2.Want.length = x5.Want.length) <|
 gd (x11.2.Told.length = x5.Told.length) <|
 gd (x11.2.Heard.length = x5.Heard.length) <|
 bd (gcall ((decide (x11.1 < 0)) = false) (laws_eqHelloEnd_m x7 x4)) fun x12 =>
(if ((decide (x11.1 < 0)) || (!x12)) = true then
 some false
else
 bd (laws_markHelloEnd_m x7 1) fun x13 =>
 gd (x13.2.Keys.length = x7.Keys.length) <|
 gd (x13.2.Want.length = x7.Want.length) <|
 gd (x13.2.Told.length = x7.Told.length) <|
 gd (x13.2.Heard.length = x7.Heard.length) <|
 bd (laws_heldHelloEnd_m ({ x7 with Keys := x13.2.Keys, Want := x13.2.Want, Told := x13.2.Told, Heard := x13.2.Heard }) 1) fun x14 =>
(if (decide (x14 < 0)) = true then
 some false
else
(if (x14 != x13.1) = true then
 some false
else
 bd (laws_toHelloEnd_m a0) fun x15 =>
 bd (laws_toHelloWord_m a1) fun x16 =>
 bd (impl_HelloHear_pu_o02_04_016_020_m x15 x16) fun x17 =>
 bd (laws_eqHelloEnd_m x17 x4) fun x18 =>
(if (!x18) = true then
 some false
else
 bd (laws_heldHelloEnd_m ({ x7 with Keys := x13.2.Keys, Want := x13.2.Want, Told := x13.2.Told, Heard := x13.2.Heard }) 1) fun x19 =>
(if (decide (x19 < 0)) = true then
 some false
else
(if (x19 != x13.1) = true then
 some false
else
 some true)))))))))

theorem laws_FnExactHelloHear_c {a0 : HelloEnd} {a1 : HelloWord} {r : Bool} (h : laws_FnExactHelloHear_m a0 a1 = some r) : PureC Tryz.prog 3 [.agg [.d (.int .i64 a0.Name), .d (.int .i64 a0.Peer), .d (slD HelloKey.enc a0.Keys), .d (.int .i64 a0.Boot), .d (slD HelloEntry.enc a0.Want), .d (.int .i64 a0.Turn), .d (.int .i64 a0.PeerBoot), .d (.int .i64 a0.PeerTurn), .d (.bool a0.Up), .d (.int .i64 a0.Left), .d (.int .i64 a0.Num), .d (.int .i64 a0.Under.Kind), .d (.int .i64 a0.Under.Entry.Addr), .d (.int .i64 a0.Under.Entry.Len), .d (.int .i64 a0.Under.Entry.Cost), .d (.int .i64 a0.Under.Entry.Label), .d (slD HelloEntry.enc a0.Told), .d (.bool a0.All), .d (.int .i64 a0.Got), .d (.bool a0.Full), .d (slD HelloRoute.enc a0.Heard), .d (.int .i64 a0.Keep)], .agg [.d (.int .i64 a1.From), .d (.int .i64 a1.To), .d (.int .i64 a1.Key), .d (.int .i64 a1.Boot), .d (.int .i64 a1.Yours), .d (.int .i64 a1.Turn), .d (.int .i64 a1.Num), .d (.int .i64 a1.Heard), .d (.int .i64 a1.Change.Kind), .d (.int .i64 a1.Change.Entry.Addr), .d (.int .i64 a1.Change.Entry.Len), .d (.int .i64 a1.Change.Entry.Cost), .d (.int .i64 a1.Change.Entry.Label), .d (.int .i64 a1.Sum)]] (.d (.bool r)) [] := by
  refine pureC_x tOk (fn := Tryz.f3) (c := codeOf Tryz.f3) rfl rfl ?_
  unfold laws_FnExactHelloHear_m at h
  conv => whnf
  obtain ⟨x1, hx1, h⟩ := bd_some h
  refine cC 0 (laws_szHelloEnd_c hx1) ?_
  clear hx1
  conv => whnf
  refine seq_in tOk ?_
  conv => whnf
  refine andI h (fun _ h => ?_) (fun _ h => ?_)
  · conv => whnf
    obtain rfl := Option.some.inj h
    exact lfP []
  · conv => whnf
    obtain ⟨x2, hx2, h⟩ := bd_some h
    obtain ⟨x3, hx3, h⟩ := bd_some h
    obtain ⟨x4, hx4, h⟩ := bd_some h
    refine draw_u tOk [.u 1 1000 (.agg [.d (.int .i64 x2.Name), .d (.int .i64 x2.Peer), .osl 5001 0 x2.Keys.length, .d (.int .i64 x2.Boot), .osl 5002 0 x2.Want.length, .d (.int .i64 x2.Turn), .d (.int .i64 x2.PeerBoot), .d (.int .i64 x2.PeerTurn), .d (.bool x2.Up), .d (.int .i64 x2.Left), .d (.int .i64 x2.Num), .d (.int .i64 x2.Under.Kind), .d (.int .i64 x2.Under.Entry.Addr), .d (.int .i64 x2.Under.Entry.Len), .d (.int .i64 x2.Under.Entry.Cost), .d (.int .i64 x2.Under.Entry.Label), .osl 5003 0 x2.Told.length, .d (.bool x2.All), .d (.int .i64 x2.Got), .d (.bool x2.Full), .osl 5004 0 x2.Heard.length, .d (.int .i64 x2.Keep)]) [⟨5001, 90, 2, x2.Keys.length, rows HelloKey.enc x2.Keys⟩, ⟨5002, 36, 4, x2.Want.length, rows HelloEntry.enc x2.Want⟩, ⟨5003, 36, 4, x2.Told.length, rows HelloEntry.enc x2.Told⟩, ⟨5004, 94, 5, x2.Heard.length, rows HelloRoute.enc x2.Heard⟩], .u 3 0 (.agg [.d (.int .i64 x3.From), .d (.int .i64 x3.To), .d (.int .i64 x3.Key), .d (.int .i64 x3.Boot), .d (.int .i64 x3.Yours), .d (.int .i64 x3.Turn), .d (.int .i64 x3.Num), .d (.int .i64 x3.Heard), .d (.int .i64 x3.Change.Kind), .d (.int .i64 x3.Change.Entry.Addr), .d (.int .i64 x3.Change.Entry.Len), .d (.int .i64 x3.Change.Entry.Cost), .d (.int .i64 x3.Change.Entry.Label), .d (.int .i64 x3.Sum)]) [], .u 4 2000 (.agg [.d (.int .i64 x4.Name), .d (.int .i64 x4.Peer), .osl 5001 0 x4.Keys.length, .d (.int .i64 x4.Boot), .osl 5002 0 x4.Want.length, .d (.int .i64 x4.Turn), .d (.int .i64 x4.PeerBoot), .d (.int .i64 x4.PeerTurn), .d (.bool x4.Up), .d (.int .i64 x4.Left), .d (.int .i64 x4.Num), .d (.int .i64 x4.Under.Kind), .d (.int .i64 x4.Under.Entry.Addr), .d (.int .i64 x4.Under.Entry.Len), .d (.int .i64 x4.Under.Entry.Cost), .d (.int .i64 x4.Under.Entry.Label), .osl 5003 0 x4.Told.length, .d (.bool x4.All), .d (.int .i64 x4.Got), .d (.bool x4.Full), .osl 5004 0 x4.Heard.length, .d (.int .i64 x4.Keep)]) [⟨5001, 90, 2, x4.Keys.length, rows HelloKey.enc x4.Keys⟩, ⟨5002, 36, 4, x4.Want.length, rows HelloEntry.enc x4.Want⟩, ⟨5003, 36, 4, x4.Told.length, rows HelloEntry.enc x4.Told⟩, ⟨5004, 94, 5, x4.Heard.length, rows HelloRoute.enc x4.Heard⟩]] 6 [] [0, 1, 0, 7, 15, 0] [63] ?_
    conv => whnf
    refine And.intro (callD_any (laws_toHelloEnd_c hx2) (by kernel_rfl)) ?_
    conv => whnf
    refine And.intro (callD_any (laws_toHelloWord_c hx3) (by kernel_rfl)) ?_
    conv => whnf
    refine And.intro (callD_any (spec_HelloHear_c hx4) (by kernel_rfl)) ?_
    conv => whnf
    refine And.intro (by kernel_rfl) ?_
    conv => whnf
    obtain ⟨x5, hx5, h⟩ := bd_some h
    refine cC 3000 (laws_toHelloEnd_c hx5) ?_
    clear hx5
    conv => whnf
    obtain ⟨x6, hx6, h⟩ := bd_some h
    obtain ⟨x7, hx7, h⟩ := bd_some h
    refine draw_u tOk [.u 2 0 (.agg [.d (.int .i64 x6.From), .d (.int .i64 x6.To), .d (.int .i64 x6.Key), .d (.int .i64 x6.Boot), .d (.int .i64 x6.Yours), .d (.int .i64 x6.Turn), .d (.int .i64 x6.Num), .d (.int .i64 x6.Heard), .d (.int .i64 x6.Change.Kind), .d (.int .i64 x6.Change.Entry.Addr), .d (.int .i64 x6.Change.Entry.Len), .d (.int .i64 x6.Change.Entry.Cost), .d (.int .i64 x6.Change.Entry.Label), .d (.int .i64 x6.Sum)]) [], .u 3 4000 (.agg [.d (.int .i64 x7.Name), .d (.int .i64 x7.Peer), .osl 5001 0 x7.Keys.length, .d (.int .i64 x7.Boot), .osl 5002 0 x7.Want.length, .d (.int .i64 x7.Turn), .d (.int .i64 x7.PeerBoot), .d (.int .i64 x7.PeerTurn), .d (.bool x7.Up), .d (.int .i64 x7.Left), .d (.int .i64 x7.Num), .d (.int .i64 x7.Under.Kind), .d (.int .i64 x7.Under.Entry.Addr), .d (.int .i64 x7.Under.Entry.Len), .d (.int .i64 x7.Under.Entry.Cost), .d (.int .i64 x7.Under.Entry.Label), .osl 5003 0 x7.Told.length, .d (.bool x7.All), .d (.int .i64 x7.Got), .d (.bool x7.Full), .osl 5004 0 x7.Heard.length, .d (.int .i64 x7.Keep)]) [⟨5001, 90, 2, x7.Keys.length, rows HelloKey.enc x7.Keys⟩, ⟨5002, 36, 4, x7.Want.length, rows HelloEntry.enc x7.Want⟩, ⟨5003, 36, 4, x7.Told.length, rows HelloEntry.enc x7.Told⟩, ⟨5004, 94, 5, x7.Heard.length, rows HelloRoute.enc x7.Heard⟩]] 5 [] [0, 0, 2, 7, 0] [31] ?_
    conv => whnf
    refine And.intro (callD_any (laws_toHelloWord_c hx6) (by kernel_rfl)) ?_
    conv => whnf
    refine And.intro (callD_any (impl_HelloHear_pu_o02_04_016_020_c hx7) (by kernel_rfl)) ?_
    conv => whnf
    refine And.intro (by kernel_rfl) ?_
    conv => whnf
    refine seq_in tOk ?_
    conv => whnf
    obtain ⟨x8, hx8, h⟩ := bd_some h
    refine cC 0 (laws_eqHelloEnd_c hx8) ?_
    clear hx8
    conv => whnf
    refine andI h (fun _ h => ?_) (fun _ h => ?_)
    · conv => whnf
      obtain rfl := Option.some.inj h
      exact lfP []
    · conv => whnf
      refine seq_in tOk ?_
      conv => whnf
      obtain ⟨x9, hx9, h⟩ := bd_some h
      obtain ⟨x10, hx10, h⟩ := bd_some h
      refine draw_u tOk [.u 2 5000 (.agg [.d (.int .i64 x9.Name), .d (.int .i64 x9.Peer), .osl 5001 0 x9.Keys.length, .d (.int .i64 x9.Boot), .osl 5002 0 x9.Want.length, .d (.int .i64 x9.Turn), .d (.int .i64 x9.PeerBoot), .d (.int .i64 x9.PeerTurn), .d (.bool x9.Up), .d (.int .i64 x9.Left), .d (.int .i64 x9.Num), .d (.int .i64 x9.Under.Kind), .d (.int .i64 x9.Under.Entry.Addr), .d (.int .i64 x9.Under.Entry.Len), .d (.int .i64 x9.Under.Entry.Cost), .d (.int .i64 x9.Under.Entry.Label), .osl 5003 0 x9.Told.length, .d (.bool x9.All), .d (.int .i64 x9.Got), .d (.bool x9.Full), .osl 5004 0 x9.Heard.length, .d (.int .i64 x9.Keep)]) [⟨5001, 90, 2, x9.Keys.length, rows HelloKey.enc x9.Keys⟩, ⟨5002, 36, 4, x9.Want.length, rows HelloEntry.enc x9.Want⟩, ⟨5003, 36, 4, x9.Told.length, rows HelloEntry.enc x9.Told⟩, ⟨5004, 94, 5, x9.Heard.length, rows HelloRoute.enc x9.Heard⟩], .u 3 0 (.d (.bool x10)) []] 5 [] [0, 0, 2, 7, 15] [] ?_
      conv => whnf
      refine And.intro (callD_any (laws_toHelloEnd_c hx9) (by kernel_rfl)) ?_
      conv => whnf
      refine And.intro (callD_any (laws_eqHelloEnd_c hx10) (by kernel_rfl)) ?_
      conv => whnf
      refine And.intro (by kernel_rfl) ?_
      conv => whnf
      refine andI h (fun _ h => ?_) (fun _ h => ?_)
      · conv => whnf
        obtain rfl := Option.some.inj h
        exact lfP []
      · conv => whnf
        obtain ⟨x11, hx11, h⟩ := bd_some h
        obtain ⟨g24, h⟩ := gd_some h
        obtain ⟨g25, h⟩ := gd_some h
        obtain ⟨g26, h⟩ := gd_some h
        obtain ⟨g27, h⟩ := gd_some h
        refine cE2 [(9000, 8001), (9001, 8002), (9002, 8003), (9003, 8004)] 0 (laws_markHelloEnd_c hx11) ?_
        conv => whnf
        refine seq_in tOk ?_
        conv => whnf
        obtain ⟨x12, hx12, h⟩ := bd_some h
        refine cG (fun c0 => laws_eqHelloEnd_c (gcall_some hx12 c0)) ?_
        conv => whnf
        refine andI h (fun _ h => ?_) (fun _ h => ?_)
        · conv => whnf
          obtain rfl := Option.some.inj h
          exact lfP []
        · conv => whnf
          obtain ⟨x13, hx13, h⟩ := bd_some h
          obtain ⟨g20, h⟩ := gd_some h
          obtain ⟨g21, h⟩ := gd_some h
          obtain ⟨g22, h⟩ := gd_some h
          obtain ⟨g23, h⟩ := gd_some h
          refine cE2 [(9000, 9001), (9001, 9002), (9002, 9003), (9003, 9004)] 0 (laws_markHelloEnd_c hx13) ?_
          conv => whnf
          obtain ⟨x14, hx14, h⟩ := bd_some h
          refine callW (args1 := [.agg [.d (.int .i64 x7.Name), .d (.int .i64 x7.Peer), .d (.sl x7.Keys.length (rows HelloKey.enc x13.2.Keys)), .d (.int .i64 x7.Boot), .d (.sl x7.Want.length (rows HelloEntry.enc x13.2.Want)), .d (.int .i64 x7.Turn), .d (.int .i64 x7.PeerBoot), .d (.int .i64 x7.PeerTurn), .d (.bool x7.Up), .d (.int .i64 x7.Left), .d (.int .i64 x7.Num), .d (.int .i64 x7.Under.Kind), .d (.int .i64 x7.Under.Entry.Addr), .d (.int .i64 x7.Under.Entry.Len), .d (.int .i64 x7.Under.Entry.Cost), .d (.int .i64 x7.Under.Entry.Label), .d (.sl x7.Told.length (rows HelloEntry.enc x13.2.Told)), .d (.bool x7.All), .d (.int .i64 x7.Got), .d (.bool x7.Full), .d (.sl x7.Heard.length (rows HelloRoute.enc x13.2.Heard)), .d (.int .i64 x7.Keep)], .d (.int .i64 1)]) 0 (laws_heldHelloEnd_c hx14) (by kernel_rfl) argA (by kernel_rfl) ?_
          conv => whnf
          refine seq_in tOk ?_
          conv => whnf
          refine andI h (fun _ h => ?_) (fun _ h => ?_)
          · conv => whnf
            obtain rfl := Option.some.inj h
            exact lfP []
          · conv => whnf
            refine seq_in tOk ?_
            conv => whnf
            refine andI h (fun _ h => ?_) (fun _ h => ?_)
            · conv => whnf
              obtain rfl := Option.some.inj h
              exact lfP []
            · conv => whnf
              obtain ⟨x15, hx15, h⟩ := bd_some h
              obtain ⟨x16, hx16, h⟩ := bd_some h
              obtain ⟨x17, hx17, h⟩ := bd_some h
              refine draw_u tOk [.u 1 6000 (.agg [.d (.int .i64 x15.Name), .d (.int .i64 x15.Peer), .osl 5001 0 x15.Keys.length, .d (.int .i64 x15.Boot), .osl 5002 0 x15.Want.length, .d (.int .i64 x15.Turn), .d (.int .i64 x15.PeerBoot), .d (.int .i64 x15.PeerTurn), .d (.bool x15.Up), .d (.int .i64 x15.Left), .d (.int .i64 x15.Num), .d (.int .i64 x15.Under.Kind), .d (.int .i64 x15.Under.Entry.Addr), .d (.int .i64 x15.Under.Entry.Len), .d (.int .i64 x15.Under.Entry.Cost), .d (.int .i64 x15.Under.Entry.Label), .osl 5003 0 x15.Told.length, .d (.bool x15.All), .d (.int .i64 x15.Got), .d (.bool x15.Full), .osl 5004 0 x15.Heard.length, .d (.int .i64 x15.Keep)]) [⟨5001, 90, 2, x15.Keys.length, rows HelloKey.enc x15.Keys⟩, ⟨5002, 36, 4, x15.Want.length, rows HelloEntry.enc x15.Want⟩, ⟨5003, 36, 4, x15.Told.length, rows HelloEntry.enc x15.Told⟩, ⟨5004, 94, 5, x15.Heard.length, rows HelloRoute.enc x15.Heard⟩], .u 3 0 (.agg [.d (.int .i64 x16.From), .d (.int .i64 x16.To), .d (.int .i64 x16.Key), .d (.int .i64 x16.Boot), .d (.int .i64 x16.Yours), .d (.int .i64 x16.Turn), .d (.int .i64 x16.Num), .d (.int .i64 x16.Heard), .d (.int .i64 x16.Change.Kind), .d (.int .i64 x16.Change.Entry.Addr), .d (.int .i64 x16.Change.Entry.Len), .d (.int .i64 x16.Change.Entry.Cost), .d (.int .i64 x16.Change.Entry.Label), .d (.int .i64 x16.Sum)]) [], .u 4 7000 (.agg [.d (.int .i64 x17.Name), .d (.int .i64 x17.Peer), .osl 5001 0 x17.Keys.length, .d (.int .i64 x17.Boot), .osl 5002 0 x17.Want.length, .d (.int .i64 x17.Turn), .d (.int .i64 x17.PeerBoot), .d (.int .i64 x17.PeerTurn), .d (.bool x17.Up), .d (.int .i64 x17.Left), .d (.int .i64 x17.Num), .d (.int .i64 x17.Under.Kind), .d (.int .i64 x17.Under.Entry.Addr), .d (.int .i64 x17.Under.Entry.Len), .d (.int .i64 x17.Under.Entry.Cost), .d (.int .i64 x17.Under.Entry.Label), .osl 5003 0 x17.Told.length, .d (.bool x17.All), .d (.int .i64 x17.Got), .d (.bool x17.Full), .osl 5004 0 x17.Heard.length, .d (.int .i64 x17.Keep)]) [⟨5001, 90, 2, x17.Keys.length, rows HelloKey.enc x17.Keys⟩, ⟨5002, 36, 4, x17.Want.length, rows HelloEntry.enc x17.Want⟩, ⟨5003, 36, 4, x17.Told.length, rows HelloEntry.enc x17.Told⟩, ⟨5004, 94, 5, x17.Heard.length, rows HelloRoute.enc x17.Heard⟩]] 6 [] [0, 1, 0, 7, 15, 0] [63] ?_
              conv => whnf
              refine And.intro (callD_any (laws_toHelloEnd_c hx15) (by kernel_rfl)) ?_
              conv => whnf
              refine And.intro (callD_any (laws_toHelloWord_c hx16) (by kernel_rfl)) ?_
              conv => whnf
              refine And.intro (callD_any (impl_HelloHear_pu_o02_04_016_020_c hx17) (by kernel_rfl)) ?_
              conv => whnf
              refine And.intro (by kernel_rfl) ?_
              conv => whnf
              refine seq_in tOk ?_
              conv => whnf
              obtain ⟨x18, hx18, h⟩ := bd_some h
              refine cC 0 (laws_eqHelloEnd_c hx18) ?_
              clear hx18
              conv => whnf
              refine andI h (fun _ h => ?_) (fun _ h => ?_)
              · conv => whnf
                obtain rfl := Option.some.inj h
                exact lfP []
              · conv => whnf
                obtain ⟨x19, hx19, h⟩ := bd_some h
                refine callW (args1 := [.agg [.d (.int .i64 x7.Name), .d (.int .i64 x7.Peer), .d (.sl x7.Keys.length (rows HelloKey.enc x13.2.Keys)), .d (.int .i64 x7.Boot), .d (.sl x7.Want.length (rows HelloEntry.enc x13.2.Want)), .d (.int .i64 x7.Turn), .d (.int .i64 x7.PeerBoot), .d (.int .i64 x7.PeerTurn), .d (.bool x7.Up), .d (.int .i64 x7.Left), .d (.int .i64 x7.Num), .d (.int .i64 x7.Under.Kind), .d (.int .i64 x7.Under.Entry.Addr), .d (.int .i64 x7.Under.Entry.Len), .d (.int .i64 x7.Under.Entry.Cost), .d (.int .i64 x7.Under.Entry.Label), .d (.sl x7.Told.length (rows HelloEntry.enc x13.2.Told)), .d (.bool x7.All), .d (.int .i64 x7.Got), .d (.bool x7.Full), .d (.sl x7.Heard.length (rows HelloRoute.enc x13.2.Heard)), .d (.int .i64 x7.Keep)], .d (.int .i64 1)]) 0 (laws_heldHelloEnd_c hx19) (by kernel_rfl) argA (by kernel_rfl) ?_
                conv => whnf
                refine seq_in tOk ?_
                conv => whnf
                refine andI h (fun _ h => ?_) (fun _ h => ?_)
                · conv => whnf
                  obtain rfl := Option.some.inj h
                  exact lfP []
                · conv => whnf
                  refine seq_in tOk ?_
                  conv => whnf
                  refine andI h (fun _ h => ?_) (fun _ h => ?_)
                  · conv => whnf
                    obtain rfl := Option.some.inj h
                    exact lfP []
                  · conv => whnf
                    obtain rfl := Option.some.inj h
                    exact lfP []

end Go.Proofs.YtaoeomoepefojaaGreat
