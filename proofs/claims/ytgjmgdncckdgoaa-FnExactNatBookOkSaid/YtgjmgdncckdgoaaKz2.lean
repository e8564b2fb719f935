/-
  What some of the program's functions compute: their models, and that the functions compute these; no condition.
-/
import Derived.Test.YtgjmgdncckdgoaaTyz
import Derived.Test.YtgjmgdncckdgoaaTbz
import Derived.Test.YtgjmgdncckdgoaaKz1
set_option linter.all false
namespace Go.Proofs.Ytgjmgdncckdgoaa
open Go Go.Ab
set_option maxRecDepth 100000
set_option maxHeartbeats 1000000
noncomputable def laws_szNatDoorS_m (a0 : (List NatDoor)) (a1 : Int) : Option (Int) :=
(if (decide ((IntKind.i64.wrap (a1 - ((a0.length : Nat) : Int))) < 0)) = true then
 some (-1)
else
 some (IntKind.i64.wrap (a1 - ((a0.length : Nat) : Int))))

theorem laws_szNatDoorS_c {a0 : (List NatDoor)} {a1 : Int} {r : Int} (h : laws_szNatDoorS_m a0 a1 = some r) : PureC Try.prog 40 [.d (slD NatDoor.enc a0), .d (.int .i64 a1)] (.d (.int .i64 r)) [] := by
  refine pureC_m tOk (fn := Try.f40) (c := codeOf Try.f40) rfl rfl (by kernel_rfl) rfl rfl (by simp) (by simp) (ids_of rfl) ?_
  unfold laws_szNatDoorS_m at h
  conv => whnf
  refine And.intro (fun e => ?_) (fun e => ?_)
  · replace h := ite_t h e; clear e
    conv => whnf
    obtain rfl := Option.some.inj h
    exact ⟨_, LE.refl _, And.intro rfl trivial⟩
  · replace h := ite_f h e; clear e
    conv => whnf
    obtain rfl := Option.some.inj h
    exact ⟨_, LE.refl _, And.intro rfl trivial⟩

noncomputable def impl_NatBack_m (a0 : NatFlow) : Option (NatFlow) :=
 some (⟨a0.Kind, a0.To, a0.ToPort, a0.From, a0.FromPort⟩ : NatFlow)

theorem impl_NatBack_c {a0 : NatFlow} {r : NatFlow} (h : impl_NatBack_m a0 = some r) : PureC Try.prog 37 [.agg [.d (.int .i64 a0.Kind), .d (.int .i64 a0.From), .d (.int .i64 a0.FromPort), .d (.int .i64 a0.To), .d (.int .i64 a0.ToPort)]] (.agg [.d (.int .i64 r.Kind), .d (.int .i64 r.From), .d (.int .i64 r.FromPort), .d (.int .i64 r.To), .d (.int .i64 r.ToPort)]) [] := by
  refine pureC_m tOk (fn := Try.f37) (c := codeOf Try.f37) rfl rfl (by kernel_rfl) rfl rfl (by simp) (by simp) (ids_of rfl) ?_
  unfold impl_NatBack_m at h
  conv => whnf
  obtain rfl := Option.some.inj h
  exact ⟨_, LE.refl _, And.intro rfl trivial⟩

noncomputable def impl_NatIn_m (a0 : NatBook) (a1 : NatFlow) : Option (NatFlow × Int) :=
 bd (impl_NatBookOk_m a0) fun x1 =>
(if (!x1) = true then
 some ((⟨0, 0, 0, 0, 0⟩ : NatFlow), 1)
else
 bd (impl_NatFlowOk_m a1) fun x2 =>
(if (!x2) = true then
 some ((⟨0, 0, 0, 0, 0⟩ : NatFlow), 2)
else
 bd (gcall ((a1.To != a0.Own) = false) (impl_NatBook_inside_m a0 a1.From)) fun x3 =>
(if (((a1.To != a0.Own) || x3) || (a1.From == a0.Own)) = true then
 some ((⟨0, 0, 0, 0, 0⟩ : NatFlow), 3)
else
 bd (lp (σ := Int) (β := ((Int × Int) ⊕ Unit)) (fun s4 =>
(if (decide (s4 < ((a0.Doors.length : Nat) : Int))) = true then
 gd ((0 : Int) ≤ s4 ∧ s4 < ((a0.Doors.length : Nat) : Int)) <|
(if ((((a0.Doors.getD s4.toNat default).Kind) == a1.Kind) && (((a0.Doors.getD s4.toNat default).Outer) == a1.ToPort)) = true then
 some (.inr (.inl ((a0.Doors.getD s4.toNat default).Inner, (a0.Doors.getD s4.toNat default).InnerPort)))
else
 some (.inl (IntKind.i64.wrap (s4 + 1))))
else
 some (.inr (.inr ())))) 0) fun x7 =>
(match x7 with
| .inl d9 =>
 some ({ a1 with To := d9.1, ToPort := d9.2 }, 0)
| .inr d10 =>
 bd (lp (σ := Int) (β := ((Int × Int × Int × Int × Int) ⊕ Unit)) (fun s11 =>
(if (decide (s11 < ((a0.Entries.length : Nat) : Int))) = true then
 gd ((0 : Int) ≤ s11 ∧ s11 < ((a0.Entries.length : Nat) : Int)) <|
 bd (impl_NatBook_lives_m a0 (a0.Entries.getD s11.toNat default)) fun x16 =>
(if ((((x16 && (((a0.Entries.getD s11.toNat default).Kind) == a1.Kind)) && (((a0.Entries.getD s11.toNat default).Peer) == a1.From)) && (((a0.Entries.getD s11.toNat default).PeerPort) == a1.FromPort)) && (((a0.Entries.getD s11.toNat default).Outer) == a1.ToPort)) = true then
 bd (impl_NatEntry_flow_m (a0.Entries.getD s11.toNat default)) fun x17 =>
 bd (impl_NatBack_m x17) fun x18 =>
 some (.inr (.inl (x18.Kind, x18.From, x18.FromPort, x18.To, x18.ToPort)))
else
 some (.inl (IntKind.i64.wrap (s11 + 1))))
else
 some (.inr (.inr ())))) 0) fun x14 =>
(match x14 with
| .inl d19 =>
 some ((⟨d19.1, d19.2.1, d19.2.2.1, d19.2.2.2.1, d19.2.2.2.2⟩ : NatFlow), 0)
| .inr d20 =>
 some ((⟨0, 0, 0, 0, 0⟩ : NatFlow), 6))))))

theorem impl_NatIn_c {a0 : NatBook} {a1 : NatFlow} {r : NatFlow × Int} (h : impl_NatIn_m a0 a1 = some r) : PureC Try.prog 22 [.agg [.d (.int .i64 a0.Addr), .d (.int .i64 a0.Len), .d (.int .i64 a0.Own), .d (.int .i64 a0.Low), .d (.int .i64 a0.High), .d (slD NatDoor.enc a0.Doors), .d (.int .i64 a0.Now), .d (slD NatEntry.enc a0.Entries)], .agg [.d (.int .i64 a1.Kind), .d (.int .i64 a1.From), .d (.int .i64 a1.FromPort), .d (.int .i64 a1.To), .d (.int .i64 a1.ToPort)]] (.tup [.agg [.d (.int .i64 r.1.Kind), .d (.int .i64 r.1.From), .d (.int .i64 r.1.FromPort), .d (.int .i64 r.1.To), .d (.int .i64 r.1.ToPort)], .d (.int .i64 r.2)]) [] := by
  refine pureC_m tOk (fn := Try.f22) (c := codeOf Try.f22) rfl rfl (by kernel_rfl) rfl rfl (by simp) (by simp) (ids_of rfl) ?_
  unfold impl_NatIn_m at h
  conv => whnf
  obtain ⟨x1, hx1, h⟩ := bd_some h
  refine callC 0 (impl_NatBookOk_c hx1) rfl rfl ?_
  clear hx1
  conv => whnf
  refine And.intro (fun e => ?_) (fun e => ?_)
  · replace h := ite_t h e; clear e
    conv => whnf
    obtain rfl := Option.some.inj h
    exact ⟨_, LE.refl _, And.intro rfl trivial⟩
  · replace h := ite_f h e; clear e
    conv => whnf
    obtain ⟨x2, hx2, h⟩ := bd_some h
    refine callC 0 (impl_NatFlowOk_c hx2) rfl rfl ?_
    clear hx2
    conv => whnf
    refine And.intro (fun e => ?_) (fun e => ?_)
    · replace h := ite_t h e; clear e
      conv => whnf
      obtain rfl := Option.some.inj h
      exact ⟨_, LE.refl _, And.intro rfl trivial⟩
    · replace h := ite_f h e; clear e
      conv => whnf
      obtain ⟨x3, hx3, h⟩ := bd_some h
      refine callG_m rfl rfl rfl rfl rfl rfl (by intro c0; exact impl_NatBook_inside_c (gcall_some hx3 c0)) ?_
      conv => whnf
      refine And.intro (fun e => ?_) (fun e => ?_)
      · replace h := ite_t h e; clear e
        conv => whnf
        obtain rfl := Option.some.inj h
        exact ⟨_, LE.refl _, And.intro rfl trivial⟩
      · replace h := ite_f h e; clear e
        conv => whnf
        obtain ⟨x7, hx7, h⟩ := bd_some h
        refine loop_m tOk hx7 (fun s4 => ⟨0, 114, [(2, .ref 2 0 0), (3, .ref 3 0 0), (4, .ref 4 0 0), (41, .d (slD NatDoor.enc a0.Doors)), (42, .d (.int .i64 ((a0.Doors.length : Nat) : Int))), (43, .d (.int .i64 s4))], [], [(4, .box 39 [.d (.int .i64 0), .d (.int .i64 0), .d (.int .i64 0), .d (.int .i64 0), .d (.int .i64 0)]), (3, .box 39 [.d (.int .i64 a1.Kind), .d (.int .i64 a1.From), .d (.int .i64 a1.FromPort), .d (.int .i64 a1.To), .d (.int .i64 a1.ToPort)]), (2, .box 31 [.d (.int .i64 a0.Addr), .d (.int .i64 a0.Len), .d (.int .i64 a0.Own), .d (.int .i64 a0.Low), .d (.int .i64 a0.High), .d (slD NatDoor.enc a0.Doors), .d (.int .i64 a0.Now), .d (slD NatEntry.enc a0.Entries)])], []⟩) ?_ ?_
        · refine le_mk ?_ ?_ ?_ <;> (repeat' first | exact trivial | refine And.intro ?_ ?_ | exact VLe.refl _ | exact BLe.refl _ | (refine VLe.osl rfl ?_; simp) | (refine BLe.rows rfl ?_ fun _ _ => rfl; simp) | exact VLe.nil_osl rfl | (refine VLe.rows ?_ ?_ <;> simp) | exact VLe.any _)
        · clear hx7
          intro s4 y5 g6 hy5
          conv => whnf
          refine And.intro (fun e => ?_) (fun e => ?_)
          · replace g6 := ite_t g6 e; clear e
            conv => whnf
            obtain ⟨g8, g6⟩ := gd_some g6
            refine And.intro g8 ?_
            clear g8
            conv => whnf
            refine And.intro (fun e => ?_) (fun e => ?_)
            · replace g6 := ite_t g6 e; clear e
              conv => whnf
              obtain rfl := Option.some.inj g6
              obtain rfl := hy5 _ rfl
              obtain rfl := Option.some.inj h
              exact ⟨_, LE.refl _, And.intro rfl trivial⟩
            · replace g6 := ite_f g6 e; clear e
              conv => whnf
              obtain rfl := Option.some.inj g6
              refine ⟨_, rfl, le_mk ?_ ?_ ?_⟩ <;> (repeat' first | exact trivial | refine And.intro ?_ ?_ | exact VLe.refl _ | exact BLe.refl _ | (refine VLe.osl rfl ?_; simp) | (refine BLe.rows rfl ?_ fun _ _ => rfl; simp) | exact VLe.nil_osl rfl | (refine VLe.rows ?_ ?_ <;> simp) | exact VLe.any _)
          · replace g6 := ite_f g6 e; clear e
            conv => whnf
            obtain rfl := Option.some.inj g6
            obtain rfl := hy5 _ rfl
            obtain ⟨x14, hx14, h⟩ := bd_some h
            refine loop_m tOk hx14 (fun s11 => ⟨0, 114, [(2, .ref 2 0 0), (3, .ref 3 0 0), (4, .ref 4 0 0), (72, .d (slD NatEntry.enc a0.Entries)), (73, .d (.int .i64 ((a0.Entries.length : Nat) : Int))), (74, .d (.int .i64 s11))], [], [(4, .box 39 [.d (.int .i64 0), .d (.int .i64 0), .d (.int .i64 0), .d (.int .i64 0), .d (.int .i64 0)]), (3, .box 39 [.d (.int .i64 a1.Kind), .d (.int .i64 a1.From), .d (.int .i64 a1.FromPort), .d (.int .i64 a1.To), .d (.int .i64 a1.ToPort)]), (2, .box 31 [.d (.int .i64 a0.Addr), .d (.int .i64 a0.Len), .d (.int .i64 a0.Own), .d (.int .i64 a0.Low), .d (.int .i64 a0.High), .d (slD NatDoor.enc a0.Doors), .d (.int .i64 a0.Now), .d (slD NatEntry.enc a0.Entries)])], []⟩) ?_ ?_
            · refine le_mk ?_ ?_ ?_ <;> (repeat' first | exact trivial | refine And.intro ?_ ?_ | exact VLe.refl _ | exact BLe.refl _ | (refine VLe.osl rfl ?_; simp) | (refine BLe.rows rfl ?_ fun _ _ => rfl; simp) | exact VLe.nil_osl rfl | (refine VLe.rows ?_ ?_ <;> simp) | exact VLe.any _)
            · clear hx14
              intro s11 y12 g13 hy12
              conv => whnf
              refine And.intro (fun e => ?_) (fun e => ?_)
              · replace g13 := ite_t g13 e; clear e
                conv => whnf
                obtain ⟨g15, g13⟩ := gd_some g13
                refine And.intro g15 ?_
                clear g15
                conv => whnf
                obtain ⟨x16, hx16, g13⟩ := bd_some g13
                refine callC 0 (impl_NatBook_lives_c hx16) rfl rfl ?_
                clear hx16
                conv => whnf
                refine And.intro (fun e => ?_) (fun e => ?_)
                · replace g13 := ite_t g13 e; clear e
                  conv => whnf
                  obtain ⟨x17, hx17, g13⟩ := bd_some g13
                  refine callC 0 (impl_NatEntry_flow_c hx17) rfl rfl ?_
                  clear hx17
                  conv => whnf
                  obtain ⟨x18, hx18, g13⟩ := bd_some g13
                  refine callC 0 (impl_NatBack_c hx18) rfl rfl ?_
                  clear hx18
                  conv => whnf
                  obtain rfl := Option.some.inj g13
                  obtain rfl := hy12 _ rfl
                  obtain rfl := Option.some.inj h
                  exact ⟨_, LE.refl _, And.intro rfl trivial⟩
                · replace g13 := ite_f g13 e; clear e
                  conv => whnf
                  obtain rfl := Option.some.inj g13
                  refine ⟨_, rfl, le_mk ?_ ?_ ?_⟩ <;> (repeat' first | exact trivial | refine And.intro ?_ ?_ | exact VLe.refl _ | exact BLe.refl _ | (refine VLe.osl rfl ?_; simp) | (refine BLe.rows rfl ?_ fun _ _ => rfl; simp) | exact VLe.nil_osl rfl | (refine VLe.rows ?_ ?_ <;> simp) | exact VLe.any _)
              · replace g13 := ite_f g13 e; clear e
                conv => whnf
                obtain rfl := Option.some.inj g13
                obtain rfl := hy12 _ rfl
                obtain rfl := Option.some.inj h
                exact ⟨_, LE.refl _, And.intro rfl trivial⟩

noncomputable def laws_toNatDoor_m (a0 : NatDoor) : Option (NatDoor) :=
 some a0

theorem laws_toNatDoor_c {a0 : NatDoor} {r : NatDoor} (h : laws_toNatDoor_m a0 = some r) : PureC Try.prog 90 [.agg [.d (.int .i64 a0.Kind), .d (.int .i64 a0.Outer), .d (.int .i64 a0.Inner), .d (.int .i64 a0.InnerPort)]] (.agg [.d (.int .i64 r.Kind), .d (.int .i64 r.Outer), .d (.int .i64 r.Inner), .d (.int .i64 r.InnerPort)]) [] := by
  refine pureC_m tOk (fn := Try.f90) (c := codeOf Try.f90) rfl rfl (by kernel_rfl) rfl rfl (by simp) (by simp) (ids_of rfl) ?_
  unfold laws_toNatDoor_m at h
  conv => whnf
  obtain rfl := Option.some.inj h
  exact ⟨_, LE.refl _, And.intro rfl trivial⟩

noncomputable def laws_toNatDoorS_m (a0 : (List NatDoor)) : Option ((List NatDoor)) :=
 gd ((0 : Int) ≤ ((a0.length : Nat) : Int) ∧ ((a0.length : Nat) : Int) ≤ ((a0.length : Nat) : Int) ∧ ((a0.length : Nat) : Int) * 32 ≤ 140737488355328 ∧ ((a0.length : Nat) : Int) ≤ 140737488355328) <|
 bd (lp (σ := List NatDoor × Int) (β := (Nat × (List NatDoor))) (fun s1 =>
(if (decide (s1.2 < ((a0.length : Nat) : Int))) = true then
 gd ((0 : Int) ≤ s1.2 ∧ s1.2 < ((a0.length : Nat) : Int)) <|
 bd (laws_toNatDoor_m (a0.getD s1.2.toNat default)) fun x6 =>
 gd ((0 : Int) ≤ s1.2 ∧ s1.2 < ((s1.1.length : Nat) : Int)) <|
 some (.inl (s1.1.set s1.2.toNat x6, IntKind.i64.wrap (s1.2 + 1)))
else
 some (.inr (s1.1.length, s1.1)))) ((List.replicate (((a0.length : Nat) : Int) : Int).toNat (default : NatDoor)), 0)) fun x4 =>
 some x4.2

theorem laws_toNatDoorS_c {a0 : (List NatDoor)} {r : (List NatDoor)} (h : laws_toNatDoorS_m a0 = some r) : PureC Try.prog 45 [.d (slD NatDoor.enc a0)] (.osl 5001 0 r.length) [⟨5001, 83, 4, r.length, rows NatDoor.enc r⟩] := by
  refine pureC_m tOk (fn := Try.f45) (c := codeOf Try.f45) rfl rfl (by kernel_rfl) rfl rfl (by simp [atomD]) (by simp) (ids_of rfl) ?_
  unfold laws_toNatDoorS_m at h
  conv => whnf
  obtain ⟨g9, h⟩ := gd_some h
  refine And.intro g9 ?_
  clear g9
  refine ⟨(List.replicate (((a0.length : Nat) : Int) : Int).toNat (default : NatDoor)).length, rows NatDoor.enc (List.replicate (((a0.length : Nat) : Int) : Int).toNat (default : NatDoor)), by simp, make_rows rfl, ?_⟩
  conv => whnf
  obtain ⟨x4, hx4, h⟩ := bd_some h
  refine loop_m tOk hx4 (fun s1 => ⟨0, 23, [(0, .d (slD NatDoor.enc a0)), (3, .osl 7 0 s1.1.length), (4, .d (.int .i64 s1.2))], [], [(7, .arr 83 4 s1.1.length (rows NatDoor.enc s1.1))], []⟩) ?_ ?_
  · refine le_mk ?_ ?_ ?_ <;> (repeat' first | exact trivial | refine And.intro ?_ ?_ | exact VLe.refl _ | exact BLe.refl _ | (refine VLe.osl rfl ?_; simp) | (refine BLe.rows rfl ?_ fun _ _ => rfl; simp) | exact VLe.nil_osl rfl | (refine VLe.rows ?_ ?_ <;> simp) | exact VLe.any _)
  · clear hx4
    intro s1 y2 g3 hy2
    conv => whnf
    refine And.intro (fun e => ?_) (fun e => ?_)
    · replace g3 := ite_t g3 e; clear e
      conv => whnf
      obtain ⟨g5, g3⟩ := gd_some g3
      refine And.intro g5 ?_
      clear g5
      conv => whnf
      obtain ⟨x6, hx6, g3⟩ := bd_some g3
      refine callC 0 (laws_toNatDoor_c hx6) rfl rfl ?_
      clear hx6
      conv => whnf
      obtain ⟨g7, g3⟩ := gd_some g3
      refine And.intro g7 ?_
      clear g7
      conv => whnf
      refine ⟨rows NatDoor.enc (s1.1.set s1.2.toNat x6), store_rows rfl, ?_⟩
      conv => whnf
      obtain rfl := Option.some.inj g3
      refine ⟨_, rfl, le_mk ?_ ?_ ?_⟩ <;> (repeat' first | exact trivial | refine And.intro ?_ ?_ | exact VLe.refl _ | exact BLe.refl _ | (refine VLe.osl rfl ?_; simp) | (refine BLe.rows rfl ?_ fun _ _ => rfl; simp) | exact VLe.nil_osl rfl | (refine VLe.rows ?_ ?_ <;> simp) | exact VLe.any _)
    · replace g3 := ite_f g3 e; clear e
      conv => whnf
      obtain rfl := Option.some.inj g3
      obtain rfl := hy2 _ rfl
      obtain rfl := Option.some.inj h
      refine ⟨⟨0, 23, [(2, .osl 5001 0 (s1.1.length, s1.1).2.length)], [], [(5001, .arr 83 4 (s1.1.length, s1.1).2.length (rows NatDoor.enc (s1.1.length, s1.1).2))], []⟩, ?_, And.intro rfl ?_⟩
      · refine LE.trans (S' := ⟨0, 23, [(2, .osl 7 0 (s1.1.length, s1.1).1)], [], [(7, .arr 83 4 (s1.1.length, s1.1).1 (rows NatDoor.enc (s1.1.length, s1.1).2))], []⟩) (le_mk ?_ ?_ ?_) (LE.trans (S' := ⟨0, 23, [(2, .osl 5001 0 (s1.1.length, s1.1).1)], [], [(5001, .arr 83 4 (s1.1.length, s1.1).1 (rows NatDoor.enc (s1.1.length, s1.1).2))], []⟩) (le_swaps [(7, 5001)] rfl) (le_mk ?_ ?_ ?_)) <;> (repeat' first | exact trivial | refine And.intro ?_ ?_ | exact VLe.refl _ | exact BLe.refl _ | (refine VLe.osl rfl ?_; simp) | (refine BLe.rows rfl ?_ fun _ _ => rfl; simp) | exact VLe.nil_osl rfl | (refine VLe.rows ?_ ?_ <;> simp) | exact VLe.any _)
      · exact And.intro (And.intro rfl (And.intro rfl (fun _ _ => rfl))) (trivial)

noncomputable def laws_toNatEntryS_m (a0 : (List NatEntry)) : Option ((List NatEntry)) :=
 gd ((0 : Int) ≤ ((a0.length : Nat) : Int) ∧ ((a0.length : Nat) : Int) ≤ ((a0.length : Nat) : Int) ∧ ((a0.length : Nat) : Int) * 56 ≤ 140737488355328 ∧ ((a0.length : Nat) : Int) ≤ 140737488355328) <|
 bd (lp (σ := List NatEntry × Int) (β := (Nat × (List NatEntry))) (fun s1 =>
(if (decide (s1.2 < ((a0.length : Nat) : Int))) = true then
 gd ((0 : Int) ≤ s1.2 ∧ s1.2 < ((a0.length : Nat) : Int)) <|
 bd (laws_toNatEntry_m (a0.getD s1.2.toNat default)) fun x6 =>
 gd ((0 : Int) ≤ s1.2 ∧ s1.2 < ((s1.1.length : Nat) : Int)) <|
 some (.inl (s1.1.set s1.2.toNat x6, IntKind.i64.wrap (s1.2 + 1)))
else
 some (.inr (s1.1.length, s1.1)))) ((List.replicate (((a0.length : Nat) : Int) : Int).toNat (default : NatEntry)), 0)) fun x4 =>
 some x4.2

theorem laws_toNatEntryS_c {a0 : (List NatEntry)} {r : (List NatEntry)} (h : laws_toNatEntryS_m a0 = some r) : PureC Try.prog 46 [.d (slD NatEntry.enc a0)] (.osl 5001 0 r.length) [⟨5001, 52, 7, r.length, rows NatEntry.enc r⟩] := by
  refine pureC_m tOk (fn := Try.f46) (c := codeOf Try.f46) rfl rfl (by kernel_rfl) rfl rfl (by simp [atomD]) (by simp) (ids_of rfl) ?_
  unfold laws_toNatEntryS_m at h
  conv => whnf
  obtain ⟨g9, h⟩ := gd_some h
  refine And.intro g9 ?_
  clear g9
  refine ⟨(List.replicate (((a0.length : Nat) : Int) : Int).toNat (default : NatEntry)).length, rows NatEntry.enc (List.replicate (((a0.length : Nat) : Int) : Int).toNat (default : NatEntry)), by simp, make_rows rfl, ?_⟩
  conv => whnf
  obtain ⟨x4, hx4, h⟩ := bd_some h
  refine loop_m tOk hx4 (fun s1 => ⟨0, 23, [(0, .d (slD NatEntry.enc a0)), (3, .osl 7 0 s1.1.length), (4, .d (.int .i64 s1.2))], [], [(7, .arr 52 7 s1.1.length (rows NatEntry.enc s1.1))], []⟩) ?_ ?_
  · refine le_mk ?_ ?_ ?_ <;> (repeat' first | exact trivial | refine And.intro ?_ ?_ | exact VLe.refl _ | exact BLe.refl _ | (refine VLe.osl rfl ?_; simp) | (refine BLe.rows rfl ?_ fun _ _ => rfl; simp) | exact VLe.nil_osl rfl | (refine VLe.rows ?_ ?_ <;> simp) | exact VLe.any _)
  · clear hx4
    intro s1 y2 g3 hy2
    conv => whnf
    refine And.intro (fun e => ?_) (fun e => ?_)
    · replace g3 := ite_t g3 e; clear e
      conv => whnf
      obtain ⟨g5, g3⟩ := gd_some g3
      refine And.intro g5 ?_
      clear g5
      conv => whnf
      obtain ⟨x6, hx6, g3⟩ := bd_some g3
      refine callC 0 (laws_toNatEntry_c hx6) rfl rfl ?_
      clear hx6
      conv => whnf
      obtain ⟨g7, g3⟩ := gd_some g3
      refine And.intro g7 ?_
      clear g7
      conv => whnf
      refine ⟨rows NatEntry.enc (s1.1.set s1.2.toNat x6), store_rows rfl, ?_⟩
      conv => whnf
      obtain rfl := Option.some.inj g3
      refine ⟨_, rfl, le_mk ?_ ?_ ?_⟩ <;> (repeat' first | exact trivial | refine And.intro ?_ ?_ | exact VLe.refl _ | exact BLe.refl _ | (refine VLe.osl rfl ?_; simp) | (refine BLe.rows rfl ?_ fun _ _ => rfl; simp) | exact VLe.nil_osl rfl | (refine VLe.rows ?_ ?_ <;> simp) | exact VLe.any _)
    · replace g3 := ite_f g3 e; clear e
      conv => whnf
      obtain rfl := Option.some.inj g3
      obtain rfl := hy2 _ rfl
      obtain rfl := Option.some.inj h
      refine ⟨⟨0, 23, [(2, .osl 5001 0 (s1.1.length, s1.1).2.length)], [], [(5001, .arr 52 7 (s1.1.length, s1.1).2.length (rows NatEntry.enc (s1.1.length, s1.1).2))], []⟩, ?_, And.intro rfl ?_⟩
      · refine LE.trans (S' := ⟨0, 23, [(2, .osl 7 0 (s1.1.length, s1.1).1)], [], [(7, .arr 52 7 (s1.1.length, s1.1).1 (rows NatEntry.enc (s1.1.length, s1.1).2))], []⟩) (le_mk ?_ ?_ ?_) (LE.trans (S' := ⟨0, 23, [(2, .osl 5001 0 (s1.1.length, s1.1).1)], [], [(5001, .arr 52 7 (s1.1.length, s1.1).1 (rows NatEntry.enc (s1.1.length, s1.1).2))], []⟩) (le_swaps [(7, 5001)] rfl) (le_mk ?_ ?_ ?_)) <;> (repeat' first | exact trivial | refine And.intro ?_ ?_ | exact VLe.refl _ | exact BLe.refl _ | (refine VLe.osl rfl ?_; simp) | (refine BLe.rows rfl ?_ fun _ _ => rfl; simp) | exact VLe.nil_osl rfl | (refine VLe.rows ?_ ?_ <;> simp) | exact VLe.any _)
      · exact And.intro (And.intro rfl (And.intro rfl (fun _ _ => rfl))) (trivial)

noncomputable def laws_toNatBook_m (a0 : NatBook) : Option (NatBook) :=
 bd (laws_toNatDoorS_m a0.Doors) fun x1 =>
 bd (laws_toNatEntryS_m a0.Entries) fun x2 =>
 some ({ a0 with Doors := x1, Entries := x2 })

theorem laws_toNatBook_c {a0 : NatBook} {r : NatBook} (h : laws_toNatBook_m a0 = some r) : PureC Try.prog 15 [.agg [.d (.int .i64 a0.Addr), .d (.int .i64 a0.Len), .d (.int .i64 a0.Own), .d (.int .i64 a0.Low), .d (.int .i64 a0.High), .d (slD NatDoor.enc a0.Doors), .d (.int .i64 a0.Now), .d (slD NatEntry.enc a0.Entries)]] (.agg [.d (.int .i64 r.Addr), .d (.int .i64 r.Len), .d (.int .i64 r.Own), .d (.int .i64 r.Low), .d (.int .i64 r.High), .osl 5001 0 r.Doors.length, .d (.int .i64 r.Now), .osl 5002 0 r.Entries.length]) [⟨5001, 83, 4, r.Doors.length, rows NatDoor.enc r.Doors⟩, ⟨5002, 52, 7, r.Entries.length, rows NatEntry.enc r.Entries⟩] := by
  refine pureC_m tOk (fn := Try.f15) (c := codeOf Try.f15) rfl rfl (by kernel_rfl) rfl rfl (by simp [atomD]) (by simp) (ids_of rfl) ?_
  unfold laws_toNatBook_m at h
  conv => whnf
  obtain ⟨x1, hx1, h⟩ := bd_some h
  refine callC 1000 (laws_toNatDoorS_c hx1) rfl rfl ?_
  clear hx1
  conv => whnf
  obtain ⟨x2, hx2, h⟩ := bd_some h
  refine callC 2000 (laws_toNatEntryS_c hx2) rfl rfl ?_
  clear hx2
  conv => whnf
  obtain rfl := Option.some.inj h
  refine ⟨⟨0, 31, [(2, .ref 2 0 0)], [], [(5002, .arr 52 7 x2.length (rows NatEntry.enc x2)), (5001, .arr 83 4 x1.length (rows NatDoor.enc x1)), (2, .box 31 [.d (.int .i64 a0.Addr), .d (.int .i64 a0.Len), .d (.int .i64 a0.Own), .d (.int .i64 a0.Low), .d (.int .i64 a0.High), .osl 5001 0 x1.length, .d (.int .i64 a0.Now), .osl 5002 0 x2.length])], []⟩, ?_, And.intro rfl ?_⟩
  · refine LE.trans (S' := ⟨0, 31, [(2, .ref 2 0 0)], [], [(7001, .arr 52 7 x2.length (rows NatEntry.enc x2)), (6001, .arr 83 4 x1.length (rows NatDoor.enc x1)), (2, .box 31 [.d (.int .i64 a0.Addr), .d (.int .i64 a0.Len), .d (.int .i64 a0.Own), .d (.int .i64 a0.Low), .d (.int .i64 a0.High), .osl 6001 0 x1.length, .d (.int .i64 a0.Now), .osl 7001 0 x2.length])], []⟩) (le_mk ?_ ?_ ?_) (le_swaps [(6001, 5001), (7001, 5002)] rfl) <;> (repeat' first | exact trivial | refine And.intro ?_ ?_ | exact VLe.refl _ | exact BLe.refl _ | (refine VLe.osl rfl ?_; simp) | (refine BLe.rows rfl ?_ fun _ _ => rfl; simp) | exact VLe.nil_osl rfl | (refine VLe.rows ?_ ?_ <;> simp) | exact VLe.any _)
  · exact And.intro (And.intro rfl (And.intro rfl (fun _ _ => rfl))) (And.intro (And.intro rfl (And.intro rfl (fun _ _ => rfl))) (trivial))

noncomputable def laws_szNatEntryS_m (a0 : (List NatEntry)) (a1 : Int) : Option (Int) :=
(if (decide ((IntKind.i64.wrap (a1 - ((a0.length : Nat) : Int))) < 0)) = true then
 some (-1)
else
 some (IntKind.i64.wrap (a1 - ((a0.length : Nat) : Int))))

theorem laws_szNatEntryS_c {a0 : (List NatEntry)} {a1 : Int} {r : Int} (h : laws_szNatEntryS_m a0 a1 = some r) : PureC Try.prog 41 [.d (slD NatEntry.enc a0), .d (.int .i64 a1)] (.d (.int .i64 r)) [] := by
  refine pureC_m tOk (fn := Try.f41) (c := codeOf Try.f41) rfl rfl (by kernel_rfl) rfl rfl (by simp) (by simp) (ids_of rfl) ?_
  unfold laws_szNatEntryS_m at h
  conv => whnf
  refine And.intro (fun e => ?_) (fun e => ?_)
  · replace h := ite_t h e; clear e
    conv => whnf
    obtain rfl := Option.some.inj h
    exact ⟨_, LE.refl _, And.intro rfl trivial⟩
  · replace h := ite_f h e; clear e
    conv => whnf
    obtain rfl := Option.some.inj h
    exact ⟨_, LE.refl _, And.intro rfl trivial⟩

noncomputable def laws_szNatBook_m (a0 : NatBook) (a1 : Int) : Option (Int) :=
 bd (laws_szNatDoorS_m a0.Doors a1) fun x1 =>
(if (decide (x1 < 0)) = true then
 some (-1)
else
 bd (laws_szNatEntryS_m a0.Entries x1) fun x2 =>
(if (decide (x2 < 0)) = true then
 some (-1)
else
 some x2))

theorem laws_szNatBook_c {a0 : NatBook} {a1 : Int} {r : Int} (h : laws_szNatBook_m a0 a1 = some r) : PureC Try.prog 13 [.agg [.d (.int .i64 a0.Addr), .d (.int .i64 a0.Len), .d (.int .i64 a0.Own), .d (.int .i64 a0.Low), .d (.int .i64 a0.High), .d (slD NatDoor.enc a0.Doors), .d (.int .i64 a0.Now), .d (slD NatEntry.enc a0.Entries)], .d (.int .i64 a1)] (.d (.int .i64 r)) [] := by
  refine pureC_m tOk (fn := Try.f13) (c := codeOf Try.f13) rfl rfl (by kernel_rfl) rfl rfl (by simp) (by simp) (ids_of rfl) ?_
  unfold laws_szNatBook_m at h
  conv => whnf
  obtain ⟨x1, hx1, h⟩ := bd_some h
  refine callC 0 (laws_szNatDoorS_c hx1) rfl rfl ?_
  clear hx1
  conv => whnf
  refine And.intro (fun e => ?_) (fun e => ?_)
  · replace h := ite_t h e; clear e
    conv => whnf
    obtain rfl := Option.some.inj h
    exact ⟨_, LE.refl _, And.intro rfl trivial⟩
  · replace h := ite_f h e; clear e
    conv => whnf
    obtain ⟨x2, hx2, h⟩ := bd_some h
    refine callC 0 (laws_szNatEntryS_c hx2) rfl rfl ?_
    clear hx2
    conv => whnf
    refine And.intro (fun e => ?_) (fun e => ?_)
    · replace h := ite_t h e; clear e
      conv => whnf
      obtain rfl := Option.some.inj h
      exact ⟨_, LE.refl _, And.intro rfl trivial⟩
    · replace h := ite_f h e; clear e
      conv => whnf
      obtain rfl := Option.some.inj h
      exact ⟨_, LE.refl _, And.intro rfl trivial⟩

noncomputable def laws_eqNatBook_m (a0 : NatBook) (a1 : NatBook) : Option (Bool) :=
(if (a0.Addr != a1.Addr) = true then
 some false
else
(if (a0.Len != a1.Len) = true then
 some false
else
(if (a0.Own != a1.Own) = true then
 some false
else
(if (a0.Low != a1.Low) = true then
 some false
else
(if (a0.High != a1.High) = true then
 some false
else
 bd (laws_eqNatDoorS_m a0.Doors a1.Doors) fun x1 =>
(if (!x1) = true then
 some false
else
(if (a0.Now != a1.Now) = true then
 some false
else
 bd (laws_eqNatEntryS_m a0.Entries a1.Entries) fun x2 =>
(if (!x2) = true then
 some false
else
 some true))))))))

theorem laws_eqNatBook_c {a0 : NatBook} {a1 : NatBook} {r : Bool} (h : laws_eqNatBook_m a0 a1 = some r) : PureC Try.prog 17 [.agg [.d (.int .i64 a0.Addr), .d (.int .i64 a0.Len), .d (.int .i64 a0.Own), .d (.int .i64 a0.Low), .d (.int .i64 a0.High), .d (slD NatDoor.enc a0.Doors), .d (.int .i64 a0.Now), .d (slD NatEntry.enc a0.Entries)], .agg [.d (.int .i64 a1.Addr), .d (.int .i64 a1.Len), .d (.int .i64 a1.Own), .d (.int .i64 a1.Low), .d (.int .i64 a1.High), .d (slD NatDoor.enc a1.Doors), .d (.int .i64 a1.Now), .d (slD NatEntry.enc a1.Entries)]] (.d (.bool r)) [] := by
  refine pureC_m tOk (fn := Try.f17) (c := codeOf Try.f17) rfl rfl (by kernel_rfl) rfl rfl (by simp) (by simp) (ids_of rfl) ?_
  unfold laws_eqNatBook_m at h
  conv => whnf
  refine And.intro (fun e => ?_) (fun e => ?_)
  · replace h := ite_t h e; clear e
    conv => whnf
    obtain rfl := Option.some.inj h
    exact ⟨_, LE.refl _, And.intro rfl trivial⟩
  · replace h := ite_f h e; clear e
    conv => whnf
    refine And.intro (fun e => ?_) (fun e => ?_)
    · replace h := ite_t h e; clear e
      conv => whnf
      obtain rfl := Option.some.inj h
      exact ⟨_, LE.refl _, And.intro rfl trivial⟩
    · replace h := ite_f h e; clear e
      conv => whnf
      refine And.intro (fun e => ?_) (fun e => ?_)
      · replace h := ite_t h e; clear e
        conv => whnf
        obtain rfl := Option.some.inj h
        exact ⟨_, LE.refl _, And.intro rfl trivial⟩
      · replace h := ite_f h e; clear e
        conv => whnf
        refine And.intro (fun e => ?_) (fun e => ?_)
        · replace h := ite_t h e; clear e
          conv => whnf
          obtain rfl := Option.some.inj h
          exact ⟨_, LE.refl _, And.intro rfl trivial⟩
        · replace h := ite_f h e; clear e
          conv => whnf
          refine And.intro (fun e => ?_) (fun e => ?_)
          · replace h := ite_t h e; clear e
            conv => whnf
            obtain rfl := Option.some.inj h
            exact ⟨_, LE.refl _, And.intro rfl trivial⟩
          · replace h := ite_f h e; clear e
            conv => whnf
            obtain ⟨x1, hx1, h⟩ := bd_some h
            refine callC 0 (laws_eqNatDoorS_c hx1) rfl rfl ?_
            clear hx1
            conv => whnf
            refine And.intro (fun e => ?_) (fun e => ?_)
            · replace h := ite_t h e; clear e
              conv => whnf
              obtain rfl := Option.some.inj h
              exact ⟨_, LE.refl _, And.intro rfl trivial⟩
            · replace h := ite_f h e; clear e
              conv => whnf
              refine And.intro (fun e => ?_) (fun e => ?_)
              · replace h := ite_t h e; clear e
                conv => whnf
                obtain rfl := Option.some.inj h
                exact ⟨_, LE.refl _, And.intro rfl trivial⟩
              · replace h := ite_f h e; clear e
                conv => whnf
                obtain ⟨x2, hx2, h⟩ := bd_some h
                refine callC 0 (laws_eqNatEntryS_c hx2) rfl rfl ?_
                clear hx2
                conv => whnf
                refine And.intro (fun e => ?_) (fun e => ?_)
                · replace h := ite_t h e; clear e
                  conv => whnf
                  obtain rfl := Option.some.inj h
                  exact ⟨_, LE.refl _, And.intro rfl trivial⟩
                · replace h := ite_f h e; clear e
                  conv => whnf
                  obtain rfl := Option.some.inj h
                  exact ⟨_, LE.refl _, And.intro rfl trivial⟩

noncomputable def laws_FnExactNatBookOk_m (a0 : NatBook) : Option (Bool) :=
 bd (laws_szNatBook_m a0 1048576) fun x1 =>
(if (decide (x1 < 0)) = true then
 some true
else
 bd (laws_toNatBook_m a0) fun x2 =>
 bd (spec_NatBookOk_m x2) fun x3 =>
 bd (laws_toNatBook_m a0) fun x4 =>
 bd (impl_NatBookOk_m x4) fun x5 =>
(if (!(x5 == x3)) = true then
 some false
else
 bd (laws_toNatBook_m a0) fun x6 =>
 bd (laws_eqNatBook_m x4 x6) fun x7 =>
(if (!x7) = true then
 some false
else
 some true)))

theorem laws_FnExactNatBookOk_c {a0 : NatBook} {r : Bool} (h : laws_FnExactNatBookOk_m a0 = some r) : PureC Try.prog 3 [.agg [.d (.int .i64 a0.Addr), .d (.int .i64 a0.Len), .d (.int .i64 a0.Own), .d (.int .i64 a0.Low), .d (.int .i64 a0.High), .d (slD NatDoor.enc a0.Doors), .d (.int .i64 a0.Now), .d (slD NatEntry.enc a0.Entries)]] (.d (.bool r)) [] := by
  refine pureC_m tOk (fn := Try.f3) (c := codeOf Try.f3) rfl rfl (by kernel_rfl) rfl rfl (by simp) (by simp) (ids_of rfl) ?_
  unfold laws_FnExactNatBookOk_m at h
  conv => whnf
  obtain ⟨x1, hx1, h⟩ := bd_some h
  refine callC 0 (laws_szNatBook_c hx1) rfl rfl ?_
  clear hx1
  conv => whnf
  refine And.intro (fun e => ?_) (fun e => ?_)
  · replace h := ite_t h e; clear e
    conv => whnf
    obtain rfl := Option.some.inj h
    exact ⟨_, LE.refl _, And.intro rfl trivial⟩
  · replace h := ite_f h e; clear e
    conv => whnf
    obtain ⟨x2, hx2, h⟩ := bd_some h
    refine callC 1000 (laws_toNatBook_c hx2) rfl rfl ?_
    clear hx2
    conv => whnf
    obtain ⟨x3, hx3, h⟩ := bd_some h
    refine callC 0 (spec_NatBookOk_c hx3) rfl rfl ?_
    clear hx3
    conv => whnf
    obtain ⟨x4, hx4, h⟩ := bd_some h
    refine callC 2000 (laws_toNatBook_c hx4) rfl rfl ?_
    clear hx4
    conv => whnf
    obtain ⟨x5, hx5, h⟩ := bd_some h
    refine callC 0 (impl_NatBookOk_c hx5) rfl rfl ?_
    clear hx5
    conv => whnf
    refine And.intro (fun e => ?_) (fun e => ?_)
    · replace h := ite_t h e; clear e
      conv => whnf
      obtain rfl := Option.some.inj h
      exact ⟨_, LE.refl _, And.intro rfl trivial⟩
    · replace h := ite_f h e; clear e
      conv => whnf
      obtain ⟨x6, hx6, h⟩ := bd_some h
      obtain ⟨x7, hx7, h⟩ := bd_some h
      refine draw_l tOk (by kernel_rfl) (fun j => match j with | 2 => some (3000, .agg [.d (.int .i64 x6.Addr), .d (.int .i64 x6.Len), .d (.int .i64 x6.Own), .d (.int .i64 x6.Low), .d (.int .i64 x6.High), .osl 5001 0 x6.Doors.length, .d (.int .i64 x6.Now), .osl 5002 0 x6.Entries.length], [⟨5001, 83, 4, x6.Doors.length, rows NatDoor.enc x6.Doors⟩, ⟨5002, 52, 7, x6.Entries.length, rows NatEntry.enc x6.Entries⟩]) | 3 => some (0, .d (.bool x7), []) | _ => none) 5 [] [[], [], [false, true], [true, true, true], [true, true, true, true]] (by decide) (by kernel_rfl) ?_
      conv => whnf
      refine And.intro (callD_any (laws_toNatBook_c hx6) rfl) ?_
      conv => whnf
      refine And.intro (callD_any (laws_eqNatBook_c hx7) rfl) ?_
      conv => whnf
      refine And.intro (fun e => ?_) (fun e => ?_)
      · replace h := ite_t h e; clear e
        conv => whnf
        obtain rfl := Option.some.inj h
        exact ⟨_, LE.refl _, And.intro rfl trivial⟩
      · replace h := ite_f h e; clear e
        conv => whnf
        obtain rfl := Option.some.inj h
        exact ⟨_, LE.refl _, And.intro rfl trivial⟩

end Go.Proofs.Ytgjmgdncckdgoaa
