/-
  What some of the program's functions compute: their models, and that the functions compute these; no condition.
-/
import Derived.Test.YtjpfiaejakidnaaTyz
import Derived.Test.YtjpfiaejakidnaaTbz
import Derived.Test.YtjpfiaejakidnaaLayz
import Derived.Test.YtjpfiaejakidnaaKz2
set_option linter.all false
namespace Go.Proofs.Ytjpfiaejakidnaa
open Go Go.Ab
set_option maxRecDepth 100000
set_option maxHeartbeats 4000000
noncomputable def impl_least_impl_AclWitness_1_m (a0 : (List AclRule)) (a1c0 : (List AclRule)) (a1c1 : Int) : Option (AclPacket × Bool) :=
 bd (impl_edges_impl_least_1_m a0) fun x1 =>
 bd (impl_edges_impl_least_2_m a0) fun x2 =>
 bd (lp (σ := Int) (β := ((Int × Int × Int) ⊕ Unit)) (fun s3 =>
(if (decide (s3 < ((x2.length : Nat) : Int))) = true then
 gd ((0 : Int) ≤ s3 ∧ s3 < ((x2.length : Nat) : Int)) <|
 bd (lp (σ := Int) (β := ((Int × Int) ⊕ Unit)) (fun s8 =>
(if (decide (s8 < ((x1.length : Nat) : Int))) = true then
 gd ((0 : Int) ≤ s8 ∧ s8 < ((x1.length : Nat) : Int)) <|
 bd (lp (σ := Int) (β := (Int ⊕ Unit)) (fun s13 =>
(if (decide (s13 ≤ 7)) = true then
 bd (impl_AclWitness_1_m (⟨(x2.getD s3.toNat default), (x1.getD s8.toNat default), s13⟩ : AclPacket) a1c0 a1c1) fun x17 =>
(if x17 = true then
 some (.inr (.inl s13))
else
 some (.inl (IntKind.i64.wrap (s13 + 1))))
else
 some (.inr (.inr ())))) 1) fun x16 =>
(match x16 with
| .inl d18 =>
 some (.inr (.inl ((x1.getD s8.toNat default), d18)))
| .inr d19 =>
 some (.inl (IntKind.i64.wrap (s8 + 1))))
else
 some (.inr (.inr ())))) 0) fun x11 =>
(match x11 with
| .inl d20 =>
 some (.inr (.inl ((x2.getD s3.toNat default), d20.1, d20.2)))
| .inr d21 =>
 some (.inl (IntKind.i64.wrap (s3 + 1))))
else
 some (.inr (.inr ())))) 0) fun x6 =>
(match x6 with
| .inl d22 =>
 some ((⟨d22.1, d22.2.1, d22.2.2⟩ : AclPacket), true)
| .inr d23 =>
 some ((⟨0, 0, 0⟩ : AclPacket), false))

theorem impl_least_impl_AclWitness_1_c {a0 : (List AclRule)} {a1c0 : (List AclRule)} {a1c1 : Int} {r : AclPacket × Bool} (h : impl_least_impl_AclWitness_1_m a0 a1c0 a1c1 = some r) : PureC Try.prog 43 [.d (slD AclRule.enc a0), .fn 47 [.rp [slD AclRule.enc a1c0], .rp [.int .i64 a1c1]]] (.tup [.agg [.d (.int .i64 r.1.From), .d (.int .i64 r.1.To), .d (.int .i64 r.1.Kind)], .d (.bool r.2)]) [] := by
  refine pureC_m tOk (fn := Try.f43) (c := codeOf Try.f43) rfl rfl (by kernel_rfl) rfl rfl (by simp) (by simp) (ids_of rfl) ?_
  unfold impl_least_impl_AclWitness_1_m at h
  conv => whnf
  obtain ⟨x1, hx1, h⟩ := bd_some h
  refine callC 1000 (impl_edges_impl_least_1_c hx1) (by kernel_rfl) (by kernel_rfl) ?_
  clear hx1
  conv => whnf
  refine seq_in tOk ?_
  conv => whnf
  obtain ⟨x2, hx2, h⟩ := bd_some h
  refine callC 2000 (impl_edges_impl_least_2_c hx2) (by kernel_rfl) (by kernel_rfl) ?_
  clear hx2
  conv => whnf
  obtain ⟨x6, hx6, h⟩ := bd_some h
  refine loop_m tOk hx6 (fun s3 => ⟨0, 43, [(1, .fn 47 [.rp [slD AclRule.enc a1c0], .rp [.int .i64 a1c1]]), (4, .ref 4 0 0), (6, .osl 6001 0 x1.length), (16, .osl 7001 0 x2.length), (17, .d (.int .i64 ((x2.length : Nat) : Int))), (18, .d (.int .i64 s3))], [], [(7001, .arr 3 1 x2.length (rows encInt x2)), (6001, .arr 3 1 x1.length (rows encInt x1)), (4, .box 30 [.d (.int .i64 0), .d (.int .i64 0), .d (.int .i64 0)])], []⟩) ?_ ?_
  · refine le_mk ?_ ?_ ?_ <;> (repeat' first | ((conv => whnf); first | exact trivial | refine And.intro ?_ ?_ | exact BLe.refl _ | exact VLe.refl _) | exact trivial | exact rfl | refine And.intro ?_ ?_ | exact BLe.refl _ | exact VLe.refl _ | exact VLe.any _ | exact VLe.nil_osl rfl | exact VLe.nil_sl rfl | exact VLe.built rfl rfl | (refine VLe.osl rfl ?_; (first | rfl | (simp; done) | assumption | (simp [dsub_eq] <;> omega) | omega)) | exact VLe.rows (by first | rfl | (simp; done) | assumption | (simp [dsub_eq] <;> omega) | omega) (fun _ _ => rfl) | exact VLe.rows (by simp [dsub_eq] <;> omega) rows_take | exact VLe.rows (by simp [dsub_eq] <;> omega) rows_dt | exact VLe.rows (by simp [dsub_eq] <;> omega) rows_vt | exact VLe.rows (by simp) (fun i _ => by simp [viewRow_eq, Nat.add_comm]) | refine VLe.aggL ?_ | (refine BLe.rows rfl ?_ fun _ _ => rfl; (first | rfl | (simp; done) | assumption | (simp [dsub_eq] <;> omega) | omega)) | (refine BLe.rows rfl rfl ?_; first | exact rows_take) | refine BLe.box ?_)
  · clear hx6
    intro s3 y4 g5 hy4
    conv => whnf
    refine seq_in tOk ?_
    conv => whnf
    refine And.intro (fun e => ?_) (fun e => ?_)
    · replace g5 := ite_t g5 e; clear e
      conv => whnf
      refine seq_in tOk ?_
      conv => whnf
      obtain ⟨g7, g5⟩ := gd_some g5
      refine And.intro g7 ?_
      clear g7
      conv => whnf
      obtain ⟨x11, hx11, g5⟩ := bd_some g5
      refine loop_m tOk hx11 (fun s8 => ⟨0, 43, [(1, .fn 47 [.rp [slD AclRule.enc a1c0], .rp [.int .i64 a1c1]]), (4, .ref 4 0 0), (6, .osl 6001 0 x1.length), (8, .d (.int .i64 (x2.getD s3.toNat default))), (16, .osl 7001 0 x2.length), (17, .d (.int .i64 ((x2.length : Nat) : Int))), (18, .d (.int .i64 s3)), (22, .osl 6001 0 x1.length), (23, .d (.int .i64 ((x1.length : Nat) : Int))), (24, .d (.int .i64 s8))], [], [(7001, .arr 3 1 x2.length (rows encInt x2)), (6001, .arr 3 1 x1.length (rows encInt x1)), (4, .box 30 [.d (.int .i64 0), .d (.int .i64 0), .d (.int .i64 0)])], []⟩) ?_ ?_
      · refine le_mk ?_ ?_ ?_ <;> (repeat' first | ((conv => whnf); first | exact trivial | refine And.intro ?_ ?_ | exact BLe.refl _ | exact VLe.refl _) | exact trivial | exact rfl | refine And.intro ?_ ?_ | exact BLe.refl _ | exact VLe.refl _ | exact VLe.any _ | exact VLe.nil_osl rfl | exact VLe.nil_sl rfl | exact VLe.built rfl rfl | (refine VLe.osl rfl ?_; (first | rfl | (simp; done) | assumption | (simp [dsub_eq] <;> omega) | omega)) | exact VLe.rows (by first | rfl | (simp; done) | assumption | (simp [dsub_eq] <;> omega) | omega) (fun _ _ => rfl) | exact VLe.rows (by simp [dsub_eq] <;> omega) rows_take | exact VLe.rows (by simp [dsub_eq] <;> omega) rows_dt | exact VLe.rows (by simp [dsub_eq] <;> omega) rows_vt | exact VLe.rows (by simp) (fun i _ => by simp [viewRow_eq, Nat.add_comm]) | refine VLe.aggL ?_ | (refine BLe.rows rfl ?_ fun _ _ => rfl; (first | rfl | (simp; done) | assumption | (simp [dsub_eq] <;> omega) | omega)) | (refine BLe.rows rfl rfl ?_; first | exact rows_take) | refine BLe.box ?_)
      · clear hx11
        intro s8 y9 g10 hy9
        conv => whnf
        refine seq_in tOk ?_
        conv => whnf
        refine And.intro (fun e => ?_) (fun e => ?_)
        · replace g10 := ite_t g10 e; clear e
          conv => whnf
          refine seq_in tOk ?_
          conv => whnf
          obtain ⟨g12, g10⟩ := gd_some g10
          refine And.intro g12 ?_
          clear g12
          conv => whnf
          obtain ⟨x16, hx16, g10⟩ := bd_some g10
          refine loop_m tOk hx16 (fun s13 => ⟨0, 43, [(1, .fn 47 [.rp [slD AclRule.enc a1c0], .rp [.int .i64 a1c1]]), (4, .ref 4 0 0), (6, .osl 6001 0 x1.length), (8, .d (.int .i64 (x2.getD s3.toNat default))), (10, .d (.int .i64 (x1.getD s8.toNat default))), (11, .d (.int .i64 s13)), (16, .osl 7001 0 x2.length), (17, .d (.int .i64 ((x2.length : Nat) : Int))), (18, .d (.int .i64 s3)), (22, .osl 6001 0 x1.length), (23, .d (.int .i64 ((x1.length : Nat) : Int))), (24, .d (.int .i64 s8))], [], [(7001, .arr 3 1 x2.length (rows encInt x2)), (6001, .arr 3 1 x1.length (rows encInt x1)), (4, .box 30 [.d (.int .i64 0), .d (.int .i64 0), .d (.int .i64 0)])], []⟩) ?_ ?_
          · refine le_mk ?_ ?_ ?_ <;> (repeat' first | ((conv => whnf); first | exact trivial | refine And.intro ?_ ?_ | exact BLe.refl _ | exact VLe.refl _) | exact trivial | exact rfl | refine And.intro ?_ ?_ | exact BLe.refl _ | exact VLe.refl _ | exact VLe.any _ | exact VLe.nil_osl rfl | exact VLe.nil_sl rfl | exact VLe.built rfl rfl | (refine VLe.osl rfl ?_; (first | rfl | (simp; done) | assumption | (simp [dsub_eq] <;> omega) | omega)) | exact VLe.rows (by first | rfl | (simp; done) | assumption | (simp [dsub_eq] <;> omega) | omega) (fun _ _ => rfl) | exact VLe.rows (by simp [dsub_eq] <;> omega) rows_take | exact VLe.rows (by simp [dsub_eq] <;> omega) rows_dt | exact VLe.rows (by simp [dsub_eq] <;> omega) rows_vt | exact VLe.rows (by simp) (fun i _ => by simp [viewRow_eq, Nat.add_comm]) | refine VLe.aggL ?_ | (refine BLe.rows rfl ?_ fun _ _ => rfl; (first | rfl | (simp; done) | assumption | (simp [dsub_eq] <;> omega) | omega)) | (refine BLe.rows rfl rfl ?_; first | exact rows_take) | refine BLe.box ?_)
          · clear hx16
            intro s13 y14 g15 hy14
            conv => whnf
            refine seq_in tOk ?_
            conv => whnf
            refine And.intro (fun e => ?_) (fun e => ?_)
            · replace g15 := ite_t g15 e; clear e
              conv => whnf
              refine seq_in tOk ?_
              conv => whnf
              obtain ⟨x17, hx17, g15⟩ := bd_some g15
              refine callC 0 (impl_AclWitness_1_c hx17) (by kernel_rfl) (by kernel_rfl) ?_
              clear hx17
              conv => whnf
              refine And.intro (fun e => ?_) (fun e => ?_)
              · replace g15 := ite_t g15 e; clear e
                conv => whnf
                obtain rfl := Option.some.inj g15
                obtain rfl := hy14 _ rfl
                obtain rfl := Option.some.inj g10
                obtain rfl := hy9 _ rfl
                obtain rfl := Option.some.inj g5
                obtain rfl := hy4 _ rfl
                obtain rfl := Option.some.inj h
                exact ⟨_, LE.refl _, And.intro rfl trivial⟩
              · replace g15 := ite_f g15 e; clear e
                conv => whnf
                obtain rfl := Option.some.inj g15
                refine ⟨_, rfl, le_mk ?_ ?_ ?_⟩ <;> (repeat' first | ((conv => whnf); first | exact trivial | refine And.intro ?_ ?_ | exact BLe.refl _ | exact VLe.refl _) | exact trivial | exact rfl | refine And.intro ?_ ?_ | exact BLe.refl _ | exact VLe.refl _ | exact VLe.any _ | exact VLe.nil_osl rfl | exact VLe.nil_sl rfl | exact VLe.built rfl rfl | (refine VLe.osl rfl ?_; (first | rfl | (simp; done) | assumption | (simp [dsub_eq] <;> omega) | omega)) | exact VLe.rows (by first | rfl | (simp; done) | assumption | (simp [dsub_eq] <;> omega) | omega) (fun _ _ => rfl) | exact VLe.rows (by simp [dsub_eq] <;> omega) rows_take | exact VLe.rows (by simp [dsub_eq] <;> omega) rows_dt | exact VLe.rows (by simp [dsub_eq] <;> omega) rows_vt | exact VLe.rows (by simp) (fun i _ => by simp [viewRow_eq, Nat.add_comm]) | refine VLe.aggL ?_ | (refine BLe.rows rfl ?_ fun _ _ => rfl; (first | rfl | (simp; done) | assumption | (simp [dsub_eq] <;> omega) | omega)) | (refine BLe.rows rfl rfl ?_; first | exact rows_take) | refine BLe.box ?_)
            · replace g15 := ite_f g15 e; clear e
              conv => whnf
              obtain rfl := Option.some.inj g15
              obtain rfl := hy14 _ rfl
              obtain rfl := Option.some.inj g10
              refine ⟨_, rfl, le_mk ?_ ?_ ?_⟩ <;> (repeat' first | ((conv => whnf); first | exact trivial | refine And.intro ?_ ?_ | exact BLe.refl _ | exact VLe.refl _) | exact trivial | exact rfl | refine And.intro ?_ ?_ | exact BLe.refl _ | exact VLe.refl _ | exact VLe.any _ | exact VLe.nil_osl rfl | exact VLe.nil_sl rfl | exact VLe.built rfl rfl | (refine VLe.osl rfl ?_; (first | rfl | (simp; done) | assumption | (simp [dsub_eq] <;> omega) | omega)) | exact VLe.rows (by first | rfl | (simp; done) | assumption | (simp [dsub_eq] <;> omega) | omega) (fun _ _ => rfl) | exact VLe.rows (by simp [dsub_eq] <;> omega) rows_take | exact VLe.rows (by simp [dsub_eq] <;> omega) rows_dt | exact VLe.rows (by simp [dsub_eq] <;> omega) rows_vt | exact VLe.rows (by simp) (fun i _ => by simp [viewRow_eq, Nat.add_comm]) | refine VLe.aggL ?_ | (refine BLe.rows rfl ?_ fun _ _ => rfl; (first | rfl | (simp; done) | assumption | (simp [dsub_eq] <;> omega) | omega)) | (refine BLe.rows rfl rfl ?_; first | exact rows_take) | refine BLe.box ?_)
        · replace g10 := ite_f g10 e; clear e
          conv => whnf
          obtain rfl := Option.some.inj g10
          obtain rfl := hy9 _ rfl
          obtain rfl := Option.some.inj g5
          refine ⟨_, rfl, le_mk ?_ ?_ ?_⟩ <;> (repeat' first | ((conv => whnf); first | exact trivial | refine And.intro ?_ ?_ | exact BLe.refl _ | exact VLe.refl _) | exact trivial | exact rfl | refine And.intro ?_ ?_ | exact BLe.refl _ | exact VLe.refl _ | exact VLe.any _ | exact VLe.nil_osl rfl | exact VLe.nil_sl rfl | exact VLe.built rfl rfl | (refine VLe.osl rfl ?_; (first | rfl | (simp; done) | assumption | (simp [dsub_eq] <;> omega) | omega)) | exact VLe.rows (by first | rfl | (simp; done) | assumption | (simp [dsub_eq] <;> omega) | omega) (fun _ _ => rfl) | exact VLe.rows (by simp [dsub_eq] <;> omega) rows_take | exact VLe.rows (by simp [dsub_eq] <;> omega) rows_dt | exact VLe.rows (by simp [dsub_eq] <;> omega) rows_vt | exact VLe.rows (by simp) (fun i _ => by simp [viewRow_eq, Nat.add_comm]) | refine VLe.aggL ?_ | (refine BLe.rows rfl ?_ fun _ _ => rfl; (first | rfl | (simp; done) | assumption | (simp [dsub_eq] <;> omega) | omega)) | (refine BLe.rows rfl rfl ?_; first | exact rows_take) | refine BLe.box ?_)
    · replace g5 := ite_f g5 e; clear e
      conv => whnf
      obtain rfl := Option.some.inj g5
      obtain rfl := hy4 _ rfl
      obtain rfl := Option.some.inj h
      exact ⟨_, LE.refl _, And.intro rfl trivial⟩

noncomputable def impl_AclWitness_m (a0 : (List AclRule)) (a1 : Int) : Option (AclPacket × Bool) :=
 bd (impl_AclOk_m a0) fun x1 =>
 bd (gcall ((!x1) = false) (impl_within_m a1 0 (IntKind.i64.wrap (((a0.length : Nat) : Int) - 1)))) fun x2 =>
(if ((!x1) || (!x2)) = true then
 some ((⟨0, 0, 0⟩ : AclPacket), false)
else
 bd (impl_least_impl_AclWitness_1_m a0 a0 a1) fun x3 =>
 some (x3.1, x3.2))

theorem impl_AclWitness_c {a0 : (List AclRule)} {a1 : Int} {r : AclPacket × Bool} (h : impl_AclWitness_m a0 a1 = some r) : PureC Try.prog 21 [.d (slD AclRule.enc a0), .d (.int .i64 a1)] (.tup [.agg [.d (.int .i64 r.1.From), .d (.int .i64 r.1.To), .d (.int .i64 r.1.Kind)], .d (.bool r.2)]) [] := by
  refine pureC_m tOk (fn := Try.f21) (c := codeOf Try.f21) rfl rfl (by kernel_rfl) rfl rfl (by simp) (by simp) (ids_of rfl) ?_
  unfold impl_AclWitness_m at h
  conv => whnf
  refine seq_in tOk ?_
  conv => whnf
  obtain ⟨x1, hx1, h⟩ := bd_some h
  refine callC 0 (impl_AclOk_c hx1) (by kernel_rfl) (by kernel_rfl) ?_
  clear hx1
  conv => whnf
  obtain ⟨x2, hx2, h⟩ := bd_some h
  refine callG_m rfl rfl rfl rfl rfl rfl (by intro c0; exact impl_within_c (gcall_some hx2 c0)) ?_
  conv => whnf
  refine And.intro (fun e => ?_) (fun e => ?_)
  · replace h := ite_t h e; clear e
    conv => whnf
    obtain rfl := Option.some.inj h
    exact ⟨_, LE.refl _, And.intro rfl trivial⟩
  · replace h := ite_f h e; clear e
    conv => whnf
    obtain ⟨x3, hx3, h⟩ := bd_some h
    refine callC 0 (impl_least_impl_AclWitness_1_c hx3) (by kernel_rfl) (by kernel_rfl) ?_
    clear hx3
    conv => whnf
    obtain rfl := Option.some.inj h
    exact ⟨_, LE.refl _, And.intro rfl trivial⟩

noncomputable def spec_l4PacketOk_m (a0 : AclPacket) : Option (Bool) :=
 bd (spec_l1In_m a0.From 0 65535) fun x1 =>
 bd (gcall (x1 = true) (spec_l1In_m a0.To 0 65535)) fun x2 =>
 bd (gcall ((x1 && x2) = true) (spec_l1In_m a0.Kind 1 7)) fun x3 =>
 some ((x1 && x2) && x3)

theorem spec_l4PacketOk_c {a0 : AclPacket} {r : Bool} (h : spec_l4PacketOk_m a0 = some r) : PureC Try.prog 30 [.agg [.d (.int .i64 a0.From), .d (.int .i64 a0.To), .d (.int .i64 a0.Kind)]] (.d (.bool r)) [] := by
  refine pureC_m tOk (fn := Try.f30) (c := codeOf Try.f30) rfl rfl (by kernel_rfl) rfl rfl (by simp) (by simp) (ids_of rfl) ?_
  unfold spec_l4PacketOk_m at h
  conv => whnf
  obtain ⟨x1, hx1, h⟩ := bd_some h
  refine callC 0 (spec_l1In_c hx1) (by kernel_rfl) (by kernel_rfl) ?_
  clear hx1
  conv => whnf
  obtain ⟨x2, hx2, h⟩ := bd_some h
  refine callG_m rfl rfl rfl rfl rfl rfl (by intro c0; exact spec_l1In_c (gcall_some hx2 c0)) ?_
  conv => whnf
  obtain ⟨x3, hx3, h⟩ := bd_some h
  refine callG_m rfl rfl rfl rfl rfl rfl (by intro c0; exact spec_l1In_c (gcall_some hx3 c0)) ?_
  conv => whnf
  obtain rfl := Option.some.inj h
  exact ⟨_, LE.refl _, And.intro rfl trivial⟩

noncomputable def spec_AclSays_m (a0 : (List AclRule)) (a1 : AclPacket) : Option (Int × Bool) :=
 bd (spec_AclOk_m a0) fun x1 =>
 bd (gcall ((!x1) = false) (spec_l4PacketOk_m a1)) fun x2 =>
(if ((!x1) || (!x2)) = true then
 some (-1, false)
else
 bd (spec_l4Says_m a0 a1) fun x3 =>
 some (x3.1, x3.2))

theorem spec_AclSays_c {a0 : (List AclRule)} {a1 : AclPacket} {r : Int × Bool} (h : spec_AclSays_m a0 a1 = some r) : PureC Try.prog 10 [.d (slD AclRule.enc a0), .agg [.d (.int .i64 a1.From), .d (.int .i64 a1.To), .d (.int .i64 a1.Kind)]] (.tup [.d (.int .i64 r.1), .d (.bool r.2)]) [] := by
  refine pureC_m tOk (fn := Try.f10) (c := codeOf Try.f10) rfl rfl (by kernel_rfl) rfl rfl (by simp) (by simp) (ids_of rfl) ?_
  unfold spec_AclSays_m at h
  conv => whnf
  refine seq_in tOk ?_
  conv => whnf
  obtain ⟨x1, hx1, h⟩ := bd_some h
  refine callC 0 (spec_AclOk_c hx1) (by kernel_rfl) (by kernel_rfl) ?_
  clear hx1
  conv => whnf
  obtain ⟨x2, hx2, h⟩ := bd_some h
  refine callG_m rfl rfl rfl rfl rfl rfl (by intro c0; exact spec_l4PacketOk_c (gcall_some hx2 c0)) ?_
  conv => whnf
  refine And.intro (fun e => ?_) (fun e => ?_)
  · replace h := ite_t h e; clear e
    conv => whnf
    obtain rfl := Option.some.inj h
    exact ⟨_, LE.refl _, And.intro rfl trivial⟩
  · replace h := ite_f h e; clear e
    conv => whnf
    obtain ⟨x3, hx3, h⟩ := bd_some h
    refine callC 0 (spec_l4Says_c hx3) (by kernel_rfl) (by kernel_rfl) ?_
    clear hx3
    conv => whnf
    obtain rfl := Option.some.inj h
    exact ⟨_, LE.refl _, And.intro rfl trivial⟩

noncomputable def spec_AclWitness_m (a0 : (List AclRule)) (a1 : Int) : Option (AclPacket × Bool) :=
 bd (spec_AclOk_m a0) fun x1 =>
 bd (gcall ((!x1) = false) (spec_l1In_m a1 0 (IntKind.i64.wrap (((a0.length : Nat) : Int) - 1)))) fun x2 =>
(if ((!x1) || (!x2)) = true then
 some ((⟨0, 0, 0⟩ : AclPacket), false)
else
 bd (spec_l4Least_m a0 [] a1) fun x3 =>
 some (x3.1, x3.2))

theorem spec_AclWitness_c {a0 : (List AclRule)} {a1 : Int} {r : AclPacket × Bool} (h : spec_AclWitness_m a0 a1 = some r) : PureC Try.prog 22 [.d (slD AclRule.enc a0), .d (.int .i64 a1)] (.tup [.agg [.d (.int .i64 r.1.From), .d (.int .i64 r.1.To), .d (.int .i64 r.1.Kind)], .d (.bool r.2)]) [] := by
  refine pureC_m tOk (fn := Try.f22) (c := codeOf Try.f22) rfl rfl (by kernel_rfl) rfl rfl (by simp) (by simp) (ids_of rfl) ?_
  unfold spec_AclWitness_m at h
  conv => whnf
  refine seq_in tOk ?_
  conv => whnf
  obtain ⟨x1, hx1, h⟩ := bd_some h
  refine callC 0 (spec_AclOk_c hx1) (by kernel_rfl) (by kernel_rfl) ?_
  clear hx1
  conv => whnf
  obtain ⟨x2, hx2, h⟩ := bd_some h
  refine callG_m rfl rfl rfl rfl rfl rfl (by intro c0; exact spec_l1In_c (gcall_some hx2 c0)) ?_
  conv => whnf
  refine And.intro (fun e => ?_) (fun e => ?_)
  · replace h := ite_t h e; clear e
    conv => whnf
    obtain rfl := Option.some.inj h
    exact ⟨_, LE.refl _, And.intro rfl trivial⟩
  · replace h := ite_f h e; clear e
    conv => whnf
    obtain ⟨x3, hx3, h⟩ := bd_some h
    refine callW 0 (spec_l4Least_c hx3) rfl (by (repeat' first | ((conv => whnf); first | exact trivial | refine And.intro ?_ ?_ | exact BLe.refl _ | exact VLe.refl _) | exact trivial | refine And.intro ?_ ?_ | exact VLe.refl _ | exact VLe.any _ | exact VLe.nil_osl rfl | exact VLe.nil_sl rfl | exact VLe.built rfl rfl | (refine VLe.osl rfl ?_; (first | rfl | (simp; done) | assumption | (simp [dsub_eq] <;> omega) | omega)) | exact VLe.rows (by first | rfl | (simp; done) | assumption | (simp [dsub_eq] <;> omega) | omega) (fun _ _ => rfl) | exact VLe.rows (by simp [dsub_eq] <;> omega) rows_take | exact VLe.rows (by simp [dsub_eq] <;> omega) rows_dt | exact VLe.rows (by simp [dsub_eq] <;> omega) rows_vt | exact VLe.rows (by simp) (fun i _ => by simp [viewRow_eq, Nat.add_comm]) | refine VLe.aggL ?_)) rfl ?_
    conv => whnf
    obtain rfl := Option.some.inj h
    exact ⟨_, LE.refl _, And.intro rfl trivial⟩

noncomputable def spec_NetHas_m (a0 : NetPrefix) (a1 : Int) : Option (Bool) :=
 bd (spec_NetOk_m a0) fun x1 =>
 bd (gcall (x1 = true) (spec_l1Has_m a0 a1)) fun x2 =>
 some (x1 && x2)

theorem spec_NetHas_c {a0 : NetPrefix} {a1 : Int} {r : Bool} (h : spec_NetHas_m a0 a1 = some r) : PureC Try.prog 16 [.agg [.d (.int .i64 a0.Addr), .d (.int .i64 a0.Len)], .d (.int .i64 a1)] (.d (.bool r)) [] := by
  refine pureC_m tOk (fn := Try.f16) (c := codeOf Try.f16) rfl rfl (by kernel_rfl) rfl rfl (by simp) (by simp) (ids_of rfl) ?_
  unfold spec_NetHas_m at h
  conv => whnf
  obtain ⟨x1, hx1, h⟩ := bd_some h
  refine callC 0 (spec_NetOk_c hx1) (by kernel_rfl) (by kernel_rfl) ?_
  clear hx1
  conv => whnf
  obtain ⟨x2, hx2, h⟩ := bd_some h
  refine callG_m rfl rfl rfl rfl rfl rfl (by intro c0; exact spec_l1Has_c (gcall_some hx2 c0)) ?_
  conv => whnf
  obtain rfl := Option.some.inj h
  exact ⟨_, LE.refl _, And.intro rfl trivial⟩

end Go.Proofs.Ytjpfiaejakidnaa
