/-
  Plain Lean: who asked: the row FnNatTop.
-/
import Derived.Test.YtaoeomoepefojabKz3
import Derived.Test.YtaoeomoepefojabNatXz
import Derived.Test.YtaoeomoepefojabNatPcz
set_option linter.all false
namespace Go.Proofs.Ytaoeomoepefojab
open Go Go.Ab
set_option maxHeartbeats 1000000

theorem flow_dec (f g : NatFlow) : ((f.Kind == g.Kind) && ((f.From == g.From) && ((f.FromPort == g.FromPort) && ((f.To == g.To) && ((f.ToPort == g.ToPort) && true))))) = decide (f = g) := by
  obtain ⟨a1, a2, a3, a4, a5⟩ := f
  obtain ⟨b1, b2, b3, b4, b5⟩ := g
  rw [Bool.eq_iff_iff]
  simp
theorem asked_p {went : List wvWent} (h : went.length ≤ 1048576) (f : NatFlow) (now : Int) : laws_wvAsked_m went f now = some (match askOf went f with | some r => (r.In, decide (IntKind.i64.wrap (now - r.At) < 8)) | none => (noFlow, false)) := by
  unfold laws_wvAsked_m
  have key : ∀ j : Nat, j ≤ went.length → lp (σ := Int) (β := ((Bool × Int × Int × Int × Int × Int) ⊕ Unit)) (fun s1 =>
      (if (decide (s1 > 0)) = true then
      gd ((0 : Int) ≤ IntKind.i64.wrap (s1 - 1) ∧ IntKind.i64.wrap (s1 - 1) < ((went.length : Nat) : Int)) <|
      bd (spec_NatBack_m f) fun x6 =>
      (if (((((went.getD ((IntKind.i64.wrap (s1 - 1)).toNat) default).Out).Kind) == x6.Kind) && (((((went.getD ((IntKind.i64.wrap (s1 - 1)).toNat) default).Out).From) == x6.From) && (((((went.getD ((IntKind.i64.wrap (s1 - 1)).toNat) default).Out).FromPort) == x6.FromPort) && (((((went.getD ((IntKind.i64.wrap (s1 - 1)).toNat) default).Out).To) == x6.To) && (((((went.getD ((IntKind.i64.wrap (s1 - 1)).toNat) default).Out).ToPort) == x6.ToPort) && true))))) = true then
      gd ((0 : Int) ≤ IntKind.i64.wrap (s1 - 1) ∧ IntKind.i64.wrap (s1 - 1) < ((went.length : Nat) : Int)) <|
      gd ((0 : Int) ≤ IntKind.i64.wrap (s1 - 1) ∧ IntKind.i64.wrap (s1 - 1) < ((went.length : Nat) : Int)) <|
      some (.inr (.inl ((decide ((IntKind.i64.wrap (now - ((went.getD ((IntKind.i64.wrap (s1 - 1)).toNat) default).At))) < 8)), ((went.getD ((IntKind.i64.wrap (s1 - 1)).toNat) default).In).Kind, ((went.getD ((IntKind.i64.wrap (s1 - 1)).toNat) default).In).From, ((went.getD ((IntKind.i64.wrap (s1 - 1)).toNat) default).In).FromPort, ((went.getD ((IntKind.i64.wrap (s1 - 1)).toNat) default).In).To, ((went.getD ((IntKind.i64.wrap (s1 - 1)).toNat) default).In).ToPort)))
      else
      some (.inl (IntKind.i64.wrap (s1 - 1))))
      else
      some (.inr (.inr ())))) (j : Int) = some (match (went.take j).reverse.find? (fun r => decide (r.Out = back f)) with | some r => .inl (decide (IntKind.i64.wrap (now - r.At) < 8), r.In.Kind, r.In.From, r.In.FromPort, r.In.To, r.In.ToPort) | none => .inr ()) := by
    intro j
    induction j with
    | zero => intro _; exact lp_done (by rw [if_neg (by simp)]; rfl)
    | succ j ih =>
      intro hj
      have e1 : IntKind.i64.wrap (((j + 1 : Nat) : Int) - 1) = (j : Int) := by rw [wrap_i64 (by omega) (by omega)]; omega
      have e2 : went[j]? = some (went.getD j default) := by rw [List.getD_eq_getElem?_getD, List.getElem?_eq_getElem (by omega)]; rfl
      rw [List.take_succ, e2]
      show _ = some (match (went.take j ++ [went.getD j default]).reverse.find? (fun r => decide (r.Out = back f)) with | some r => _ | none => _)
      rw [List.reverse_append]
      show _ = some (match (went.getD j default :: (went.take j).reverse).find? (fun r => decide (r.Out = back f)) with | some r => _ | none => _)
      rw [List.find?_cons]
      cases hd : decide ((went.getD j default).Out = back f)
      · refine (lp_more (s' := (j : Int)) ?_).trans (ih (by omega))
        rw [if_pos (by simp <;> omega), e1, gd_pos (by omega), show spec_NatBack_m f = some (back f) from rfl, bd_val, Int.toNat_natCast, flow_dec, hd, if_neg (by decide)]
      · refine lp_done ?_
        rw [if_pos (by simp <;> omega), e1, gd_pos (by omega), show spec_NatBack_m f = some (back f) from rfl, bd_val, Int.toNat_natCast, flow_dec, hd, if_pos rfl, gd_pos (by omega), gd_pos (by omega)]
  rw [key went.length (Nat.le_refl _), bd_val, List.take_length]
  unfold askOf
  cases went.reverse.find? (fun r => decide (r.Out = back f)) <;> rfl
theorem door_p {b : NatBook} (h : b.Doors.length ≤ 1048576) (f : NatFlow) : laws_wvDoor_m b f = some (b.Doors.any fun d => d.Kind == f.Kind && d.Outer == f.ToPort) := by
  have e : (b.Doors.any fun d => d.Kind == f.Kind && d.Outer == f.ToPort) = !allR b.Doors.length (fun i => !doorHit b f i) := by
    rw [Bool.eq_iff_iff]
    constructor
    · intro h
      obtain ⟨d, hd, ht⟩ := List.any_eq_true.1 h
      obtain ⟨i, hi, rfl⟩ := mem_getD hd
      have : doorHit b f i = true := ht
      rw [allR_false hi (by rw [this]; rfl)]; rfl
    · intro h
      cases ht : b.Doors.any fun d => d.Kind == f.Kind && d.Outer == f.ToPort
      · have := List.any_eq_false.1 ht
        rw [allR_of fun i hi => by
          have := this _ (getD_mem hi)
          have : doorHit b f i = false := by simpa [doorHit] using this
          rw [this]; rfl] at h
        exact h
      · rfl
  unfold laws_wvDoor_m
  rw [lp_all b.Doors.length (fun i => !doorHit b f i) (.inl ()) (.inr ()) (fun i hi _ => ?_) (fun _ => by rw [if_neg (by simp)]), bd_val, e]
  · cases allR b.Doors.length (fun i => !doorHit b f i) <;> rfl
  · rw [if_pos (by simp; omega), gd_pos (by omega), gd_pos (fun _ => by omega), Int.toNat_natCast, wrap_succ hi (by omega)]
    unfold doorHit
    split
    · rename_i c
      rw [c]; first | done | rfl
    · rename_i c
      rw [Bool.not_eq_true] at c
      rw [c]; first | done | rfl
/-- What the law checks at each event. -/
theorem in_door {x : NatBook} (hx : x.ok = true) {f : NatFlow} (g : In x f) (h : (x.Doors.any fun d => d.Kind == f.Kind && d.Outer == f.ToPort) = true) : (natIn x f).2 = 0 ∧ x.inside (natIn x f).1.To = true ∧ (natIn x f).1.From = f.From ∧ (natIn x f).1.FromPort = f.FromPort := by
  obtain ⟨d, hd, ht⟩ := List.any_eq_true.1 h
  simp only [Bool.and_eq_true, beq_iff_eq] at ht
  rw [natIn_door hx hd g.flow g.to g.from_ g.own ht.1 ht.2]
  exact ⟨rfl, (door_ok hx hd).2.2.2.1, rfl, rfl⟩
theorem fnNatTop_p {a0 : List Int} (h : a0.length ≤ 9223372036854775807 ∧ ∀ x ∈ a0, FitsB x) : laws_FnNatTop_m a0 = some true := by
  have key : Post (laws_FnNatTop_m a0) fun x => x = true := by
    unfold laws_FnNatTop_m
    refine .ite (fun _ => .ret rfl) fun hlen => .bd (come_post h.1 h.2) fun x1 ⟨F, hl, hc⟩ => ?_
    obtain ⟨B, come⟩ := x1
    dsimp only at F hl hc ⊢
    refine .bd (Q := fun x => x = .inr ()) (.lp (fun s => ∃ i : Nat, s.2.2.2.2.2.2.2.2.2 = (i : Int) ∧ i ≤ come.length ∧ s.1.length ≤ i ∧ ∃ x : NatBook, (⟨s.2.1, s.2.2.1, s.2.2.2.1, s.2.2.2.2.1, s.2.2.2.2.2.1, s.2.2.2.2.2.2.1, s.2.2.2.2.2.2.2.1, s.2.2.2.2.2.2.2.2.1⟩ : NatBook) = x ∧ Sm B x ∧ Inv x s.1 ∧ x.Now ≤ i) (fun s => come.length - s.2.2.2.2.2.2.2.2.2.toNat)
      ⟨0, rfl, Nat.zero_le _, Nat.zero_le _, B, rfl, ⟨F.ok, rfl, rfl, fun _ => rfl⟩, Inv.nil F.ok F.none, by rw [F.now]; exact Int.le_refl _⟩ fun s ⟨i, ei, hi, hw, x, ex, S, I, hn⟩ => ?_) fun x5 e5 => by subst e5; exact .ret rfl
    obtain ⟨went, s1, s2, s3, s4, s5, s6, s7, s8, s9⟩ := s
    dsimp only at ei hw ex I ⊢
    subst ei
    refine .ite (fun c => ?_) fun _ => .ret rfl
    have c := of_decide_eq_true c
    have hi' : i < come.length := by omega
    have bl := ok_lens S.ok
    have nw := now_in S.ok
    have e7 : s7 = x.Now := by rw [← ex]
    rw [ex, Int.toNat_natCast, wrap_succ hi' (by omega)]
    have hcat := hc _ (getD_mem hi')
    generalize come.getD i default = f at *
    refine .gd ⟨by omega, by omega⟩ (.bd (Q := fun y => (∃ d, y = .inl d ∧ d.1.length ≤ i + 1 ∧ ∃ x' : NatBook, (⟨d.2.1, d.2.2.1, d.2.2.2.1, d.2.2.2.2.1, d.2.2.2.2.2.1, d.2.2.2.2.2.2.1, d.2.2.2.2.2.2.2.1, d.2.2.2.2.2.2.2.2⟩ : NatBook) = x' ∧ Sm B x' ∧ Inv x' d.1 ∧ x'.Now ≤ i + 1) ∨ y = .inr (.inr ())) ?_ fun y hy => ?_)
    · refine .ite (fun k => ?_) fun k => ?_
      · have hx : x.Now ≠ 1000000 := by omega
        rw [implTick_p (by omega) (by omega), bd_val]
        have et : natTick x = (tickOf x, 0) := by unfold natTick; rw [if_pos S.ok, if_neg hx]
        have T := S.tick
        rw [et] at T ⊢
        refine .ite (fun k => ?_) fun _ => .ret (.inl ⟨_, rfl, by dsimp only; omega, tickOf x, rfl, T, I.tick hx, by rw [(tick_ok S.ok hx).2]; omega⟩)
        simp [tickOf, e7] at k
      · have k0 : f.Kind ≠ 0 := by simpa using k
        rw [specNatInside_p, S.ok, bd_val, Bool.true_and]
        refine .ite (fun hin => ?_) fun hin => ?_
        · have ll := natOut_lens (b := x) f
          have code := natOut_code (b := x) f
          have O := S.out f
          have sm := natOut_same S.ok f
          rw [implOut2_p (by omega) (by omega), bd_val, specOut_p, bd_val, wvBook_q (by omega) (by omega), flow_self, gcall_val, bd_val]
          refine .ite (fun k => by simp at k) fun _ => ?_
          have os := fun q => out_s S.ok (f := f) q
          have keepB : (natOut x f).2.2 ≠ 0 → (natOut x f).1 = x := fun q => by
            rcases natOut_cases S.ok f with ⟨c', _, e⟩ | ⟨_, w⟩
            · rw [e]
            · generalize natOut x f = y at *
              cases w <;> exact absurd rfl q
          generalize natOut x f = y at *
          obtain ⟨y, g, cd⟩ := y
          dsimp only at *
          have Iout : cd = 0 → Inv y (went ++ [⟨f, g, x.Now⟩]) ∧ ∀ r ∈ went, r.Out = g → x.Now - r.At < 12 → r.In = f := fun q => I.out (os q)
          refine .bd (Q := fun z => z = .inr ()) (.lp (fun q => 0 ≤ q ∧ q ≤ went.length) (fun q => (went.length - q).toNat) ⟨Int.le_refl _, by omega⟩ fun q ⟨q1, q2⟩ => .ite (fun kk => ?_) fun _ => .ret rfl) fun z ez => ?_
          · simp only [Bool.and_eq_true, decide_eq_true_eq, beq_iff_eq] at kk
            rw [flow_dec, flow_dec, w_succ q1 kk.1 (by omega)]
            refine .gd ⟨q1, kk.1⟩ (.gd (fun _ => ⟨q1, kk.1⟩) (.gd (fun _ => ⟨q1, kk.1⟩) (.ite (fun bad => ?_) fun _ => .ret ⟨⟨by omega, by omega⟩, by omega⟩)))
            have hm : went.getD q.toNat default ∈ went := getD_mem (by omega)
            have ha := I.at_ _ hm
            simp only [Bool.and_eq_true, decide_eq_true_eq, Bool.not_eq_true', decide_eq_false_iff_not] at bad
            rw [e7, wrap_i64 (by omega) (by omega)] at bad
            exact absurd ((Iout kk.2).2 _ hm bad.1.1 bad.2) bad.1.2
          · subst ez
            dsimp only
            refine .ite (fun kk => ?_) fun kk => ?_
            · have kk : cd = 0 := by simpa using kk
              rw [e7]
              exact .gd (by simp; omega) (.ret (.inl ⟨_, rfl, by simp; omega, y, rfl, O, (Iout kk).1, by rw [sm.2.2.2]; omega⟩))
            · have kk : cd ≠ 0 := by simpa using kk
              have ey : y = x := by
                exact keepB kk
              exact .ret (.inl ⟨_, rfl, by dsimp only; omega, y, rfl, O, by rw [ey]; exact I, by rw [ey]; omega⟩)
        · have hin : x.inside f.From = false := by simpa using hin
          have In' : In x f := by
            rcases hcat with q | q | q
            · exact absurd q k0
            · rw [← S.ins] at q; rw [hin] at q; cases q
            · exact ⟨q.flow, q.to.trans S.own.symm, hin, by rw [S.own]; exact q.own⟩
          rw [implNatIn_p (by omega) (by omega), bd_val, asked_p (by omega), bd_val, door_p (by omega), bd_val, e7]
          refine .ite (fun hd => ?_) fun hd => ?_
          · obtain ⟨d1, d2, d3, d4⟩ := in_door S.ok In' hd
            rw [implNatInside_p (by omega) (by omega), S.ok, d1, d2, d3, d4, gcall_val, bd_val]
            exact .ite (fun k => by simp at k) fun _ => .ret (.inr rfl)
          · have hd' : ∀ d ∈ x.Doors, ¬ (d.Kind = f.Kind ∧ d.Outer = f.ToPort) := fun d hdm q => hd (List.any_eq_true.2 ⟨d, hdm, by simp [q.1, q.2]⟩)
            have keep : Post (some (Sum.inl (went, s1, s2, s3, s4, s5, s6, x.Now, s8)) : Option ((List wvWent × Int × Int × Int × Int × Int × List NatDoor × Int × List NatEntry) ⊕ (Unit ⊕ Unit))) fun y => (∃ d, y = .inl d ∧ d.1.length ≤ i + 1 ∧ ∃ x' : NatBook, (⟨d.2.1, d.2.2.1, d.2.2.2.1, d.2.2.2.2.1, d.2.2.2.2.2.1, d.2.2.2.2.2.2.1, d.2.2.2.2.2.2.2.1, d.2.2.2.2.2.2.2.2⟩ : NatBook) = x' ∧ Sm B x' ∧ Inv x' d.1 ∧ x'.Now ≤ i + 1) ∨ y = .inr (.inr ()) :=
              .ret (.inl ⟨_, rfl, by dsimp only; omega, x, by rw [← e7]; exact ex, S, I, by omega⟩)
            rcases I.in_ hd' with ⟨q1, r, q2, q3, q4, q5, q6⟩ | ⟨q1, q2⟩
            · rw [q2, q1, q6]
              dsimp only
              have e8 : decide (IntKind.i64.wrap (x.Now - r.At) < 8) = true := by rw [wrap_i64 (n := x.Now - r.At) (by omega) (by omega)]; exact decide_eq_true q3
              simp only [e8]
              rw [show spec_NatBack_m r.In = some (back r.In) from rfl, gcall_val, bd_val]
              exact .ite (fun k => by simp at k) fun _ => keep
            · have ea : (match askOf went f with | some r => (r.In, decide (IntKind.i64.wrap (x.Now - r.At) < 8)) | none => (noFlow, false)).2 = false := by
                cases hq : askOf went f with
                | none => rfl
                | some r =>
                  obtain ⟨t1, t2, t3⟩ := q2 r hq
                  dsimp only
                  rw [wrap_i64 (n := x.Now - r.At) (by omega) (by omega)]
                  simpa using t1
              rw [ea, gcall_neg (by simp), bd_val]
              refine .ite (fun k => ?_) fun _ => keep
              have : ((natIn x f).2 == 0) = false := by simpa using q1
              rw [this] at k
              simp at k
    · rcases hy with ⟨d, rfl, hdl, x', ex', S', I', hn'⟩ | rfl
      · dsimp only
        have bl' := ok_lens S'.ok
        rw [ex', implBookOk_p (by omega) (by omega), bd_val, S'.ok]
        refine .ite (fun k => by simp at k) fun _ => .ret ⟨⟨i + 1, rfl, hi', hdl, x', ex', S', I', by omega⟩, by dsimp only; omega⟩
      · exact .ret ⟨⟨i + 1, rfl, hi', by dsimp only; omega, x, ex, S, I, by omega⟩, by dsimp only; omega⟩
  obtain ⟨x, e, rfl⟩ := key
  exact e

end Go.Proofs.Ytaoeomoepefojab
