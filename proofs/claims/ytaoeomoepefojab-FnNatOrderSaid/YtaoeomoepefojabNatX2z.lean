/-
  Plain Lean: the order of what begins in one tick does not show: the row FnNatOrder.
-/
import Derived.Test.YtaoeomoepefojabKz3
import Derived.Test.YtaoeomoepefojabNatXz
import Derived.Test.YtaoeomoepefojabNatPcz
set_option linter.all false
namespace Go.Proofs.Ytaoeomoepefojab
open Go Go.Ab
set_option maxHeartbeats 1000000

theorem keyNe_symm {f g : NatFlow} (h : keyNe f g) : keyNe g f := fun q => h ⟨q.1.symm, q.2.1.symm, q.2.2.symm⟩
theorem wvPut_post {xs : List NatFlow} (h : xs.length ≤ 1048576) (f : NatFlow) : Post (laws_wvPut_m xs f) fun ys => ys = xs ∨ (ys = xs ++ [f] ∧ ∀ g ∈ xs, keyNe g f) := by
  unfold laws_wvPut_m
  refine .bd (Q := fun x => x = .inl () ∨ (x = .inr () ∧ ∀ g ∈ xs, keyNe g f)) (.lp (fun s => 0 ≤ s ∧ s ≤ xs.length ∧ ∀ k : Nat, (k : Int) < s → keyNe (xs.getD k default) f) (fun s => (xs.length - s).toNat) ⟨Int.le_refl _, by omega, fun k hk => by omega⟩ fun s ⟨h1, h2, h3⟩ => ?_) fun x hx => ?_
  · refine .ite (fun c => ?_) fun c => .ret (.inr ⟨rfl, fun g hg => ?_⟩)
    · simp only [decide_eq_true_eq] at c
      rw [w_succ h1 c h]
      refine .gd ⟨h1, c⟩ (.gd (fun _ => ⟨h1, c⟩) (.gd (fun _ => ⟨h1, c⟩) (.ite (fun _ => .ret (.inl rfl)) fun k => .ret ⟨⟨by omega, by omega, fun j hj => ?_⟩, by omega⟩)))
      by_cases e : (j : Int) < s
      · exact h3 j e
      · have : j = s.toNat := by omega
        subst this
        exact fun q => k (by simp only [Bool.and_eq_true, beq_iff_eq]; exact ⟨⟨q.1, q.2.1⟩, q.2.2⟩)
    · simp only [decide_eq_true_eq] at c
      obtain ⟨i, hi, rfl⟩ := mem_getD hg
      exact h3 i (by omega)
  · rcases hx with rfl | ⟨rfl, hk⟩
    · exact .ret (.inl rfl)
    · exact .gd (by omega) (.gd (by simp; omega) (.ret (.inr ⟨rfl, hk⟩)))
theorem tmod2 {a n : Int} (h0 : 0 ≤ a) (h1 : a < 2 * n) : a.tmod n = if a < n then a else a - n := by
  rw [Int.tmod_eq_emod_of_nonneg h0]
  split
  · exact Int.emod_eq_of_lt h0 (by omega)
  · have : a % n = ((a - n) + n * 1) % n := by rw [Int.mul_one, Int.sub_add_cancel]
    rw [this, Int.add_mul_emod_self_left, Int.emod_eq_of_lt (by omega) (by omega)]
/-- The other order: from place `t` on, around; forward or back. -/
def rot (n t i : Nat) : Nat := if i + t < n then i + t else i + t - n
def perm (n t : Nat) (c : Bool) (i : Nat) : Nat := if c = true then n - 1 - rot n t i else rot n t i
theorem rot_lt {n t i : Nat} (hi : i < n) (ht : t < n) : rot n t i < n := by unfold rot; split <;> omega
theorem perm_lt {n t : Nat} {c : Bool} {i : Nat} (hi : i < n) (ht : t < n) : perm n t c i < n := by
  have := rot_lt hi ht
  unfold perm; split <;> omega
theorem perm_inj {n t : Nat} {c : Bool} {i j : Nat} (hi : i < n) (hj : j < n) (ht : t < n) (h : perm n t c i = perm n t c j) : i = j := by
  have a := rot_lt hi ht
  have b := rot_lt hj ht
  have e : rot n t i = rot n t j := by
    unfold perm at h
    split at h <;> omega
  unfold rot at e
  split at e <;> split at e <;> omega
theorem perm_sur {n t : Nat} {c : Bool} {k : Nat} (hk : k < n) (ht : t < n) : ∃ i, i < n ∧ perm n t c i = k := by
  have key : ∀ k, k < n → ∃ i, i < n ∧ rot n t i = k := fun k hk => by
    by_cases h : t ≤ k
    · exact ⟨k - t, by omega, by unfold rot; rw [if_pos (by omega)]; omega⟩
    · exact ⟨k + n - t, by omega, by unfold rot; rw [if_neg (by omega)]; omega⟩
  cases c
  · obtain ⟨i, h1, h2⟩ := key k hk
    exact ⟨i, h1, by unfold perm; rw [if_neg (by decide)]; exact h2⟩
  · obtain ⟨i, h1, h2⟩ := key (n - 1 - k) (by omega)
    exact ⟨i, h1, by unfold perm; rw [if_pos rfl, h2]; omega⟩
def pick (fs : List NatFlow) (t : Nat) (c : Bool) (i : Nat) : List NatFlow := (List.range i).map fun j => fs.getD (perm fs.length t c j) default
theorem pick_succ (fs : List NatFlow) (t : Nat) (c : Bool) (i : Nat) : pick fs t c (i + 1) = pick fs t c i ++ [fs.getD (perm fs.length t c i) default] := by
  unfold pick
  rw [List.range_succ, List.map_append]; rfl
theorem pick_mem {fs : List NatFlow} {t : Nat} {c : Bool} (ht : t < fs.length) (f : NatFlow) : f ∈ fs ↔ f ∈ pick fs t c fs.length := by
  unfold pick
  rw [List.mem_map]
  constructor
  · intro h
    obtain ⟨k, hk, rfl⟩ := mem_getD h
    obtain ⟨i, h1, h2⟩ := perm_sur (c := c) hk ht
    exact ⟨i, List.mem_range.2 h1, by rw [h2]⟩
  · rintro ⟨i, hi, rfl⟩
    exact getD_mem (perm_lt (List.mem_range.1 hi) ht)
theorem take_succ_getD {α : Type} [Inhabited α] {xs : List α} {i : Nat} (h : i < xs.length) : xs.take (i + 1) = xs.take i ++ [xs.getD i default] := by
  rw [List.take_succ, List.getElem?_eq_getElem h, List.getD_eq_getElem?_getD, List.getElem?_eq_getElem h]; rfl
theorem pw_take {fs : List NatFlow} (hp : fs.Pairwise keyNe) {i : Nat} (hi : i < fs.length) : ∀ g ∈ fs.take i, keyNe g (fs.getD i default) := fun g hg => by
  obtain ⟨j, hj, rfl⟩ := List.getElem_of_mem hg
  rw [List.length_take] at hj
  have := List.pairwise_iff_getElem.1 hp j i (by omega) hi (by omega)
  rw [List.getElem_take, List.getD_eq_getElem?_getD, List.getElem?_eq_getElem hi]
  exact this
theorem pw_pick {fs : List NatFlow} (hp : fs.Pairwise keyNe) {t : Nat} {c : Bool} (ht : t < fs.length) {i : Nat} (hi : i < fs.length) : ∀ g ∈ pick fs t c i, keyNe g (fs.getD (perm fs.length t c i) default) := fun g hg => by
  unfold pick at hg
  obtain ⟨j, hj, rfl⟩ := List.mem_map.1 hg
  have hj := List.mem_range.1 hj
  have a := perm_lt (c := c) (show j < fs.length by omega) ht
  have b := perm_lt (c := c) hi ht
  have ne : perm fs.length t c j ≠ perm fs.length t c i := fun e => by have := perm_inj (by omega) hi ht e; omega
  generalize perm fs.length t c j = p at *
  generalize perm fs.length t c i = q at *
  rw [List.getD_eq_getElem?_getD, List.getElem?_eq_getElem a, List.getD_eq_getElem?_getD, List.getElem?_eq_getElem b]
  rcases Nat.lt_or_gt_of_ne ne with l | l
  · exact List.pairwise_iff_getElem.1 hp p q a b l
  · exact keyNe_symm (List.pairwise_iff_getElem.1 hp q p b a l)
theorem pick_len {fs : List NatFlow} {t : Nat} {c : Bool} {i : Nat} : (pick fs t c i).length = i := by unfold pick; simp
theorem map_getD_out {b : NatBook} {fs : List NatFlow} {i : Nat} (h : i < fs.length) : (fs.map (outG b)).getD i default = outG b (fs.getD i default) := by
  simp [List.getD_eq_getElem?_getD, h]
theorem fnNatOrder_p {a0 a1 : List Int} (h : a0.length ≤ 9223372036854775807 ∧ ∀ x ∈ a0, FitsB x) (h' : a1.length ≤ 9223372036854775807 ∧ ∀ x ∈ a1, FitsB x) : laws_FnNatOrder_m a0 a1 = some true := by
  have key : Post (laws_FnNatOrder_m a0 a1) fun x => x = true := by
    unfold laws_FnNatOrder_m
    refine .ite (fun _ => .ret rfl) fun hlen => .bd (come_post h.1 h.2) fun x1 ⟨F, hl, hc⟩ => ?_
    obtain ⟨B, come⟩ := x1
    dsimp only at F hl hc ⊢
    have bl := ok_lens F.ok
    refine .bd (Q := fun fs => fs.Pairwise keyNe ∧ fs.length ≤ 16) (.lp (fun s => s.1.Pairwise keyNe ∧ s.1.length ≤ 16 ∧ 0 ≤ s.2 ∧ s.2 ≤ come.length) (fun s => (come.length - s.2).toNat) ⟨.nil, by simp, Int.le_refl _, by dsimp only; omega⟩ fun s ⟨s1, s2, s3, s4⟩ => ?_) fun fs ⟨hp, hn⟩ => ?_
    · refine .ite (fun c => ?_) fun _ => .ret ⟨s1, s2⟩
      simp only [Bool.and_eq_true, decide_eq_true_eq] at c
      rw [w_succ s3 c.1 (by omega), specNatInside_p, gcall_b]
      refine .gd ⟨s3, c.1⟩ (.gd (fun _ => ⟨s3, c.1⟩) ?_)
      rw [bd_val]
      refine .ite (fun _ => .gd ⟨s3, c.1⟩ (.bd (wvPut_post (by omega) _) fun ys hy => .ret ⟨⟨?_, ?_, by dsimp only; omega, by dsimp only; omega⟩, by dsimp only; omega⟩)) fun _ => .ret ⟨⟨s1, s2, by dsimp only; omega, by dsimp only; omega⟩, by dsimp only; omega⟩
      · rcases hy with rfl | ⟨rfl, hk⟩
        · exact s1
        · exact List.pairwise_append.2 ⟨s1, by simp, fun a ha b hb => by simp at hb; rw [hb]; exact hk a ha⟩
      · rcases hy with rfl | ⟨rfl, hk⟩
        · exact s2
        · simp; omega
    · refine .bd (Q := fun x => ∃ d, x = .inr d ∧ d.1 = fs.length ∧ d.2.1 = fs.map (outG B) ∧ ∃ E, (⟨d.2.2.1, d.2.2.2.1, d.2.2.2.2.1, d.2.2.2.2.2.1, d.2.2.2.2.2.2.1, d.2.2.2.2.2.2.2.1, d.2.2.2.2.2.2.2.2.1, d.2.2.2.2.2.2.2.2.2⟩ : NatBook) = withE B E ∧ Run B fs E)
        (.lp (fun s => ∃ i : Nat, s.2.2.2.2.2.2.2.2.2 = (i : Int) ∧ i ≤ fs.length ∧ s.1 = (fs.take i).map (outG B) ∧ ∃ E, (⟨s.2.1, s.2.2.1, s.2.2.2.1, s.2.2.2.2.1, s.2.2.2.2.2.1, s.2.2.2.2.2.2.1, s.2.2.2.2.2.2.2.1, s.2.2.2.2.2.2.2.2.1⟩ : NatBook) = withE B E ∧ Run B (fs.take i) E) (fun s => fs.length - s.2.2.2.2.2.2.2.2.2.toNat)
          ⟨0, rfl, Nat.zero_le _, rfl, [], by rw [← F.none], Run.nil F.ok F.none⟩ fun s ⟨i, ei, hi, eo, E, ex, R⟩ => ?_) fun x15 ⟨d, ed, dn, dout, E, ex, R⟩ => ?_
      · obtain ⟨o, s1, s2, s3, s4, s5, s6, s7, s8, s9⟩ := s
        dsimp only at ei eo ex ⊢
        subst ei
        refine .ite (fun c => ?_) fun c => .ret ?_
        · have c := of_decide_eq_true c
          have hi' : i < fs.length := by omega
          have Rl := R.len
          rw [List.length_take] at Rl
          have st := step_out R.ok (by omega) (R.free (pw_take hp hi'))
          have ll := natOut_lens (b := withE B E) (fs.getD i default)
          have R' := R.step (pw_take hp hi') (by rw [List.length_take]; omega)
          rw [ex, Int.toNat_natCast, specOut_p]
          refine .gd ⟨by omega, by omega⟩ ?_
          rw [implOut2_p (by dsimp only [withE]; omega) (by dsimp only [withE]; omega), bd_val]
          refine .gd ⟨by omega, by omega⟩ ?_
          have l2 : (natOut (withE B E) (fs.getD i default)).1.Doors.length ≤ 1048576 ∧ (natOut (withE B E) (fs.getD i default)).1.Entries.length ≤ 1048576 := by
            dsimp only [withE] at ll ⊢
            exact ⟨by omega, by omega⟩
          rw [bd_val, wvBook_q l2.1 l2.2, flow_self, gcall_val, bd_val]
          refine .ite (fun k => by simp at k) fun _ => ?_
          rw [st.1, st.2, wrap_succ hi' (by omega)]
          refine .gd (by rw [eo]; simp; omega) (.ret ⟨⟨i + 1, rfl, hi', ?_, addE B E (fs.getD i default), rfl, by rw [take_succ_getD hi']; exact R'⟩, by dsimp only; omega⟩)
          rw [take_succ_getD hi', List.map_append, eo]; rfl
        · simp only [decide_eq_true_eq] at c
          have : i = fs.length := by omega
          subst this
          rw [List.take_length] at eo R
          exact ⟨_, rfl, by rw [eo]; simp, eo, E, ex, R⟩
      · subst ed
        dsimp only
        obtain ⟨d1, d2, s1, s2, s3, s4, s5, s6, s7, s8⟩ := d
        dsimp only at dn dout ex ⊢
        subst dn dout
        rw [ex]
        refine .bd (Q := fun x => ∃ t : Nat, x = (t : Int) ∧ (0 < fs.length → t < fs.length)) (.ite (fun c => .gd (by simp only [decide_eq_true_eq] at c; omega) (.ret ?_)) fun c => .ret ⟨0, rfl, fun q => q⟩) fun x24 ⟨t, et, ht⟩ => ?_
        · simp only [decide_eq_true_eq] at c
          have t1 := Int.tmod_nonneg ((fs.length : Nat) : Int) (a := ((a1.length : Nat) : Int)) (by omega)
          have t2 := Int.tmod_lt_of_pos ((a1.length : Nat) : Int) (b := ((fs.length : Nat) : Int)) (by omega)
          exact ⟨(((a1.length : Nat) : Int).tmod ((fs.length : Nat) : Int)).toNat, by omega, fun _ => by omega⟩
        · subst et
          generalize hco : (((((a0.length : Nat) : Int) : Int).tmod 2) == 1) = co
          refine .bd (Q := fun x => ∃ d, x = .inr d ∧ ∃ E', (⟨d.1, d.2.1, d.2.2.1, d.2.2.2.1, d.2.2.2.2.1, d.2.2.2.2.2.1, d.2.2.2.2.2.2.1, d.2.2.2.2.2.2.2⟩ : NatBook) = withE B E' ∧ Run B (pick fs t co fs.length) E')
            (.lp (fun s => ∃ i : Nat, s.2.2.2.2.2.2.2.2 = (i : Int) ∧ i ≤ fs.length ∧ ∃ E', (⟨s.1, s.2.1, s.2.2.1, s.2.2.2.1, s.2.2.2.2.1, s.2.2.2.2.2.1, s.2.2.2.2.2.2.1, s.2.2.2.2.2.2.2.1⟩ : NatBook) = withE B E' ∧ Run B (pick fs t co i) E') (fun s => fs.length - s.2.2.2.2.2.2.2.2.toNat)
              ⟨0, rfl, Nat.zero_le _, [], by rw [← F.none], Run.nil F.ok F.none⟩ fun s ⟨i, ei, hi, E', ex', R'⟩ => ?_) fun x31 ⟨d, ed, E', ex', R'⟩ => ?_
          · obtain ⟨s1, s2, s3, s4, s5, s6, s7, s8, s9⟩ := s
            dsimp only at ei ex' ⊢
            subst ei
            refine .ite (fun c => ?_) fun c => .ret ?_
            · have c := of_decide_eq_true c
              have hi' : i < fs.length := by omega
              have ht' := ht (by omega)
              have pl := perm_lt (c := co) hi' ht'
              have e33 : (gd ((2 : Int) ≠ 0) <| (if co = true then some (IntKind.i64.wrap ((IntKind.i64.wrap (((fs.length : Nat) : Int) - 1)) - ((IntKind.i64.wrap ((i : Int) + (t : Int)) : Int).tmod ((fs.length : Nat) : Int)))) else some ((IntKind.i64.wrap ((i : Int) + (t : Int)) : Int).tmod ((fs.length : Nat) : Int)))) = some ((perm fs.length t co i : Nat) : Int) := by
                have rl := rot_lt hi' ht'
                have er : (IntKind.i64.wrap ((i : Int) + (t : Int)) : Int).tmod ((fs.length : Nat) : Int) = ((rot fs.length t i : Nat) : Int) := by
                  rw [wrap_i64 (by omega) (by omega), tmod2 (by omega) (by omega)]
                  unfold rot
                  split <;> split <;> omega
                rw [gd_pos (by decide), er, wrap_i64 (n := ((fs.length : Nat) : Int) - 1) (by omega) (by omega), wrap_i64 (by omega) (by omega)]
                unfold perm
                cases co
                · simp
                · simp; omega
              have Rl := R'.len
              rw [pick_len] at Rl
              have st := step_out R'.ok (by omega) (R'.free (pw_pick hp ht' hi'))
              have R2 := R'.step (pw_pick hp ht' hi') (by rw [pick_len]; omega)
              refine .gd (by omega) ?_
              rw [e33, bd_val, Int.toNat_natCast, ex', implOut2_p (by dsimp only [withE]; omega) (by dsimp only [withE]; omega), map_getD_out pl]
              refine .gd ⟨by omega, by omega⟩ ?_
              rw [bd_val]
              refine .gd ⟨by omega, by simp; omega⟩ ?_
              rw [st.1, st.2, flow_self]
              refine .ite (fun k => by simp at k) fun _ => ?_
              rw [wrap_succ hi' (by omega)]
              exact .ret ⟨⟨i + 1, rfl, hi', _, rfl, by rw [pick_succ]; exact R2⟩, by dsimp only; omega⟩
            · simp only [decide_eq_true_eq] at c
              have : i = fs.length := by omega
              subst this
              exact ⟨_, rfl, E', ex', R'⟩
          · subst ed
            dsimp only
            have eE : E' = E := by
              by_cases h0 : 0 < fs.length
              · exact (R.same R' (pick_mem (ht h0))).symm
              · have e0 : fs = [] := List.eq_nil_of_length_eq_zero (by omega)
                subst e0
                exact (R.same R' fun f => by simp [pick]).symm
            rw [ex', eE]
            have Rl := R.len
            rw [wvBook_q (by dsimp only [withE]; omega) (by dsimp only [withE]; omega), bd_val, implBookOk_p (by dsimp only [withE]; omega) (by dsimp only [withE]; omega), specBookOk_p, gcall_val, bd_val, bd_val]
            exact .ret (by simp)
  obtain ⟨x, e, rfl⟩ := key
  exact e

end Go.Proofs.Ytaoeomoepefojab
