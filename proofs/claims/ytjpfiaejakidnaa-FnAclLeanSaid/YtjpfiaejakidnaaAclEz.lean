/-
  Plain Lean: the rules that decide of nothing are left out: the row FnAclLean.
-/
import Derived.Test.YtjpfiaejakidnaaKz5
import Derived.Test.YtjpfiaejakidnaaAclDz
import Derived.Test.YtjpfiaejakidnaaAclPoz
set_option linter.all false
namespace Go.Proofs.Ytjpfiaejakidnaa
open Go Go.Ab
set_option maxHeartbeats 400000

theorem firstR_eq {p : Nat → Bool} {n i : Nat} (hi : i < n) (hp : p i = true) (h : ∀ k, k < i → p k = false) : firstR p n = some i := by
  cases hf : firstR p n with
  | none => have := firstR_none hf i hi; rw [hp] at this; cases this
  | some j =>
    obtain ⟨h1, h2, h3⟩ := firstR_some hf
    rcases Nat.lt_trichotomy i j with hlt | rfl | hgt
    · have := h3 i hlt; rw [hp] at this; cases this
    · rfl
    · have := h j hgt; rw [h2] at this; cases this
theorem firstR_no {p : Nat → Bool} {n : Nat} (h : ∀ k, k < n → p k = false) : firstR p n = none := by
  cases hf : firstR p n with
  | none => rfl
  | some j =>
    obtain ⟨h1, h2, _⟩ := firstR_some hf
    rw [h j h1] at h2; cases h2

/-- A rule that decides of some packet. -/
def Wit (rs : List AclRule) (i : Nat) : Prop := aclOk rs = true ∧ ∃ p, packetOk p = true ∧ decideR rs p = some i
open Classical in
noncomputable def kept (rs : List AclRule) (n : Nat) : List Nat := (List.range n).filter fun i => decide (Wit rs i)
noncomputable def leanR (rs : List AclRule) : List AclRule := (kept rs rs.length).map fun i => rs.getD i default
theorem wit_p {rs : List AclRule} (hl : rs.length ≤ 1048576) (i : Nat) : ∃ r : AclPacket × Bool, impl_AclWitness_m rs (i : Int) = some r ∧ spec_AclWitness_m rs (i : Int) = some r ∧ (r.2 = true ↔ Wit rs i) ∧
    (r.2 = true → packetOk r.1 = true ∧ decideR rs r.1 = some i) := by
  obtain ⟨r, e1, e2, h1, h2⟩ := witness_p hl (i : Int)
  have h3 : r.2 = true → packetOk r.1 = true ∧ decideR rs r.1 = some i := fun h => by
    obtain ⟨_, k2, k3⟩ := h1 h
    refine ⟨k2, ?_⟩
    unfold at? at k3
    cases hd : decideR rs r.1 with
    | none => rw [hd] at k3; simp at k3
    | some j =>
      rw [hd] at k3
      simp at k3
      have : j = i := by omega
      rw [this]
  refine ⟨r, e1, e2, ⟨fun h => ⟨(h1 h).1, r.1, (h3 h)⟩, fun ⟨ho, p, hp, hd⟩ => ?_⟩, h3⟩
  cases hr : r.2
  · have := h2 hr p (by unfold says; rw [ho, hp, hd]; simp [at?])
    omega
  · rfl
theorem kept_succ (rs : List AclRule) (n : Nat) [Decidable (Wit rs n)] : kept rs (n + 1) = kept rs n ++ (if Wit rs n then [n] else []) := by
  unfold kept
  rw [List.range_succ, List.filter_append]
  congr 1
  by_cases h : Wit rs n <;> simp [h]
theorem leanR_len (rs : List AclRule) : (leanR rs).length ≤ rs.length := by
  unfold leanR kept
  rw [List.length_map]
  exact Nat.le_trans (List.length_filter_le _ _) (by simp)
theorem kept_len (rs : List AclRule) (n : Nat) : (kept rs n).length ≤ n := by
  unfold kept
  exact Nat.le_trans (List.length_filter_le _ _) (by simp)

open Classical in
theorem implLeanFz_p {rs : List AclRule} (hl : rs.length ≤ 1048576) : impl_AclLean_fz_m rs = some (leanR rs) := by
  unfold impl_AclLean_fz_m
  obtain ⟨e1, e2⟩ := lp_fold (step := fun s1 : List AclRule × Int =>
(if (decide (s1.2 < ((rs.length : Nat) : Int))) = true then
 gd ((0 : Int) ≤ s1.2 ∧ s1.2 < ((rs.length : Nat) : Int)) <|
 bd (impl_AclWitness_m rs s1.2) fun x6 =>
(if x6.2 = true then
 gd (((s1.1.length) + (([{ (rs.getD s1.2.toNat default) with From := ((rs.getD s1.2.toNat default).From), To := ((rs.getD s1.2.toNat default).To) }] : List AclRule).length)) * (48 + 1) ≤ 70368744177664) <|
 some (.inl ((s1.1 ++ ([{ (rs.getD s1.2.toNat default) with From := ((rs.getD s1.2.toNat default).From), To := ((rs.getD s1.2.toNat default).To) }] : List AclRule)), IntKind.i64.wrap (s1.2 + 1)))
else
 some (.inl (s1.1, IntKind.i64.wrap (s1.2 + 1))))
else
 some (.inr (s1.1.length, s1.1)))) rs.length (fun a i => a ++ (if Wit rs i then [rs.getD i default] else [])) (fun a => (a.length, a)) [] (fun i a => a = (kept rs i).map fun i => rs.getD i default) (by simp [kept]) (fun i a hi ha => by
      rw [kept_succ, List.map_append, ha]
      by_cases h : Wit rs i <;> simp [h]) (fun i a hi ha => by
      obtain ⟨r, h1, _, h3, _⟩ := wit_p hl i
      have hlen : a.length ≤ i := by rw [ha, List.length_map]; exact kept_len rs i
      dsimp only
      rw [if_pos (by simp; omega), gd_pos (by omega), h1, bd_val]
      by_cases h : Wit rs i
      · rw [if_pos (h3.2 h), gd_pos (by simp; omega), Int.toNat_natCast, wrap_succ hi (by omega), if_pos h]
      · rw [if_neg (fun e => h (h3.1 e)), wrap_succ hi (by omega), if_neg h, List.append_nil]) (fun a ha => by dsimp only; rw [if_neg (by simp)])
  rw [e1, bd_val, e2]
  rfl
open Classical in
theorem specLean_p {rs : List AclRule} (hl : rs.length ≤ 1048576) : spec_AclLean_m rs = some (leanR rs) := by
  unfold spec_AclLean_m
  obtain ⟨e1, e2⟩ := lp_fold (step := fun s1 : List AclRule × Int =>
(if (decide (s1.2 < ((rs.length : Nat) : Int))) = true then
 bd (spec_AclWitness_m rs s1.2) fun x5 =>
(if x5.2 = true then
 gd ((0 : Int) ≤ s1.2 ∧ s1.2 < ((rs.length : Nat) : Int)) <|
 gd (((s1.1.length) + (([{ (rs.getD s1.2.toNat default) with From := ((rs.getD s1.2.toNat default).From), To := ((rs.getD s1.2.toNat default).To) }] : List AclRule).length)) * (48 + 1) ≤ 70368744177664) <|
 some (.inl ((s1.1 ++ ([{ (rs.getD s1.2.toNat default) with From := ((rs.getD s1.2.toNat default).From), To := ((rs.getD s1.2.toNat default).To) }] : List AclRule)), IntKind.i64.wrap (s1.2 + 1)))
else
 some (.inl (s1.1, IntKind.i64.wrap (s1.2 + 1))))
else
 some (.inr (s1.1.length, s1.1)))) rs.length (fun a i => a ++ (if Wit rs i then [rs.getD i default] else [])) (fun a => (a.length, a)) [] (fun i a => a = (kept rs i).map fun i => rs.getD i default) (by simp [kept]) (fun i a hi ha => by
      rw [kept_succ, List.map_append, ha]
      by_cases h : Wit rs i <;> simp [h]) (fun i a hi ha => by
      obtain ⟨r, _, h1, h3, _⟩ := wit_p hl i
      have hlen : a.length ≤ i := by rw [ha, List.length_map]; exact kept_len rs i
      dsimp only
      rw [if_pos (by simp; omega), h1, bd_val]
      by_cases h : Wit rs i
      · rw [if_pos (h3.2 h), gd_pos (by omega), gd_pos (by simp; omega), Int.toNat_natCast, wrap_succ hi (by omega), if_pos h]
      · rw [if_neg (fun e => h (h3.1 e)), wrap_succ hi (by omega), if_neg h, List.append_nil]) (fun a ha => by dsimp only; rw [if_neg (by simp)])
  rw [e1, bd_val, e2]
  rfl

theorem kept_mem {rs : List AclRule} {n i : Nat} : i ∈ kept rs n ↔ i < n ∧ Wit rs i := by
  unfold kept
  simp [List.mem_filter]
theorem kept_lt {rs : List AclRule} {n j k : Nat} (hjk : j < k) (hk : k < (kept rs n).length) : (kept rs n)[j] < (kept rs n)[k] :=
  List.pairwise_iff_getElem.1 (show (kept rs n).Pairwise (· < ·) from List.pairwise_lt_range.filter _) j k (by omega) hk hjk
theorem lean_get {rs : List AclRule} {j : Nat} (hj : j < (kept rs rs.length).length) : (leanR rs).getD j default = rs.getD (kept rs rs.length)[j] default := by
  unfold leanR
  rw [getD_map hj]
  congr 1
  simp [List.getD_eq_getElem?_getD, hj]
theorem lean_ok {rs : List AclRule} (h : aclOk rs = true) : aclOk (leanR rs) = true := by
  have hl := leanR_len rs
  have h2 := aclOk_len h
  simp only [aclOk, Bool.and_eq_true, decide_eq_true_eq]
  refine ⟨by omega, allR_of fun j hj => ?_⟩
  have hj' : j < (kept rs rs.length).length := by simpa [leanR] using hj
  rw [lean_get hj']
  exact aclOk_at h (kept_mem.1 (List.getElem_mem hj')).1
/-- What decides of a packet among the rules that are left. -/
theorem lean_some {rs : List AclRule} (h : aclOk rs = true) {p : AclPacket} (hp : packetOk p = true) {i : Nat} (hd : decideR rs p = some i) : ∃ j, ∃ hj : j < (kept rs rs.length).length, (kept rs rs.length)[j] = i ∧ decideR (leanR rs) p = some j := by
  obtain ⟨h1, h2, h3⟩ := firstR_some hd
  obtain ⟨j, hj, e⟩ := List.mem_iff_getElem.1 (kept_mem.2 ⟨h1, h, p, hp, hd⟩)
  refine ⟨j, hj, e, firstR_eq (by simpa [leanR] using hj) ?_ fun k hk => ?_⟩
  · rw [lean_get hj, e]; exact h2
  · rw [lean_get (by omega)]
    have := kept_lt hk hj
    exact h3 _ (by omega)
theorem lean_none {rs : List AclRule} {p : AclPacket} (hd : decideR rs p = none) : decideR (leanR rs) p = none := by
  refine firstR_no fun k hk => ?_
  have hk' : k < (kept rs rs.length).length := by simpa [leanR] using hk
  rw [lean_get hk']
  exact firstR_none hd _ (kept_mem.1 (List.getElem_mem hk')).1
theorem lean_permit {rs : List AclRule} (h : aclOk rs = true) {p : AclPacket} (hp : packetOk p = true) : permit (leanR rs) (decideR (leanR rs) p) = permit rs (decideR rs p) := by
  cases hd : decideR rs p with
  | none => rw [lean_none hd]; rfl
  | some i =>
    obtain ⟨j, hj, e, h1⟩ := lean_some h hp hd
    rw [h1]
    unfold permit
    dsimp only
    rw [lean_get hj, e]
theorem lean_wit {rs : List AclRule} (h : aclOk rs = true) {j : Nat} (hj : j < (leanR rs).length) : Wit (leanR rs) j := by
  have hj' : j < (kept rs rs.length).length := by simpa [leanR] using hj
  obtain ⟨_, _, p, hp, hd⟩ := kept_mem.1 (List.getElem_mem hj')
  refine ⟨lean_ok h, p, hp, ?_⟩
  obtain ⟨k, hk, e, h1⟩ := lean_some h hp hd
  have : k = j := by
    rcases Nat.lt_trichotomy k j with hlt | rfl | hgt
    · have := kept_lt hlt hj'; omega
    · rfl
    · have := kept_lt hgt hk; omega
  rw [← this]; exact h1
theorem lean_lean {rs : List AclRule} (h : aclOk rs = true) : leanR (leanR rs) = leanR rs := by
  generalize hq : leanR rs = qs
  have hw : ∀ j, j < qs.length → Wit qs j := fun j hj => by subst hq; exact lean_wit h hj
  have e : kept qs qs.length = List.range qs.length := by
    unfold kept
    exact List.filter_eq_self.2 fun j hj => by simpa using hw j (by simpa using hj)
  unfold leanR
  rw [e]
  apply List.ext_getElem
  · simp
  · intro i h1 h2
    simp [List.getD_eq_getElem?_getD, h2]
theorem lean_bad {rs : List AclRule} (h : aclOk rs = false) : leanR rs = [] := by
  have e : kept rs rs.length = [] := by
    unfold kept
    refine List.filter_eq_nil_iff.2 fun j _ => ?_
    simp only [decide_eq_true_eq]
    rintro ⟨ho, _⟩
    rw [h] at ho; cases ho
  unfold leanR
  rw [e]; rfl

theorem rule_beq (a b : AclRule) : ((a.Permit == b.Permit) && ((((a.From).Addr) == ((b.From).Addr)) && ((((a.From).Len) == ((b.From).Len)) && true)) && ((((a.To).Addr) == ((b.To).Addr)) && ((((a.To).Len) == ((b.To).Len)) && true)) && ((a.Kind == b.Kind) && true)) = decide (a = b) := by
  obtain ⟨p1, ⟨f1, f2⟩, ⟨t1, t2⟩, k1⟩ := a
  obtain ⟨q1, ⟨g1, g2⟩, ⟨u1, u2⟩, l1⟩ := b
  rw [Bool.eq_iff_iff]
  simp
  constructor
  · rintro ⟨⟨⟨rfl, rfl, rfl⟩, rfl, rfl⟩, rfl⟩; simp
  · rintro ⟨rfl, ⟨rfl, rfl⟩, ⟨rfl, rfl⟩, rfl⟩; simp
theorem waRules_p {xs ys : List AclRule} (h : xs.length ≤ 1048576) : laws_waRules_m xs ys = some (decide (xs = ys)) := by
  unfold laws_waRules_m
  by_cases hl : xs.length = ys.length
  · rw [if_neg (by simp; omega), lp_all xs.length (fun i => decide (xs.getD i default = ys.getD i default)) (.inl ()) (.inr ()) (fun i hi _ => ?_) (fun _ => by rw [if_neg (by simp)]), list_eq hl]
    · cases decide (xs = ys) <;> rfl
    · rw [if_pos (by simp; omega), gd_pos (by omega), gd_pos (by omega), Int.toNat_natCast, wrap_succ hi (by omega)]
      refine ite_not ?_
      rw [← rule_beq]
      simp only [Bool.and_true, Bool.and_assoc]
  · rw [if_pos (by simp; omega)]
    have : xs ≠ ys := fun e => hl (by rw [e])
    simp [this]

theorem fnAclLean_p {a0 a1 : List Int} (h : a0.length ≤ 9223372036854775807 ∧ ∀ x ∈ a0, FitsB x) (k : a1.length ≤ 9223372036854775807 ∧ ∀ x ∈ a1, FitsB x) : laws_FnAclLean_m a0 a1 = some true := by
  unfold laws_FnAclLean_m
  by_cases h0 : ((decide (((a0.length : Nat) : Int) > 1048576)) || (decide (((a1.length : Nat) : Int) > 1048576))) = true
  · rw [if_pos h0]
  rw [if_neg h0]
  obtain ⟨rs, e, hl⟩ : Post (spec_DrawAclLean_m a0) fun x => x.length ≤ 20 := by
    unfold spec_DrawAclLean_m
    exact .bd (open_post h.1 h.2) fun x1 h1 => .bd (anyRules_post h1 (by omega)) fun x2 ⟨g2, _⟩ => .ret g2
  have hll := leanR_len rs
  rw [e, bd_val, implLeanFz_p (by omega), bd_val, specLean_p (by omega), bd_val, waRules_p (by omega), bd_val]
  simp only [decide_true, Bool.not_true]
  rw [gcall_pos trivial, implAclOk_p (by omega), bd_val, gcall_pos trivial, specAclOk_p (by omega), bd_val, if_neg (by simp), bd_val]
  cases hok : aclOk rs
  · rw [if_pos (by decide), lean_bad hok]; rfl
  rw [if_neg (by decide)]
  have hlo := lean_ok hok
  obtain ⟨r, e1, _, _, h1, _⟩ := differ_p (a := rs) (b := leanR rs) (by omega) (by omega)
  have hr : r.2 = false := by
    cases hr : r.2
    · rfl
    · obtain ⟨k1, k2⟩ := (h1 hok hlo).1 hr
      unfold soR at k2
      rw [if_neg (by decide), lean_permit hok k1] at k2
      simp at k2
  rw [e1, bd_val, hr, gcall_pos rfl, implLeanFz_p (by omega), bd_val, gcall_pos rfl, waRules_p (by have := leanR_len (leanR rs); omega), bd_val, lean_lean hok, if_neg (by simp)]
  rw [lp_all (leanR rs).length (fun _ => true) (.inl ()) (.inr ()) (fun j hj _ => ?_) (fun _ => by rw [if_neg (by simp)]), bd_val]
  · rw [allR_of fun _ _ => rfl, if_pos rfl]
    dsimp only
    obtain ⟨⟨qs, q⟩, e4, _⟩ := drawAclSays_post k.1 k.2
    rw [e4, bd_val]
    dsimp only
    rw [implSays_p (by omega), bd_val, implSays_p (by omega), bd_val]
    unfold says
    rw [hok, hlo]
    cases hq : packetOk q
    · rfl
    · simp [lean_permit hok hq]
  · obtain ⟨w, e5, _, h5, h6⟩ := wit_p (rs := leanR rs) (by omega) j
    have hw := h5.2 (lean_wit hok hj)
    obtain ⟨k1, k2⟩ := h6 hw
    have es : says (leanR rs) w.1 = ((j : Int), ((leanR rs).getD j default).Permit) := by
      unfold says
      rw [hlo, k1, k2]; rfl
    rw [if_pos (by simp; omega), e5, bd_val, implSays_p (by omega), bd_val, es, hw, gd_pos (fun _ => by omega), Int.toNat_natCast, if_neg (by simp), if_pos rfl, wrap_succ hj (by omega)]

end Go.Proofs.Ytjpfiaejakidnaa
