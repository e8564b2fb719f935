/-
  Plain Lean: the least packet that is accepted, impl's and the reference's alike; what holds of one packet holds at the grid.
-/
import Derived.Test.YtjpfiaejakidnaaKz3
import Derived.Test.YtjpfiaejakidnaaAclGz
set_option linter.all false
namespace Go.Proofs.Ytjpfiaejakidnaa
open Go Go.Ab
set_option maxHeartbeats 400000

theorem lp_find1 {β : Type} {step : Int → Option (Int ⊕ β)} (n : Nat) (f : Nat → Option β) (d : β) (h1 : ∀ i : Nat, i < n → step ((i : Int) + 1) = some (match f i with | some b => .inr b | none => .inl ((i : Int) + 1 + 1))) (h2 : step ((n : Int) + 1) = some (.inr d)) :
    lp step 1 = some ((findR f 0 n).getD d) := by
  have key : ∀ k i : Nat, i + k = n → lp step ((i : Int) + 1) = some ((findR f i k).getD d) := by
    intro k
    induction k with
    | zero =>
      intro i hi
      have : i = n := by omega
      subst this
      rw [lp_done h2]; rfl
    | succ k ih =>
      intro i hi
      have hs := h1 i (by omega)
      unfold findR
      cases hf : f i with
      | some b => rw [hf] at hs; rw [lp_done hs]; rfl
      | none =>
        rw [hf] at hs; rw [lp_more hs]
        have := ih (i + 1) (by omega)
        rw [show (((i + 1 : Nat) : Int) + 1) = (i : Int) + 1 + 1 by omega] at this
        exact this
  exact key n 0 (by omega)
theorem findR_some {β : Type} {f : Nat → Option β} {b : β} : ∀ {n i : Nat}, findR f i n = some b → ∃ j, i ≤ j ∧ j < i + n ∧ f j = some b
  | 0, i, h => by cases h
  | n + 1, i, h => by
    unfold findR at h
    cases hf : f i with
    | some c => rw [hf] at h; cases h; exact ⟨i, by omega, by omega, hf⟩
    | none =>
      rw [hf] at h
      obtain ⟨j, h1, h2, h3⟩ := findR_some (n := n) h
      exact ⟨j, by omega, by omega, h3⟩
theorem findR_none {β : Type} {f : Nat → Option β} : ∀ {n i : Nat}, findR f i n = none → ∀ j, i ≤ j → j < i + n → f j = none
  | 0, i, h, j, h1, h2 => by omega
  | n + 1, i, h, j, h1, h2 => by
    unfold findR at h
    cases hf : f i with
    | some c => rw [hf] at h; cases h
    | none =>
      rw [hf] at h
      by_cases e : j = i
      · subst e; exact hf
      · exact findR_none (n := n) h j (by omega) (by omega)

theorem findR_omap {β γ : Type} {f : Nat → Option β} {h : β → γ} : ∀ (n i : Nat), findR (fun i => (f i).map h) i n = (findR f i n).map h
  | 0, _ => rfl
  | n + 1, i => by
    unfold findR
    cases f i with
    | none => exact findR_omap n (i + 1)
    | some b => rfl

def k3 (f : AclPacket → Bool) (a b : Int) : Option Int := findR (fun i => if f ⟨a, b, (i : Int) + 1⟩ = true then some ((i : Int) + 1) else none) 0 7
def k2 (f : AclPacket → Bool) (ts : List Int) (a : Int) : Option (Int × Int) := findR (fun j => (k3 f a (ts.getD j default)).map fun k => (ts.getD j default, k)) 0 ts.length
def k1 (f : AclPacket → Bool) (fs ts : List Int) : Option (Int × Int × Int) := findR (fun i => (k2 f ts (fs.getD i default)).map fun d => (fs.getD i default, d.1, d.2)) 0 fs.length
def leastR (f : AclPacket → Bool) (fs ts : List Int) : AclPacket × Bool := match k1 f fs ts with
  | some d => (⟨d.1, d.2.1, d.2.2⟩, true)
  | none => (⟨0, 0, 0⟩, false)
theorem leastR_true {f : AclPacket → Bool} {fs ts : List Int} (h : (leastR f fs ts).2 = true) : f (leastR f fs ts).1 = true ∧ (leastR f fs ts).1.From ∈ fs ∧ (leastR f fs ts).1.To ∈ ts ∧ 1 ≤ (leastR f fs ts).1.Kind ∧ (leastR f fs ts).1.Kind ≤ 7 := by
  unfold leastR at h ⊢
  cases hk : k1 f fs ts with
  | none => rw [hk] at h; cases h
  | some d =>
    dsimp only
    obtain ⟨i, _, hi, h1⟩ := findR_some hk
    obtain ⟨d2, h2, rfl⟩ := Option.map_eq_some_iff.1 h1
    obtain ⟨j, _, hj, h3⟩ := findR_some h2
    obtain ⟨k, h4, rfl⟩ := Option.map_eq_some_iff.1 h3
    obtain ⟨q, _, hq, h5⟩ := findR_some h4
    dsimp only
    split at h5
    · rename_i hf
      simp only [Option.some.injEq] at h5
      subst h5
      exact ⟨hf, getD_mem (by omega), getD_mem (by omega), by omega, by omega⟩
    · cases h5
theorem leastR_false {f : AclPacket → Bool} {fs ts : List Int} (h : (leastR f fs ts).2 = false) {a b k : Int} (ha : a ∈ fs) (hb : b ∈ ts) (h1 : 1 ≤ k) (h7 : k ≤ 7) : f ⟨a, b, k⟩ = false := by
  unfold leastR at h
  cases hk : k1 f fs ts with
  | some d => rw [hk] at h; cases h
  | none =>
    obtain ⟨i, hi, rfl⟩ := List.mem_iff_getElem.1 ha
    obtain ⟨j, hj, rfl⟩ := List.mem_iff_getElem.1 hb
    have e1 : fs.getD i default = fs[i] := by simp [List.getD_eq_getElem?_getD, hi]
    have e2 : ts.getD j default = ts[j] := by simp [List.getD_eq_getElem?_getD, hj]
    have r1 := findR_none hk i (by omega) (by omega)
    rw [Option.map_eq_none_iff, e1] at r1
    have r2 := findR_none r1 j (by omega) (by omega)
    rw [Option.map_eq_none_iff, e2] at r2
    have r3 := findR_none r2 (k - 1).toNat (by omega) (by omega)
    have e3 : (((k - 1).toNat : Nat) : Int) + 1 = k := by omega
    rw [e3] at r3
    cases hf : f ⟨fs[i], ts[j], k⟩
    · rfl
    · rw [if_pos hf] at r3; cases r3

theorem kind_p {f : AclPacket → Bool} {a b : Int} {step : Int → Option (Int ⊕ (Int ⊕ Unit))} (h : ∀ k : Int, 1 ≤ k → k ≤ 7 → step k = (if f ⟨a, b, k⟩ = true then some (.inr (.inl k)) else some (.inl (IntKind.i64.wrap (k + 1))))) (h8 : step 8 = some (.inr (.inr ()))) :
    lp step 1 = some (match k3 f a b with | some k => .inl k | none => .inr ()) := by
  rw [lp_find1 7 (fun i => if f ⟨a, b, (i : Int) + 1⟩ = true then some (.inl ((i : Int) + 1)) else none) (.inr ()) (fun i hi => ?_) h8]
  · have e : (fun i : Nat => if f ⟨a, b, (i : Int) + 1⟩ = true then some (Sum.inl (β := Unit) ((i : Int) + 1)) else none) = fun i : Nat => (if f ⟨a, b, (i : Int) + 1⟩ = true then some ((i : Int) + 1) else none).map Sum.inl := by
      funext i
      split <;> rfl
    rw [e, findR_omap]
    unfold k3
    cases findR (fun i : Nat => if f ⟨a, b, (i : Int) + 1⟩ = true then some ((i : Int) + 1) else none) 0 7 <;> rfl
  · rw [h _ (by omega) (by omega), wrap_i64 (by omega) (by omega)]
    cases f ⟨a, b, (i : Int) + 1⟩ <;> rfl

theorem implLeast_p {f : AclPacket → Bool} {cf : AclPacket → Option Bool} (hcf : ∀ p, cf p = some (f p)) {x2 x1 : List Int} (h1 : x2.length ≤ 1000000) (h2 : x1.length ≤ 1000000) :
    bd (lp (σ := Int) (β := ((Int × Int × Int) ⊕ Unit)) (fun s3 =>
(if (decide (s3 < ((x2.length : Nat) : Int))) = true then
 gd ((0 : Int) ≤ s3 ∧ s3 < ((x2.length : Nat) : Int)) <|
 bd (lp (σ := Int) (β := ((Int × Int) ⊕ Unit)) (fun s8 =>
(if (decide (s8 < ((x1.length : Nat) : Int))) = true then
 gd ((0 : Int) ≤ s8 ∧ s8 < ((x1.length : Nat) : Int)) <|
 bd (lp (σ := Int) (β := (Int ⊕ Unit)) (fun s13 =>
(if (decide (s13 ≤ 7)) = true then
 bd (cf (⟨(x2.getD s3.toNat default), (x1.getD s8.toNat default), s13⟩ : AclPacket)) fun x17 =>
(if x17 = true then
 some (.inr (.inl s13))
else
 some (.inl (IntKind.i64.wrap (s13 + 1))))
else
 some (.inr (.inr ())))) 1) fun x16 =>
(match x16 with
| .inl d18 =>
 some (.inr (.inl ((x1.getD s8.toNat default), d18)))
| .inr d19 =>
 some (.inl (IntKind.i64.wrap (s8 + 1))))
else
 some (.inr (.inr ())))) 0) fun x11 =>
(match x11 with
| .inl d20 =>
 some (.inr (.inl ((x2.getD s3.toNat default), d20.1, d20.2)))
| .inr d21 =>
 some (.inl (IntKind.i64.wrap (s3 + 1))))
else
 some (.inr (.inr ())))) 0) (fun x6 =>
(match x6 with
| .inl d22 =>
 some ((⟨d22.1, d22.2.1, d22.2.2⟩ : AclPacket), true)
| .inr d23 =>
 some ((⟨0, 0, 0⟩ : AclPacket), false))) = some (leastR f x2 x1) := by
  rw [lp_find x2.length (fun i => (k2 f x1 (x2.getD i default)).map fun d => .inl (x2.getD i default, d.1, d.2)) (.inr ()) (fun i hi => ?_) (by rw [if_neg (by simp)]), bd_val]
  · unfold leastR k1
    have e : (fun i => (k2 f x1 (x2.getD i default)).map fun d => (Sum.inl (β := Unit) (x2.getD i default, d.1, d.2))) = fun i => ((k2 f x1 (x2.getD i default)).map fun d => (x2.getD i default, d.1, d.2)).map Sum.inl := by
      funext i; rw [Option.map_map]; rfl
    rw [e, findR_omap]
    generalize findR (fun i => (k2 f x1 (x2.getD i default)).map fun d => (x2.getD i default, d.1, d.2)) 0 x2.length = o
    cases o <;> rfl
  · rw [if_pos (by simp; omega), gd_pos (by omega), Int.toNat_natCast]
    rw [lp_find x1.length (fun j => (k3 f (x2.getD i default) (x1.getD j default)).map fun k => .inl (x1.getD j default, k)) (.inr ()) (fun j hj => ?_) (by rw [if_neg (by simp)]), bd_val]
    · unfold k2
      have e : (fun j => (k3 f (x2.getD i default) (x1.getD j default)).map fun k => (Sum.inl (β := Unit) (x1.getD j default, k))) = fun j => ((k3 f (x2.getD i default) (x1.getD j default)).map fun k => (x1.getD j default, k)).map Sum.inl := by
        funext j; rw [Option.map_map]; rfl
      rw [e, findR_omap, wrap_succ hi (by omega)]
      generalize findR (fun j => (k3 f (x2.getD i default) (x1.getD j default)).map fun k => (x1.getD j default, k)) 0 x1.length = o
      cases o <;> rfl
    · rw [if_pos (by simp; omega), gd_pos (by omega), Int.toNat_natCast, kind_p (f := f) (a := x2.getD i default) (b := x1.getD j default) (fun k h1 h7 => ?_) (by rw [if_neg (by decide)]), bd_val, wrap_succ hj (by omega)]
      · cases k3 f (x2.getD i default) (x1.getD j default) <;> rfl
      · rw [if_pos (by simpa using h7), hcf, bd_val]

theorem specLoops_p {f : AclPacket → Bool} {cf : AclPacket → Option Bool} (hcf : ∀ p, cf p = some (f p)) {x2 x4 : List Int} (h1 : x2.length ≤ 1000000) (h2 : x4.length ≤ 1000000) :
    bd (lp (σ := Int) (β := ((Int × Int × Int) ⊕ Unit)) (fun s5 =>
(if (decide (s5 < ((x2.length : Nat) : Int))) = true then
 bd (lp (σ := Int) (β := ((Int × Int) ⊕ Unit)) (fun s9 =>
(if (decide (s9 < ((x4.length : Nat) : Int))) = true then
 bd (lp (σ := Int) (β := (Int ⊕ Unit)) (fun s13 =>
(if (decide (s13 ≤ 7)) = true then
 gd ((0 : Int) ≤ s5 ∧ s5 < ((x2.length : Nat) : Int)) <|
 gd ((0 : Int) ≤ s9 ∧ s9 < ((x4.length : Nat) : Int)) <|
 bd (cf (⟨(x2.getD s5.toNat default), (x4.getD s9.toNat default), s13⟩ : AclPacket)) fun x19 =>
(if x19 = true then
 some (.inr (.inl s13))
else
 some (.inl (IntKind.i64.wrap (s13 + 1))))
else
 some (.inr (.inr ())))) 1) fun x16 =>
(match x16 with
| .inl d20 =>
 some (.inr (.inl ((x4.getD s9.toNat default), d20)))
| .inr d21 =>
 some (.inl (IntKind.i64.wrap (s9 + 1))))
else
 some (.inr (.inr ())))) 0) fun x12 =>
(match x12 with
| .inl d22 =>
 some (.inr (.inl ((x2.getD s5.toNat default), d22.1, d22.2)))
| .inr d23 =>
 some (.inl (IntKind.i64.wrap (s5 + 1))))
else
 some (.inr (.inr ())))) 0) (fun x8 =>
(match x8 with
| .inl d24 =>
 some ((⟨d24.1, d24.2.1, d24.2.2⟩ : AclPacket), true)
| .inr d25 =>
 some ((⟨0, 0, 0⟩ : AclPacket), false))) = some (leastR f x2 x4) := by
  rw [lp_find x2.length (fun i => (k2 f x4 (x2.getD i default)).map fun d => .inl (x2.getD i default, d.1, d.2)) (.inr ()) (fun i hi => ?_) (by rw [if_neg (by simp)]), bd_val]
  · unfold leastR k1
    have e : (fun i => (k2 f x4 (x2.getD i default)).map fun d => (Sum.inl (β := Unit) (x2.getD i default, d.1, d.2))) = fun i => ((k2 f x4 (x2.getD i default)).map fun d => (x2.getD i default, d.1, d.2)).map Sum.inl := by
      funext i; rw [Option.map_map]; rfl
    rw [e, findR_omap]
    generalize findR (fun i => (k2 f x4 (x2.getD i default)).map fun d => (x2.getD i default, d.1, d.2)) 0 x2.length = o
    cases o <;> rfl
  · rw [if_pos (by simp; omega), Int.toNat_natCast]
    rw [lp_find x4.length (fun j => (k3 f (x2.getD i default) (x4.getD j default)).map fun k => .inl (x4.getD j default, k)) (.inr ()) (fun j hj => ?_) (by rw [if_neg (by simp)]), bd_val]
    · unfold k2
      have e : (fun j => (k3 f (x2.getD i default) (x4.getD j default)).map fun k => (Sum.inl (β := Unit) (x4.getD j default, k))) = fun j => ((k3 f (x2.getD i default) (x4.getD j default)).map fun k => (x4.getD j default, k)).map Sum.inl := by
        funext j; rw [Option.map_map]; rfl
      rw [e, findR_omap, wrap_succ hi (by omega)]
      generalize findR (fun j => (k3 f (x2.getD i default) (x4.getD j default)).map fun k => (x4.getD j default, k)) 0 x4.length = o
      cases o <;> rfl
    · rw [if_pos (by simp; omega), Int.toNat_natCast, kind_p (f := f) (a := x2.getD i default) (b := x4.getD j default) (fun k h1 h7 => ?_) (by rw [if_neg (by decide)]), bd_val, wrap_succ hj (by omega)]
      · cases k3 f (x2.getD i default) (x4.getD j default) <;> rfl
      · rw [if_pos (by simpa using h7), gd_pos (by omega), gd_pos (by omega), hcf, bd_val]

theorem decides1_p {rs : List AclRule} (h : aclOk rs = true) (at_ : Int) (p : AclPacket) : impl_AclWitness_1_m p rs at_ = some (at? (decideR rs p) == at_) := by
  unfold impl_AclWitness_1_m
  rw [decides_p h, bd_val]
theorem differ1_p {a b : List AclRule} (ha : aclOk a = true) (hb : aclOk b = true) (p : AclPacket) : impl_AclDiffer_1_m p a b = some (!(permit a (decideR a p) == permit b (decideR b p))) := by
  unfold impl_AclDiffer_1_m
  rw [passes_p ha, bd_val, passes_p hb, bd_val]
def soR (a b : List AclRule) (n : Int) (p : AclPacket) : Bool := if n ≥ 0 then at? (decideR a p) == n else !(permit a (decideR a p) == permit b (decideR b p))
theorem l4So_p {a b : List AclRule} (ha : aclOk a = true) (hb : aclOk b = true) (n : Int) (p : AclPacket) : spec_l4So_m a b n p = some (soR a b n p) := by
  unfold spec_l4So_m soR
  rw [l4Says_p ha, bd_val, l4Says_p hb, bd_val]
  by_cases h : n ≥ 0
  · rw [if_pos (by simpa using h), if_pos h]
  · rw [if_neg (by simpa using h), if_neg h]

def Oks (rs : List AclRule) : Prop := (∀ i, i < rs.length → ruleOk (rs.getD i default) = true) ∧ rs.length ≤ 1000
theorem oks_of {rs : List AclRule} (h : aclOk rs = true) : Oks rs := ⟨fun i hi => aclOk_at h hi, by have := aclOk_len h; omega⟩
theorem oks_app {a b : List AclRule} (ha : aclOk a = true) (hb : aclOk b = true) : Oks (a ++ b) := by
  have h1 := aclOk_len ha
  have h2 := aclOk_len hb
  refine ⟨fun i hi => ?_, by simp; omega⟩
  rw [List.length_append] at hi
  by_cases h : i < a.length
  · have : (a ++ b).getD i default = a.getD i default := by simp [List.getD_eq_getElem?_getD, List.getElem?_append_left h]
    rw [this]; exact aclOk_at ha h
  · have : (a ++ b).getD i default = b.getD (i - a.length) default := by simp [List.getD_eq_getElem?_getD, List.getElem?_append_right (by omega : a.length ≤ i)]
    rw [this]; exact aclOk_at hb (by omega)
theorem Oks.frm {rs : List AclRule} (h : Oks rs) : ∀ i, i < rs.length → netOk (rs.getD i default).From = true := fun i hi => by
  have := h.1 i hi
  simp only [ruleOk, Bool.and_eq_true] at this
  exact this.1.1
theorem Oks.to {rs : List AclRule} (h : Oks rs) : ∀ i, i < rs.length → netOk (rs.getD i default).To = true := fun i hi => by
  have := h.1 i hi
  simp only [ruleOk, Bool.and_eq_true] at this
  exact this.1.2
theorem edgesTo_post {rs : List AclRule} (h : Oks rs) : Post (impl_edges_impl_least_1_m rs) (IsGrid (rs.map AclRule.To)) := by
  have h2 := h.2
  have h1 := edges_post AclRule.To impl_least_1_m (fun _ => rfl) h.to (by omega)
  unfold impl_edges_impl_least_1_m
  exact h1
theorem edgesFrom_post {rs : List AclRule} (h : Oks rs) : Post (impl_edges_impl_least_2_m rs) (IsGrid (rs.map AclRule.From)) := by
  have h2 := h.2
  have h1 := edges_post AclRule.From impl_least_2_m (fun _ => rfl) h.frm (by omega)
  unfold impl_edges_impl_least_2_m
  exact h1

theorem froms_p {rs : List AclRule} (h : rs.length ≤ 1000) : spec_l4Froms_m rs = some (rs.map AclRule.From) := by
  unfold spec_l4Froms_m
  obtain ⟨e1, e2⟩ := lp_fold (step := fun s1 : List NetPrefix × Int =>
(if (decide (s1.2 < ((rs.length : Nat) : Int))) = true then
 gd ((0 : Int) ≤ s1.2 ∧ s1.2 < ((rs.length : Nat) : Int)) <|
 gd (((s1.1.length) + (([((rs.getD s1.2.toNat default).From)] : List NetPrefix).length)) * (16 + 1) ≤ 70368744177664) <|
 some (.inl ((s1.1 ++ ([((rs.getD s1.2.toNat default).From)] : List NetPrefix)), IntKind.i64.wrap (s1.2 + 1)))
else
 some (.inr (s1.1.length, s1.1)))) rs.length (fun a i => a ++ [(rs.getD i default).From]) (fun a => (a.length, a)) [] (fun i a => a = (rs.take i).map AclRule.From) (by simp) (fun i a hi ha => by
      subst ha
      rw [List.take_add_one, List.map_append]
      simp [List.getD_eq_getElem?_getD, hi]) (fun i a hi ha => by
      subst ha
      dsimp only
      rw [if_pos (by simp; omega), gd_pos (by omega), gd_pos (by simp; omega), Int.toNat_natCast, wrap_succ hi (by omega)]) (fun a ha => by dsimp only; rw [if_neg (by simp)])
  rw [e1, bd_val, e2, List.take_of_length_le (Nat.le_refl _)]
theorem tos_p {rs : List AclRule} (h : rs.length ≤ 1000) : spec_l4Tos_m rs = some (rs.map AclRule.To) := by
  unfold spec_l4Tos_m
  obtain ⟨e1, e2⟩ := lp_fold (step := fun s1 : List NetPrefix × Int =>
(if (decide (s1.2 < ((rs.length : Nat) : Int))) = true then
 gd ((0 : Int) ≤ s1.2 ∧ s1.2 < ((rs.length : Nat) : Int)) <|
 gd (((s1.1.length) + (([((rs.getD s1.2.toNat default).To)] : List NetPrefix).length)) * (16 + 1) ≤ 70368744177664) <|
 some (.inl ((s1.1 ++ ([((rs.getD s1.2.toNat default).To)] : List NetPrefix)), IntKind.i64.wrap (s1.2 + 1)))
else
 some (.inr (s1.1.length, s1.1)))) rs.length (fun a i => a ++ [(rs.getD i default).To]) (fun a => (a.length, a)) [] (fun i a => a = (rs.take i).map AclRule.To) (by simp) (fun i a hi ha => by
      subst ha
      rw [List.take_add_one, List.map_append]
      simp [List.getD_eq_getElem?_getD, hi]) (fun i a hi ha => by
      subst ha
      dsimp only
      rw [if_pos (by simp; omega), gd_pos (by omega), gd_pos (by simp; omega), Int.toNat_natCast, wrap_succ hi (by omega)]) (fun a ha => by dsimp only; rw [if_neg (by simp)])
  rw [e1, bd_val, e2, List.take_of_length_le (Nat.le_refl _)]
theorem getD_map {α β : Type} [Inhabited α] [Inhabited β] {xs : List α} {f : α → β} {i : Nat} (hi : i < xs.length) : (xs.map f).getD i default = f (xs.getD i default) := by simp [List.getD_eq_getElem?_getD, hi]
theorem firstsFrom_post {rs : List AclRule} (h : Oks rs) : Post (spec_l4Firsts_m (rs.map AclRule.From)) (IsGrid (rs.map AclRule.From)) := by
  have := h.2
  exact l4Firsts_post (fun i hi => by rw [List.length_map] at hi; rw [getD_map hi]; exact h.frm i hi) (by simp; omega)
theorem firstsTo_post {rs : List AclRule} (h : Oks rs) : Post (spec_l4Firsts_m (rs.map AclRule.To)) (IsGrid (rs.map AclRule.To)) := by
  have := h.2
  exact l4Firsts_post (fun i hi => by rw [List.length_map] at hi; rw [getD_map hi]; exact h.to i hi) (by simp; omega)

/-- Both grids of some rules. -/
structure Grids (rs : List AclRule) (fs ts : List Int) : Prop where
  f : IsGrid (rs.map AclRule.From) fs
  t : IsGrid (rs.map AclRule.To) ts
theorem Grids.one {rs qs : List AclRule} {fs ts fs' ts' : List Int} (h : Grids rs fs ts) (k : Grids qs fs' ts') (e : ∀ r, r ∈ rs ↔ r ∈ qs) : fs' = fs ∧ ts' = ts := by
  refine ⟨grid_one k.f h.f fun p => ?_, grid_one k.t h.t fun p => ?_⟩ <;> simp only [List.mem_map, e]
theorem grids {rs : List AclRule} (h : Oks rs) : ∃ fs ts, Grids rs fs ts := by
  obtain ⟨fs, _, h1⟩ := edgesFrom_post h
  obtain ⟨ts, _, h2⟩ := edgesTo_post h
  exact ⟨fs, ts, h1, h2⟩
theorem edgesFrom_p {rs qs : List AclRule} {fs ts : List Int} (h : Oks qs) (g : Grids rs fs ts) (e : ∀ r, r ∈ rs ↔ r ∈ qs) : impl_edges_impl_least_2_m qs = some fs := by
  obtain ⟨x, e1, h1⟩ := edgesFrom_post h
  rw [e1, grid_one h1 g.f fun p => by simp only [List.mem_map, e]]
theorem edgesTo_p {rs qs : List AclRule} {fs ts : List Int} (h : Oks qs) (g : Grids rs fs ts) (e : ∀ r, r ∈ rs ↔ r ∈ qs) : impl_edges_impl_least_1_m qs = some ts := by
  obtain ⟨x, e1, h1⟩ := edgesTo_post h
  rw [e1, grid_one h1 g.t fun p => by simp only [List.mem_map, e]]
theorem Grids.len {rs : List AclRule} {fs ts : List Int} (g : Grids rs fs ts) (h : Oks rs) : fs.length ≤ 1000000 ∧ ts.length ≤ 1000000 := by
  have h1 := g.f.2.2
  have h2 := g.t.2.2
  have h3 := h.2
  rw [List.length_map] at h1 h2
  omega

theorem specLeast_p {a b : List AclRule} (ha : aclOk a = true) (hb : aclOk b = true) {fs ts : List Int} (g : Grids (a ++ b) fs ts) (n : Int) : spec_l4Least_m a b n = some (leastR (soR a b n) fs ts) := by
  have hok := oks_app ha hb
  have l1 := aclOk_len ha
  have l2 := aclOk_len hb
  obtain ⟨g1, g2⟩ := g.len hok
  unfold spec_l4Least_m
  rw [gd_pos (by omega), gd_pos (by omega), froms_p hok.2, bd_val]
  obtain ⟨x, e1, h1⟩ := firstsFrom_post hok
  rw [e1, grid_one h1 g.f fun p => Iff.rfl, bd_val, tos_p hok.2, bd_val]
  obtain ⟨y, e2, h2⟩ := firstsTo_post hok
  rw [e2, grid_one h2 g.t fun p => Iff.rfl, bd_val]
  have h1 := specLoops_p (f := soR a b n) (cf := fun p => spec_l4So_m a b n p) (fun p => l4So_p ha hb n p) g1 g2
  exact h1
theorem implWitnessLeast_p {a : List AclRule} (ha : aclOk a = true) {fs ts : List Int} (g : Grids a fs ts) {n : Int} (hn : n ≥ 0) : impl_least_impl_AclWitness_1_m a a n = some (leastR (soR a [] n) fs ts) := by
  obtain ⟨g1, g2⟩ := g.len (oks_of ha)
  unfold impl_least_impl_AclWitness_1_m
  rw [edgesTo_p (oks_of ha) g fun _ => Iff.rfl, bd_val, edgesFrom_p (oks_of ha) g fun _ => Iff.rfl, bd_val]
  have h1 := implLeast_p (f := soR a [] n) (cf := fun p => impl_AclWitness_1_m p a n) (fun p => by rw [decides1_p ha]; simp [soR, hn]) g1 g2
  exact h1
theorem implDifferLeast_p {a b : List AclRule} (ha : aclOk a = true) (hb : aclOk b = true) {rs : List AclRule} {fs ts : List Int} (g : Grids rs fs ts) (e : ∀ r, r ∈ rs ↔ r ∈ a ++ b) (hr : Oks rs) : impl_least_impl_AclDiffer_1_m (a ++ b) a b = some (leastR (soR a b (-1)) fs ts) := by
  obtain ⟨g1, g2⟩ := g.len hr
  unfold impl_least_impl_AclDiffer_1_m
  rw [edgesTo_p (oks_app ha hb) g e, bd_val, edgesFrom_p (oks_app ha hb) g e, bd_val]
  have h1 := implLeast_p (f := soR a b (-1)) (cf := fun p => impl_AclDiffer_1_m p a b) (fun p => by rw [differ1_p ha hb]; simp [soR]) g1 g2
  exact h1

/-- The place of the grid that stands for an address. -/
theorem at_grid {ps : List NetPrefix} {g : List Int} (hg : IsGrid ps g) {x : Int} (h0 : 0 ≤ x) (h1 : x ≤ 65535) : ∃ a ∈ g, 0 ≤ a ∧ a ≤ 65535 ∧ ∀ p ∈ ps, netOk p = true → netHas p a = netHas p x := by
  have key : ∀ l : List Int, (∃ y ∈ l, y ≤ x) → ∃ a ∈ l, a ≤ x ∧ ∀ y ∈ l, y ≤ x → y ≤ a := by
    intro l
    induction l with
    | nil => rintro ⟨y, hy, _⟩; simp at hy
    | cons z r ih =>
      intro h
      by_cases hr : ∃ y ∈ r, y ≤ x
      · obtain ⟨a, ha, hax, hm⟩ := ih hr
        by_cases hz : z ≤ x ∧ a < z
        · refine ⟨z, by simp, hz.1, fun y hy hyx => ?_⟩
          rcases List.mem_cons.1 hy with rfl | hy
          · exact Int.le_refl _
          · have := hm y hy hyx; omega
        · refine ⟨a, List.mem_cons_of_mem _ ha, hax, fun y hy hyx => ?_⟩
          rcases List.mem_cons.1 hy with rfl | hy
          · omega
          · exact hm y hy hyx
      · obtain ⟨y, hy, hyx⟩ := h
        rcases List.mem_cons.1 hy with rfl | hy
        · refine ⟨y, by simp, hyx, fun q hq hqx => ?_⟩
          rcases List.mem_cons.1 hq with rfl | hq
          · exact Int.le_refl _
          · exact absurd ⟨q, hq, hqx⟩ hr
        · exact absurd ⟨y, hy, hyx⟩ hr
  obtain ⟨a, ha, hax, hm⟩ := key g ⟨0, (hg.2.1 0).2 (.inl rfl), h0⟩
  have ha0 : 0 ≤ a := hm 0 ((hg.2.1 0).2 (.inl rfl)) h0
  refine ⟨a, ha, ha0, by omega, fun p hp hok => ?_⟩
  obtain ⟨n1, n2, n3, n4⟩ := netOk_spec hok
  have hs := netSize_pos p.Len
  unfold netHas
  have e1 : decide (p.Addr ≤ a) = decide (p.Addr ≤ x) := decide_eq_decide.2 ⟨fun h => by omega, fun h => hm _ ((hg.2.1 _).2 (.inr ⟨p, hp, .inl rfl⟩)) h⟩
  have e2 : decide (a < p.Addr + netSize p.Len) = decide (x < p.Addr + netSize p.Len) := decide_eq_decide.2 ⟨fun h => by
      apply Int.lt_of_not_ge
      intro hge
      have := hm _ ((hg.2.1 _).2 (.inr ⟨p, hp, .inr ⟨rfl, by omega⟩⟩)) hge
      omega, fun h => by omega⟩
  rw [e1, e2]

/-- At some place of the grid all is decided as at a packet. -/
theorem grid_packet {rs : List AclRule} {fs ts : List Int} (g : Grids rs fs ts) (ho : Oks rs) {p : AclPacket} (hp : packetOk p = true) : ∃ a ∈ fs, ∃ b ∈ ts, ∀ r ∈ rs, fits r ⟨a, b, p.Kind⟩ = fits r p := by
  simp only [packetOk, Bool.and_eq_true, inR_iff] at hp
  obtain ⟨a, ha, _, _, h1⟩ := at_grid g.f hp.1.1.1 hp.1.1.2
  obtain ⟨b, hb, _, _, h2⟩ := at_grid g.t hp.1.2.1 hp.1.2.2
  refine ⟨a, ha, b, hb, fun r hr => ?_⟩
  obtain ⟨i, hi, rfl⟩ := List.mem_iff_getElem.1 hr
  have e : rs[i] = rs.getD i default := by simp [List.getD_eq_getElem?_getD, hi]
  unfold fits
  dsimp only
  rw [h1 _ (List.mem_map.2 ⟨_, hr, rfl⟩) (by rw [e]; exact ho.frm i hi), h2 _ (List.mem_map.2 ⟨_, hr, rfl⟩) (by rw [e]; exact ho.to i hi)]
theorem decideR_congr {rs : List AclRule} {p q : AclPacket} (h : ∀ r ∈ rs, fits r p = fits r q) : decideR rs p = decideR rs q := by
  unfold decideR firstR
  have key : ∀ n i, i + n ≤ rs.length → findR (fun i => if fits (rs.getD i default) p = true then some i else none) i n = findR (fun i => if fits (rs.getD i default) q = true then some i else none) i n := by
    intro n
    induction n with
    | zero => intro i _; rfl
    | succ n ih =>
      intro i hi
      unfold findR
      rw [h _ (getD_mem (by omega)), ih (i + 1) (by omega)]
  exact key _ 0 (by omega)
theorem grid_so {a b rs : List AclRule} {fs ts : List Int} (g : Grids rs fs ts) (ho : Oks rs) (ha : ∀ r ∈ a, r ∈ rs) (hb : ∀ r ∈ b, r ∈ rs) {n : Int} (h : (leastR (soR a b n) fs ts).2 = false) {p : AclPacket} (hp : packetOk p = true) : soR a b n p = false := by
  obtain ⟨x, hx, y, hy, hf⟩ := grid_packet g ho hp
  simp only [packetOk, Bool.and_eq_true, inR_iff] at hp
  have := leastR_false h hx hy hp.2.1 hp.2.2
  rw [← this]
  unfold soR
  rw [decideR_congr fun r hr => hf r (ha r hr), decideR_congr fun r hr => hf r (hb r hr)]
theorem least_ok {rs : List AclRule} {fs ts : List Int} (g : Grids rs fs ts) (ho : Oks rs) {f : AclPacket → Bool} (h : (leastR f fs ts).2 = true) : packetOk (leastR f fs ts).1 = true := by
  obtain ⟨_, h1, h2, h3, h4⟩ := leastR_true h
  have cut : ∀ {ps : List NetPrefix} {x : Int}, (∀ p ∈ ps, netOk p = true) → Cut ps x → 0 ≤ x ∧ x ≤ 65535 := fun {ps x} hps hc => by
    rcases hc with rfl | ⟨p, hp, hc⟩
    · omega
    · obtain ⟨n1, n2, n3, n4⟩ := netOk_spec (hps p hp)
      have := netSize_pos p.Len
      omega
  have hm : ∀ (of : AclRule → NetPrefix), (∀ i, i < rs.length → netOk (of (rs.getD i default)) = true) → ∀ p ∈ rs.map of, netOk p = true := fun of h p hp => by
    obtain ⟨r, hr, rfl⟩ := List.mem_map.1 hp
    obtain ⟨i, hi, rfl⟩ := List.mem_iff_getElem.1 hr
    have e : rs[i] = rs.getD i default := by simp [List.getD_eq_getElem?_getD, hi]
    rw [e]; exact h i hi
  have c1 := cut (hm _ ho.frm) ((g.f.2.1 _).1 h1)
  have c2 := cut (hm _ ho.to) ((g.t.2.1 _).1 h2)
  simp only [packetOk, Bool.and_eq_true, inR_iff]
  exact ⟨⟨c1, c2⟩, h3, h4⟩

end Go.Proofs.Ytjpfiaejakidnaa
