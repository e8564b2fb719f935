/-
  Plain Lean: the laws' own helpers on ends.
-/
import Derived.Test.YtaoeomoepefojaaGreatKz3
import Derived.Test.YtaoeomoepefojaaGreatMkz
import Derived.Test.YtaoeomoepefojaaGreatHelSz
set_option linter.all false
namespace Go.Proofs.YtaoeomoepefojaaGreat
open Go Go.Ab
set_option maxHeartbeats 1000000
set_option maxRecDepth 100000

def szI (l : Nat) (n : Int) : Int := if n - (l : Int) < 0 then -1 else n - l

@[simp] theorem toHelloKey_p (a : HelloKey) : laws_toHelloKey_m a = some a := rfl
theorem eqHelloKey_p (a b : HelloKey) : laws_eqHelloKey_m a b = some (decide (a = b)) := by
  unfold laws_eqHelloKey_m
  cases a; cases b
  simp only [bne_iff_ne, ne_eq, HelloKey.mk.injEq, bd_val]
  repeat' split
  all_goals simp_all


theorem toHelloKeyS_p {xs : List HelloKey} (h : xs.length ≤ 1048576) : laws_toHelloKeyS_m xs = some xs := by
  unfold laws_toHelloKeyS_m
  rw [gd_pos (by omega), lp_copy (fun i ys hi hy => ?_) (fun ys hy => by rw [if_neg (by simp)])]
  · rfl
  · dsimp only
    rw [if_pos (by simp; omega), gd_pos (by omega), toHelloKey_p, bd_val, gd_pos (by omega), wrap_succ hi (by omega), Int.toNat_natCast]
theorem eqHelloKeyS_p {xs ys : List HelloKey} (h : xs.length ≤ 1048576) : laws_eqHelloKeyS_m xs ys = some (decide (xs = ys)) := by
  unfold laws_eqHelloKeyS_m
  by_cases hl : xs.length = ys.length
  · rw [if_neg (by simp; omega), lp_all xs.length (fun i => decide (xs.getD i default = ys.getD i default)) (.inl ()) (.inr ()) (fun i hi _ => ?_) (fun _ => by rw [if_neg (by simp)]), list_eq hl]
    · cases decide (xs = ys) <;> rfl
    · rw [if_pos (by simp; omega), gd_pos (by omega), gd_pos (by omega), eqHelloKey_p, bd_val, Int.toNat_natCast, wrap_succ hi (by omega)]
      cases decide (xs.getD i default = ys.getD i default) <;> rfl
  · rw [if_pos (by simp; omega)]
    have : xs ≠ ys := fun e => hl (by rw [e])
    simp [this]
theorem szHelloKeyS_p {xs : List HelloKey} {n : Int} (h : xs.length ≤ 9223372036854775807) (h0 : 0 ≤ n) (h1 : n ≤ 1048576) : laws_szHelloKeyS_m xs n = some (szI xs.length n) := by
  unfold laws_szHelloKeyS_m szI
  rw [wrap_i64 (by omega) (by omega)]
  by_cases hh : n - (xs.length : Int) < 0
  · rw [if_pos (by simpa using hh), if_pos hh]
  · rw [if_neg (by simpa using hh), if_neg hh]


@[simp] theorem toHelloEntry_p (a : HelloEntry) : laws_toHelloEntry_m a = some a := rfl
theorem eqHelloEntry_p (a b : HelloEntry) : laws_eqHelloEntry_m a b = some (decide (a = b)) := by
  unfold laws_eqHelloEntry_m
  cases a; cases b
  simp only [bne_iff_ne, ne_eq, HelloEntry.mk.injEq, bd_val]
  repeat' split
  all_goals simp_all


theorem toHelloEntryS_p {xs : List HelloEntry} (h : xs.length ≤ 1048576) : laws_toHelloEntryS_m xs = some xs := by
  unfold laws_toHelloEntryS_m
  rw [gd_pos (by omega), lp_copy (fun i ys hi hy => ?_) (fun ys hy => by rw [if_neg (by simp)])]
  · rfl
  · dsimp only
    rw [if_pos (by simp; omega), gd_pos (by omega), toHelloEntry_p, bd_val, gd_pos (by omega), wrap_succ hi (by omega), Int.toNat_natCast]
theorem eqHelloEntryS_p {xs ys : List HelloEntry} (h : xs.length ≤ 1048576) : laws_eqHelloEntryS_m xs ys = some (decide (xs = ys)) := by
  unfold laws_eqHelloEntryS_m
  by_cases hl : xs.length = ys.length
  · rw [if_neg (by simp; omega), lp_all xs.length (fun i => decide (xs.getD i default = ys.getD i default)) (.inl ()) (.inr ()) (fun i hi _ => ?_) (fun _ => by rw [if_neg (by simp)]), list_eq hl]
    · cases decide (xs = ys) <;> rfl
    · rw [if_pos (by simp; omega), gd_pos (by omega), gd_pos (by omega), eqHelloEntry_p, bd_val, Int.toNat_natCast, wrap_succ hi (by omega)]
      cases decide (xs.getD i default = ys.getD i default) <;> rfl
  · rw [if_pos (by simp; omega)]
    have : xs ≠ ys := fun e => hl (by rw [e])
    simp [this]
theorem szHelloEntryS_p {xs : List HelloEntry} {n : Int} (h : xs.length ≤ 9223372036854775807) (h0 : 0 ≤ n) (h1 : n ≤ 1048576) : laws_szHelloEntryS_m xs n = some (szI xs.length n) := by
  unfold laws_szHelloEntryS_m szI
  rw [wrap_i64 (by omega) (by omega)]
  by_cases hh : n - (xs.length : Int) < 0
  · rw [if_pos (by simpa using hh), if_pos hh]
  · rw [if_neg (by simpa using hh), if_neg hh]


@[simp] theorem toHelloChange_p (a : HelloChange) : laws_toHelloChange_m a = some a := rfl
theorem eqHelloChange_p (a b : HelloChange) : laws_eqHelloChange_m a b = some (decide (a = b)) := by
  unfold laws_eqHelloChange_m
  cases a; cases b
  simp only [bne_iff_ne, ne_eq, HelloChange.mk.injEq, eqHelloEntry_p, bd_val]
  repeat' split
  all_goals simp_all


@[simp] theorem toHelloRoute_p (a : HelloRoute) : laws_toHelloRoute_m a = some a := rfl
theorem eqHelloRoute_p (a b : HelloRoute) : laws_eqHelloRoute_m a b = some (decide (a = b)) := by
  unfold laws_eqHelloRoute_m
  cases a; cases b
  simp only [bne_iff_ne, ne_eq, HelloRoute.mk.injEq, eqHelloEntry_p, bd_val]
  repeat' split
  all_goals simp_all


theorem toHelloRouteS_p {xs : List HelloRoute} (h : xs.length ≤ 1048576) : laws_toHelloRouteS_m xs = some xs := by
  unfold laws_toHelloRouteS_m
  rw [gd_pos (by omega), lp_copy (fun i ys hi hy => ?_) (fun ys hy => by rw [if_neg (by simp)])]
  · rfl
  · dsimp only
    rw [if_pos (by simp; omega), gd_pos (by omega), toHelloRoute_p, bd_val, gd_pos (by omega), wrap_succ hi (by omega), Int.toNat_natCast]
theorem eqHelloRouteS_p {xs ys : List HelloRoute} (h : xs.length ≤ 1048576) : laws_eqHelloRouteS_m xs ys = some (decide (xs = ys)) := by
  unfold laws_eqHelloRouteS_m
  by_cases hl : xs.length = ys.length
  · rw [if_neg (by simp; omega), lp_all xs.length (fun i => decide (xs.getD i default = ys.getD i default)) (.inl ()) (.inr ()) (fun i hi _ => ?_) (fun _ => by rw [if_neg (by simp)]), list_eq hl]
    · cases decide (xs = ys) <;> rfl
    · rw [if_pos (by simp; omega), gd_pos (by omega), gd_pos (by omega), eqHelloRoute_p, bd_val, Int.toNat_natCast, wrap_succ hi (by omega)]
      cases decide (xs.getD i default = ys.getD i default) <;> rfl
  · rw [if_pos (by simp; omega)]
    have : xs ≠ ys := fun e => hl (by rw [e])
    simp [this]
theorem szHelloRouteS_p {xs : List HelloRoute} {n : Int} (h : xs.length ≤ 9223372036854775807) (h0 : 0 ≤ n) (h1 : n ≤ 1048576) : laws_szHelloRouteS_m xs n = some (szI xs.length n) := by
  unfold laws_szHelloRouteS_m szI
  rw [wrap_i64 (by omega) (by omega)]
  by_cases hh : n - (xs.length : Int) < 0
  · rw [if_pos (by simpa using hh), if_pos hh]
  · rw [if_neg (by simpa using hh), if_neg hh]


def mkHelloKey (n : Int) : HelloKey := ⟨n, (n + 1)⟩
theorem markHelloKeyS_p {xs : List HelloKey} {a : Int} (h0 : 0 ≤ a) (h1 : a + 2 * (xs.length : Int) ≤ 1152921504606846976) : laws_markHelloKeyS_m xs a = some (a + 2 * (xs.length : Int), mkL mkHelloKey 2 a xs.length) := by
  unfold laws_markHelloKeyS_m
  rw [mark_p mkHelloKey 2 (fun i ys n hi hy hn => ?_) (fun ys n hy => by rw [← hy, if_neg (by simp)]), bd_val, gd_pos rfl]
  have hg : ∀ v : HelloKey, (ys.set i v).getD i default = v := fun v => getD_set (by omega)
  have hi' : (0 : Int) ≤ (i : Int) ∧ (i : Int) < ((ys.length : Nat) : Int) := by omega
  have h3 : (3 : Int) ≠ 0 := by decide
  have hlt : decide ((i : Int) < ((ys.length : Nat) : Int)) = true := by simp; omega
  have hin : (i : Int) < (xs.length : Int) := by omega
  simp only [hlt, if_true, gd_pos hi', gd_pos h3, Int.toNat_natCast, bd_val, List.set_set, hg]
  simp (disch := omega) only [wrap_i64, mkHelloKey]
  refine congrArg some (congrArg Sum.inl (Prod.ext rfl (Prod.ext ?_ ?_))) <;> dsimp only <;> omega
theorem heldHelloKeyS_p {m : Nat} {a : Int} (h0 : 0 ≤ a) (h1 : a + 2 * (m : Int) ≤ 1152921504606846976) : laws_heldHelloKeyS_m (mkL mkHelloKey 2 a m) a = some (a + 2 * (m : Int)) := by
  unfold laws_heldHelloKeyS_m
  have hl : (mkL mkHelloKey 2 a m).length = m := mkL_len
  rw [hl, held_p 2 m (fun i n hi hn => ?_) (fun n => by rw [if_neg (by simp)]), bd_val]
  have hg : (mkL mkHelloKey 2 a m).getD i default = mkHelloKey n := by rw [hn]; exact mkL_get hi
  have hi' : (0 : Int) ≤ (i : Int) ∧ (i : Int) < (m : Int) := by omega
  have h3 : (3 : Int) ≠ 0 := by decide
  have hlt : decide ((i : Int) < (m : Int)) = true := by simp; omega
  simp only [hlt, if_true, gd_pos hi', gd_pos h3, Int.toNat_natCast, hg, mkHelloKey]
  simp (disch := omega) only [wrap_i64, bne_self_eq_false, beq_self_eq_true, Bool.not_true, Bool.false_eq_true, if_false]
  refine congrArg some (congrArg Sum.inl (Prod.ext ?_ ?_)) <;> dsimp only <;> omega


def mkHelloEntry (n : Int) : HelloEntry := ⟨n, (n + 1), (n + 1 + 1), (n + 1 + 1 + 1)⟩
theorem markHelloEntryS_p {xs : List HelloEntry} {a : Int} (h0 : 0 ≤ a) (h1 : a + 4 * (xs.length : Int) ≤ 1152921504606846976) : laws_markHelloEntryS_m xs a = some (a + 4 * (xs.length : Int), mkL mkHelloEntry 4 a xs.length) := by
  unfold laws_markHelloEntryS_m
  rw [mark_p mkHelloEntry 4 (fun i ys n hi hy hn => ?_) (fun ys n hy => by rw [← hy, if_neg (by simp)]), bd_val, gd_pos rfl]
  have hg : ∀ v : HelloEntry, (ys.set i v).getD i default = v := fun v => getD_set (by omega)
  have hi' : (0 : Int) ≤ (i : Int) ∧ (i : Int) < ((ys.length : Nat) : Int) := by omega
  have h3 : (3 : Int) ≠ 0 := by decide
  have hlt : decide ((i : Int) < ((ys.length : Nat) : Int)) = true := by simp; omega
  have hin : (i : Int) < (xs.length : Int) := by omega
  simp only [hlt, if_true, gd_pos hi', gd_pos h3, Int.toNat_natCast, bd_val, List.set_set, hg]
  simp (disch := omega) only [wrap_i64, mkHelloEntry]
  refine congrArg some (congrArg Sum.inl (Prod.ext rfl (Prod.ext ?_ ?_))) <;> dsimp only <;> omega
theorem heldHelloEntryS_p {m : Nat} {a : Int} (h0 : 0 ≤ a) (h1 : a + 4 * (m : Int) ≤ 1152921504606846976) : laws_heldHelloEntryS_m (mkL mkHelloEntry 4 a m) a = some (a + 4 * (m : Int)) := by
  unfold laws_heldHelloEntryS_m
  have hl : (mkL mkHelloEntry 4 a m).length = m := mkL_len
  rw [hl, held_p 4 m (fun i n hi hn => ?_) (fun n => by rw [if_neg (by simp)]), bd_val]
  have hg : (mkL mkHelloEntry 4 a m).getD i default = mkHelloEntry n := by rw [hn]; exact mkL_get hi
  have hi' : (0 : Int) ≤ (i : Int) ∧ (i : Int) < (m : Int) := by omega
  have h3 : (3 : Int) ≠ 0 := by decide
  have hlt : decide ((i : Int) < (m : Int)) = true := by simp; omega
  simp only [hlt, if_true, gd_pos hi', gd_pos h3, Int.toNat_natCast, hg, mkHelloEntry]
  simp (disch := omega) only [wrap_i64, bne_self_eq_false, beq_self_eq_true, Bool.not_true, Bool.false_eq_true, if_false]
  refine congrArg some (congrArg Sum.inl (Prod.ext ?_ ?_)) <;> dsimp only <;> omega


def mkHelloRoute (n : Int) : HelloRoute := ⟨⟨n, (n + 1), (n + 1 + 1), (n + 1 + 1 + 1)⟩, (n + 1 + 1 + 1 + 1).tmod 3 == 0⟩
theorem markHelloRouteS_p {xs : List HelloRoute} {a : Int} (h0 : 0 ≤ a) (h1 : a + 5 * (xs.length : Int) ≤ 1152921504606846976) : laws_markHelloRouteS_m xs a = some (a + 5 * (xs.length : Int), mkL mkHelloRoute 5 a xs.length) := by
  unfold laws_markHelloRouteS_m
  rw [mark_p mkHelloRoute 5 (fun i ys n hi hy hn => ?_) (fun ys n hy => by rw [← hy, if_neg (by simp)]), bd_val, gd_pos rfl]
  have hg : ∀ v : HelloRoute, (ys.set i v).getD i default = v := fun v => getD_set (by omega)
  have hi' : (0 : Int) ≤ (i : Int) ∧ (i : Int) < ((ys.length : Nat) : Int) := by omega
  have h3 : (3 : Int) ≠ 0 := by decide
  have hlt : decide ((i : Int) < ((ys.length : Nat) : Int)) = true := by simp; omega
  have hin : (i : Int) < (xs.length : Int) := by omega
  simp only [hlt, if_true, gd_pos hi', gd_pos h3, Int.toNat_natCast, bd_val, List.set_set, hg]
  simp (disch := omega) only [wrap_i64, mkHelloRoute]
  refine congrArg some (congrArg Sum.inl (Prod.ext rfl (Prod.ext ?_ ?_))) <;> dsimp only <;> omega
theorem heldHelloRouteS_p {m : Nat} {a : Int} (h0 : 0 ≤ a) (h1 : a + 5 * (m : Int) ≤ 1152921504606846976) : laws_heldHelloRouteS_m (mkL mkHelloRoute 5 a m) a = some (a + 5 * (m : Int)) := by
  unfold laws_heldHelloRouteS_m
  have hl : (mkL mkHelloRoute 5 a m).length = m := mkL_len
  rw [hl, held_p 5 m (fun i n hi hn => ?_) (fun n => by rw [if_neg (by simp)]), bd_val]
  have hg : (mkL mkHelloRoute 5 a m).getD i default = mkHelloRoute n := by rw [hn]; exact mkL_get hi
  have hi' : (0 : Int) ≤ (i : Int) ∧ (i : Int) < (m : Int) := by omega
  have h3 : (3 : Int) ≠ 0 := by decide
  have hlt : decide ((i : Int) < (m : Int)) = true := by simp; omega
  simp only [hlt, if_true, gd_pos hi', gd_pos h3, Int.toNat_natCast, hg, mkHelloRoute]
  simp (disch := omega) only [wrap_i64, bne_self_eq_false, beq_self_eq_true, Bool.not_true, Bool.false_eq_true, if_false]
  refine congrArg some (congrArg Sum.inl (Prod.ext ?_ ?_)) <;> dsimp only <;> omega

structure Lens (e : HelloEnd) (n : Nat) : Prop where
  k : e.Keys.length ≤ n
  w : e.Want.length ≤ n
  t : e.Told.length ≤ n
  h : e.Heard.length ≤ n
theorem szHelloEnd_p {e : HelloEnd} (h : Lens e 9223372036854775807) : ∃ x, laws_szHelloEnd_m e 1048576 = some x ∧ (¬ x < 0 → (e.Keys.length : Int) + e.Want.length + e.Told.length + e.Heard.length ≤ 1048576) := by
  have h1 := h.k
  have h2 := h.w
  have h3 := h.t
  have h4 := h.h
  unfold laws_szHelloEnd_m
  rw [szHelloKeyS_p h1 (by omega) (by omega), bd_val]
  unfold szI
  by_cases c1 : (1048576 : Int) - (e.Keys.length : Int) < 0
  · exact ⟨-1, by rw [if_pos c1, if_pos (by decide)], fun q => absurd (by decide) q⟩
  · rw [if_neg c1, if_neg (by simpa using c1), szHelloEntryS_p h2 (by omega) (by omega), bd_val]
    unfold szI
    by_cases c2 : (1048576 : Int) - (e.Keys.length : Int) - (e.Want.length : Int) < 0
    · exact ⟨-1, by rw [if_pos c2, if_pos (by decide)], fun q => absurd (by decide) q⟩
    · rw [if_neg c2, if_neg (by simpa using c2), szHelloEntryS_p h3 (by omega) (by omega), bd_val]
      unfold szI
      by_cases c3 : (1048576 : Int) - (e.Keys.length : Int) - (e.Want.length : Int) - (e.Told.length : Int) < 0
      · exact ⟨-1, by rw [if_pos c3, if_pos (by decide)], fun q => absurd (by decide) q⟩
      · rw [if_neg c3, if_neg (by simpa using c3), szHelloRouteS_p h4 (by omega) (by omega), bd_val]
        unfold szI
        by_cases c4 : (1048576 : Int) - (e.Keys.length : Int) - (e.Want.length : Int) - (e.Told.length : Int) - (e.Heard.length : Int) < 0
        · exact ⟨-1, by rw [if_pos c4, if_pos (by decide)], fun q => absurd (by decide) q⟩
        · exact ⟨_, by rw [if_neg c4, if_neg (by simpa using c4)], fun _ => by omega⟩
theorem toHelloEnd_p {e : HelloEnd} (h : Lens e 1048576) : laws_toHelloEnd_m e = some e := by
  unfold laws_toHelloEnd_m
  rw [toHelloKeyS_p h.k, bd_val, toHelloEntryS_p h.w, bd_val, toHelloChange_p, bd_val, toHelloEntryS_p h.t, bd_val, toHelloRouteS_p h.h, bd_val]
theorem eqI {a b : Int} {m : Option Bool} {p : Prop} [Decidable p] (h : m = some (decide p)) : (if (a != b) = true then some false else m) = some (decide (a = b ∧ p)) := by
  by_cases c : a = b
  · rw [if_neg (by simp [c]), h]; congr 1; exact decide_eq_decide.2 ⟨fun q => ⟨c, q⟩, fun q => q.2⟩
  · rw [if_pos (by simp [c]), decide_eq_false fun q => c q.1]
theorem eqB {c : Bool} {q : Prop} [Decidable q] {m : Option Bool} {p : Prop} [Decidable p] (hc : c = decide q) (h : m = some (decide p)) : (if (!c) = true then some false else m) = some (decide (q ∧ p)) := by
  subst hc
  by_cases k : q
  · rw [if_neg (by simp [k]), h]; congr 1; exact decide_eq_decide.2 ⟨fun x => ⟨k, x⟩, fun x => x.2⟩
  · rw [if_pos (by simp [k]), decide_eq_false fun x => k x.1]
theorem eqHelloEnd_p {a b : HelloEnd} (h : Lens a 1048576) : laws_eqHelloEnd_m a b = some (decide (a = b)) := by
  unfold laws_eqHelloEnd_m
  rw [eqHelloKeyS_p h.k, eqHelloEntryS_p h.w, eqHelloEntryS_p h.t, eqHelloRouteS_p h.h, eqHelloChange_p]
  simp only [bd_val]
  refine Eq.trans (eqI (eqI (eqB rfl (eqI (eqB rfl (eqI (eqI (eqI (eqB rfl (eqI (eqI (eqB rfl (eqB rfl (eqB rfl (eqI (eqB rfl (eqB rfl (eqI (p := True) rfl)))))))))))))))))) ?_
  cases a; cases b
  congr 1
  exact decide_eq_decide.2 (by simp only [HelloEnd.mk.injEq, decide_true, and_true, eq_self_iff_true])
def HelloEnd.marks (e : HelloEnd) : Int := 1 + 2 * (e.Keys.length : Int) + 4 * (e.Want.length : Int) + 4 * (e.Told.length : Int) + 5 * (e.Heard.length : Int)
def HelloEnd.marked (e : HelloEnd) : HelloEnd := { e with Keys := mkL mkHelloKey 2 1 e.Keys.length, Want := mkL mkHelloEntry 4 (1 + 2 * (e.Keys.length : Int)) e.Want.length, Told := mkL mkHelloEntry 4 (1 + 2 * (e.Keys.length : Int) + 4 * (e.Want.length : Int)) e.Told.length, Heard := mkL mkHelloRoute 5 (1 + 2 * (e.Keys.length : Int) + 4 * (e.Want.length : Int) + 4 * (e.Told.length : Int)) e.Heard.length }
theorem markHelloEnd_p {e : HelloEnd} (h : Lens e 1048576) : laws_markHelloEnd_m e 1 = some (e.marks, e.marked) := by
  have h1 := h.k
  have h2 := h.w
  have h3 := h.t
  have h4 := h.h
  unfold laws_markHelloEnd_m
  rw [markHelloKeyS_p (by omega) (by omega), bd_val, gd_pos mkL_len, markHelloEntryS_p (by omega) (by omega), bd_val, gd_pos mkL_len, markHelloEntryS_p (by omega) (by omega), bd_val, gd_pos mkL_len, markHelloRouteS_p (by omega) (by omega), bd_val, gd_pos mkL_len]
  rfl
theorem heldHelloEnd_p {e c : HelloEnd} (h : Lens e 1048576) : laws_heldHelloEnd_m { c with Keys := e.marked.Keys, Want := e.marked.Want, Told := e.marked.Told, Heard := e.marked.Heard } 1 = some e.marks := by
  have h1 := h.k
  have h2 := h.w
  have h3 := h.t
  have h4 := h.h
  unfold laws_heldHelloEnd_m HelloEnd.marked
  dsimp only
  rw [heldHelloKeyS_p (by omega) (by omega), bd_val, if_neg (by simp; omega), heldHelloEntryS_p (by omega) (by omega), bd_val, if_neg (by simp; omega), heldHelloEntryS_p (by omega) (by omega), bd_val, if_neg (by simp; omega), heldHelloRouteS_p (by omega) (by omega), bd_val, if_neg (by simp; omega)]
  rfl
theorem marked_lens {e : HelloEnd} : e.marked.Keys.length = e.Keys.length ∧ e.marked.Want.length = e.Want.length ∧ e.marked.Told.length = e.Told.length ∧ e.marked.Heard.length = e.Heard.length := ⟨mkL_len, mkL_len, mkL_len, mkL_len⟩
end Go.Proofs.YtaoeomoepefojaaGreat
