/-
  What the functions that ask an access list compute, each function once; no condition.
-/
import Derived.Test.YtafklggkpofgmaaAclBase
namespace Go.Proofs.Ytafklggkpofgmaa
open Go Go.Ab
set_option maxRecDepth 100000

theorem szAclRuleS_c (xs : List AclRule) (left : Int) (h : xs.length ≤ 9223372036854775807) (hl : 0 ≤ left) (hl2 : left ≤ 1048576) : PureC Try.prog 14 [.d (slD AclRule.enc xs), i64 left] (i64 (if (xs.length : Int) ≤ left then left - xs.length else -1)) [] := by
  refine pureC_of tOk (fn := Try.f14) (c := codeOf Try.f14) rfl rfl (by kernel_rfl) rfl rfl (by simp) (by simp) (by simp [V.mentions]) ?_
  conv => whnf
  rw [wrap_i64 (by omega) (by omega)]
  refine And.intro ?_ ?_ <;> intro h1 <;> simp only [decide_eq_true_eq, decide_eq_false_iff_not] at h1 <;> conv => whnf
  · refine ⟨?_, trivial⟩
    rw [if_neg (by omega)]
  · refine ⟨?_, trivial⟩
    rw [if_pos (by omega)]

theorem toAclRuleS_c (xs : List AclRule) (h : xs.length ≤ 1048576) : PureC Try.prog 16 [.d (slD AclRule.enc xs)] (.osl 7 0 xs.length) [⟨7, 48, 6, xs.length, rows AclRule.enc xs⟩] := by
  refine pureC_of tOk (fn := Try.f16) (c := codeOf Try.f16) rfl rfl (by kernel_rfl) rfl rfl (by simp [atomD]) (by simp) (by simp [V.mentions]) ?_
  conv => whnf
  refine ⟨by omega, ?_⟩
  conv => whnf
  refine loop_rule tOk (ι := Nat) (fun i => ⟨0, 23, [(4, i64 i), (3, .osl 7 0 xs.length), (0, .d (slD AclRule.enc xs))], [], [(7, .arr 48 6 xs.length fun k => if k < i then rows AclRule.enc xs k else [.bool false, .int .i64 0, .int .i64 0, .int .i64 0, .int .i64 0, .int .i64 0])], []⟩)
    (fun i => i ≤ xs.length) (fun i => xs.length - i) 0 ?_ (Nat.zero_le _) ?_
  · refine le_mk ?_ ?_ ?_
    · repeat' (first | exact trivial | refine And.intro ?_ ?_ | exact VLe.refl _ | refine VLe.of ?_)
      all_goals simp
    · repeat' (first | exact trivial | refine And.intro ?_ ?_ | exact BLe.refl _ | refine BLe.rows ?_ ?_ ?_)
      all_goals simp
    · trivial
  · intro i hi
    conv => whnf
    refine And.intro ?_ ?_ <;> intro h1 <;> simp only [decide_eq_true_eq, decide_eq_false_iff_not] at h1 <;> conv => whnf
    · refine And.intro ⟨by omega, by omega⟩ ?_
      conv => whnf
      refine callC 0 (toAclRule_c (xs.getD i default)) rfl rfl ?_
      conv => whnf
      refine And.intro ⟨by omega, by omega⟩ ?_
      conv => whnf
      refine ⟨i + 1, le_mk ?_ ?_ ?_, by omega, by omega⟩
      · repeat' (first | exact trivial | refine And.intro ?_ ?_ | refine VLe.int ?_ | exact VLe.refl _)
        all_goals first | rfl | (rw [wrap_i64 (by omega) (by omega)]; simp)
      · repeat' (first | exact trivial | refine And.intro ?_ ?_ | refine BLe.rows rfl rfl ?_)
        intro k hk
        by_cases e : k = i
        · subst e; simp [setAt]
        · have : (k < i + 1) = (k < i) := by simp; omega
          simp [e, this]
      · trivial
    · refine ⟨rfl, ⟨rfl, rfl, fun k hk => ?_⟩, trivial⟩
      exact if_pos (show k < i by dsimp only at hk; omega)

theorem eqAclRuleS_c (xs ys : List AclRule) (h : xs.length ≤ 1048576) (he : ys = xs) : PureC Try.prog 19 [.d (slD AclRule.enc xs), .d (slD AclRule.enc ys)] (bl true) [] := by
  subst he
  refine pureC_of tOk (fn := Try.f19) (c := codeOf Try.f19) rfl rfl (by kernel_rfl) rfl rfl (by simp) (by simp) (by simp [V.mentions]) ?_
  conv => whnf
  refine And.intro ?_ ?_ <;> intro h1 <;> conv => whnf
  · simp at h1
  refine loop_rule tOk (ι := Nat) (fun i => ⟨0, 27, [(5, i64 i), (0, .d (slD AclRule.enc ys)), (1, .d (slD AclRule.enc ys))], [], [], []⟩)
    (fun i => i ≤ ys.length) (fun i => ys.length - i) 0 ?_ (Nat.zero_le _) ?_
  · refine le_mk ?_ ?_ ?_
    · repeat' (first | exact trivial | refine And.intro ?_ ?_ | refine VLe.int ?_ | exact VLe.refl _)
      all_goals simp
    · trivial
    · trivial
  intro i hi
  conv => whnf
  refine And.intro ?_ ?_ <;> intro h2 <;> simp only [decide_eq_true_eq, decide_eq_false_iff_not] at h2 <;> conv => whnf
  · refine draw_rule tOk (by kernel_rfl) (fun _ => some (0, bl (eqAclRule (ys.getD i default) (ys.getD i default)), [])) 10 (by decide) ?_
    conv => whnf
    refine And.intro ⟨by omega, by omega⟩ ?_
    conv => whnf
    refine And.intro ⟨by omega, by omega⟩ ?_
    conv => whnf
    refine And.intro (callD_any (eqAclRule_c (ys.getD i default) (ys.getD i default)) rfl) ?_
    conv => whnf
    have e0 : ∀ x, eqAclRule x x = true := fun x => by simp [eqAclRule, eqNetPrefix]
    have e : (!eqAclRule (ys.getD i default) (ys.getD i default)) = false := by rw [e0]; rfl
    refine And.intro (fun h3 => ?_) (fun _ => ?_)
    · rw [e] at h3; cases h3
    conv => whnf
    refine ⟨i + 1, le_mk ?_ ?_ ?_, by omega, by omega⟩
    · repeat' (first | exact trivial | refine And.intro ?_ ?_ | refine VLe.int ?_ | exact VLe.refl _)
      all_goals first | rfl | (rw [wrap_i64 (by omega) (by omega)]; simp)
    · trivial
    · trivial
  · exact ⟨rfl, trivial⟩

def aclOk (xs : List AclRule) : Bool := decide (xs.length ≤ 12) && xs.all ruleOk

theorem specAclOk_c (xs : List AclRule) (h : xs.length ≤ 9223372036854775807) : PureC Try.prog 38 [.d (slD AclRule.enc xs)] (bl (aclOk xs)) [] := by
  refine pureC_of tOk (fn := Try.f38) (c := codeOf Try.f38) rfl rfl (by kernel_rfl) rfl rfl (by simp) (by simp) (by simp [V.mentions]) ?_
  conv => whnf
  refine And.intro ?_ ?_ <;> intro h1 <;> simp only [decide_eq_true_eq, decide_eq_false_iff_not] at h1 <;> conv => whnf
  · refine ⟨?_, trivial⟩
    have e : decide (xs.length ≤ 12) = false := decide_eq_false (by omega)
    simp [aclOk, e]
  refine loop_rule tOk (ι := Nat) (fun i => ⟨0, 38, [(3, i64 i), (0, .d (slD AclRule.enc xs))], [], [], []⟩)
    (fun i => i ≤ xs.length ∧ (xs.take i).all ruleOk = true) (fun i => xs.length - i) 0 ?_ ⟨Nat.zero_le _, by simp⟩ ?_
  · refine le_mk ?_ ?_ ?_
    · repeat' (first | exact trivial | refine And.intro ?_ ?_ | refine VLe.int ?_ | exact VLe.refl _)
      all_goals simp
    · trivial
    · trivial
  rintro i ⟨hi, hall⟩
  conv => whnf
  refine And.intro ?_ ?_ <;> intro h2 <;> simp only [decide_eq_true_eq, decide_eq_false_iff_not] at h2 <;> conv => whnf
  · refine And.intro ⟨by omega, by omega⟩ ?_
    conv => whnf
    refine callC 0 (specNetOk_c (xs.getD i default).From) rfl rfl ?_
    conv => whnf
    refine And.intro (condP_of ⟨by omega, by omega⟩) ?_
    conv => whnf
    refine callG_any (specNetOk_c (xs.getD i default).To) rfl ?_
    conv => whnf
    refine And.intro (condP_of ⟨by omega, by omega⟩) ?_
    conv => whnf
    refine callG_any (l1In_c _ _ _) rfl ?_
    conv => whnf
    refine And.intro ?_ ?_ <;> intro h3 <;> conv => whnf
    · refine ⟨?_, trivial⟩
      have e : ruleOk (xs.getD i default) = false := by
        simp at h3
        simp [ruleOk]
        grind
      simp [aclOk, all_false_of (show i < xs.length by omega) e]
    · have e : ruleOk (xs.getD i default) = true := by
        simp at h3
        simp [ruleOk, h3]
      refine ⟨i + 1, le_mk ?_ ?_ ?_, ⟨by omega, by rw [all_take_succ (by omega), hall, e]; rfl⟩, by omega⟩
      · repeat' (first | exact trivial | refine And.intro ?_ ?_ | refine VLe.int ?_ | exact VLe.refl _)
        all_goals first | rfl | (rw [wrap_i64 (by omega) (by omega)]; simp)
      · trivial
      · trivial
  · refine ⟨?_, trivial⟩
    rw [List.take_of_length_le (by omega)] at hall
    have e : decide (xs.length ≤ 12) = true := decide_eq_true (by omega)
    simp [aclOk, hall, e]

theorem implAclOk_c (xs : List AclRule) (h : xs.length ≤ 9223372036854775807) : PureC Try.prog 42 [.d (slD AclRule.enc xs)] (bl (aclOk xs)) [] := by
  refine pureC_of tOk (fn := Try.f42) (c := codeOf Try.f42) rfl rfl (by kernel_rfl) rfl rfl (by simp) (by simp) (by simp [V.mentions]) ?_
  conv => whnf
  refine loop_rule tOk (ι := Nat) (fun i => ⟨0, 31, [(7, i64 i), (6, i64 xs.length), (5, .d (slD AclRule.enc xs)), (0, .d (slD AclRule.enc xs))], [], [], []⟩)
    (fun i => i ≤ xs.length ∧ (xs.take i).all ruleOk = true) (fun i => xs.length - i) 0 ?_ ⟨Nat.zero_le _, by simp⟩ ?_
  · refine le_mk ?_ ?_ ?_
    · repeat' (first | exact trivial | refine And.intro ?_ ?_ | refine VLe.int ?_ | exact VLe.refl _)
      all_goals simp
    · trivial
    · trivial
  rintro i ⟨hi, hall⟩
  conv => whnf
  refine And.intro ?_ ?_ <;> intro h2 <;> simp only [decide_eq_true_eq, decide_eq_false_iff_not] at h2 <;> conv => whnf
  · refine And.intro ⟨by omega, by omega⟩ ?_
    conv => whnf
    refine callC 0 (implNetOk_c (xs.getD i default).From) rfl rfl ?_
    conv => whnf
    refine callG_any (implNetOk_c (xs.getD i default).To) rfl ?_
    conv => whnf
    refine callG_any (within_c _ _ _) rfl ?_
    conv => whnf
    refine And.intro ?_ ?_ <;> intro h3 <;> conv => whnf
    · refine ⟨?_, trivial⟩
      have e : ruleOk (xs.getD i default) = false := by
        simp at h3
        simp [ruleOk]
        grind
      simp [aclOk, all_false_of (show i < xs.length by omega) e]
    · have e : ruleOk (xs.getD i default) = true := by
        simp at h3
        simp [ruleOk, h3]
      refine ⟨i + 1, le_mk ?_ ?_ ?_, ⟨by omega, by rw [all_take_succ (by omega), hall, e]; rfl⟩, by omega⟩
      · repeat' (first | exact trivial | refine And.intro ?_ ?_ | refine VLe.int ?_ | exact VLe.refl _)
        all_goals first | rfl | (rw [wrap_i64 (by omega) (by omega)]; simp)
      · trivial
      · trivial
  · refine ⟨?_, trivial⟩
    rw [List.take_of_length_le (by omega)] at hall
    have e : decide ((xs.length : Int) ≤ 12) = decide (xs.length ≤ 12) := decide_eq_decide.2 (by omega)
    simp [aclOk, hall, e]

/-- A packet is ok. -/
def packetOk (p : AclPacket) : Bool := decide (0 ≤ p.From) && decide (p.From ≤ 65535) && decide (0 ≤ p.To) && decide (p.To ≤ 65535) && decide (1 ≤ p.Kind) && decide (p.Kind ≤ 7)

theorem packetOk_c (p : AclPacket) : PureC Try.prog 39 [p.v] (bl (packetOk p)) [] := by
  refine pureC_of tOk (fn := Try.f39) (c := codeOf Try.f39) rfl rfl (by kernel_rfl) rfl rfl (by simp) (by simp) (by simp [V.mentions]) ?_
  conv => whnf
  refine callC 0 (l1In_c _ _ _) rfl rfl ?_
  conv => whnf
  refine callG_any (l1In_c _ _ _) rfl ?_
  conv => whnf
  refine callG_any (l1In_c _ _ _) rfl ?_
  conv => whnf
  refine ⟨?_, trivial⟩
  simp [packetOk, Bool.and_assoc]

/-- The place of the first rule that is about a packet, from a place on; or -1. -/
def decidesFrom (p : AclPacket) : Nat → List AclRule → Int
  | _, [] => -1
  | i, r :: rs => if aclFits r p then (i : Int) else decidesFrom p (i + 1) rs

theorem decidesFrom_hit {p : AclPacket} {xs : List AclRule} {i k : Nat} (hlt : i < xs.length) (h : (xs.take i).all (fun r => !aclFits r p) = true) (hf : aclFits (xs.getD i default) p = true) : decidesFrom p k xs = ((k + i : Nat) : Int) := by
  induction xs generalizing i k with
  | nil => simp at hlt
  | cons r xs ih =>
    cases i with
    | zero =>
      simp at hf
      simp [decidesFrom, hf]
    | succ i =>
      simp at h hlt hf
      have h0 : aclFits r p = false := by simpa using h.1
      simp only [decidesFrom, h0, Bool.false_eq_true, if_false]
      rw [ih (i := i) (k := k + 1) hlt (by simpa using h.2) (by simpa using hf)]
      congr 1; omega

theorem decidesFrom_miss {p : AclPacket} {xs : List AclRule} {k : Nat} (h : xs.all (fun r => !aclFits r p) = true) : decidesFrom p k xs = -1 := by
  induction xs generalizing k with
  | nil => rfl
  | cons r xs ih =>
    simp at h
    have h0 : aclFits r p = false := by simpa using h.1
    simp only [decidesFrom, h0, Bool.false_eq_true, if_false]
    exact ih (by simpa using h.2)

def decides (xs : List AclRule) (p : AclPacket) : Int := decidesFrom p 0 xs
def passes (xs : List AclRule) (p : AclPacket) : Bool := decide (0 ≤ decides xs p) && (xs.getD (decides xs p).toNat default).Permit

theorem ok_at {xs : List AclRule} (h : xs.all ruleOk = true) {i : Nat} (hi : i < xs.length) : ruleOk (xs.getD i default) = true := by
  rw [List.getD_eq_getElem?_getD, List.getElem?_eq_getElem hi]
  exact List.all_eq_true.1 h _ (List.getElem_mem hi)

theorem l4Says_c (xs : List AclRule) (p : AclPacket) (hl : xs.length ≤ 1048576) (ho : xs.all ruleOk = true) : PureC Try.prog 40 [.d (slD AclRule.enc xs), p.v] (.tup [i64 (decides xs p), bl (passes xs p)]) [] := by
  refine pureC_of tOk (fn := Try.f40) (c := codeOf Try.f40) rfl rfl (by kernel_rfl) rfl rfl (by simp) (by simp) (by simp [V.mentions, mentionsL]) ?_
  conv => whnf
  refine loop_rule tOk (ι := Nat) (fun i => ⟨0, 25, [(6, i64 i), (3, .ref 3 0 0), (0, .d (slD AclRule.enc xs))], [], [(3, .box 37 [i64 p.From, i64 p.To, i64 p.Kind])], []⟩)
    (fun i => i ≤ xs.length ∧ (xs.take i).all (fun r => !aclFits r p) = true) (fun i => xs.length - i) 0 ?_ ⟨Nat.zero_le _, by simp⟩ ?_
  · refine le_mk ?_ ?_ ?_
    · repeat' (first | exact trivial | refine And.intro ?_ ?_ | refine VLe.int ?_ | exact VLe.refl _)
      all_goals simp
    · repeat' (first | exact trivial | refine And.intro ?_ ?_ | exact BLe.refl _)
    · trivial
  rintro i ⟨hi, hall⟩
  conv => whnf
  refine And.intro ?_ ?_ <;> intro h2 <;> simp only [decide_eq_true_eq, decide_eq_false_iff_not] at h2 <;> conv => whnf
  · have hlt : i < xs.length := by omega
    refine draw_rule tOk (by kernel_rfl) (fun _ => some (0, bl (aclFits (xs.getD i default) p), [])) 6 (by decide) ?_
    conv => whnf
    refine And.intro ⟨by omega, by omega⟩ ?_
    conv => whnf
    refine And.intro (callD_any (fits_c (xs.getD i default) p (ok_at ho hlt)) rfl) ?_
    conv => whnf
    refine And.intro ?_ ?_ <;> intro h3 <;> conv => whnf
    · refine draw_rule tOk (by kernel_rfl) (fun _ => none) 8 (by decide) ?_
      conv => whnf
      refine And.intro ⟨by omega, by omega⟩ ?_
      conv => whnf
      refine ⟨?_, trivial⟩
      have e : decides xs p = (i : Int) := by
        rw [decides, decidesFrom_hit hlt hall h3]; simp
      simp [passes, e]
    · refine ⟨i + 1, le_mk ?_ ?_ ?_, ⟨by omega, by rw [all_take_succ hlt, hall, h3]; rfl⟩, by omega⟩
      · repeat' (first | exact trivial | refine And.intro ?_ ?_ | refine VLe.int ?_ | exact VLe.refl _)
        all_goals first | rfl | (rw [wrap_i64 (by omega) (by omega)]; simp)
      · repeat' (first | exact trivial | refine And.intro ?_ ?_ | exact BLe.refl _)
      · trivial
  · refine ⟨?_, trivial⟩
    rw [List.take_of_length_le (by omega)] at hall
    have e : decides xs p = -1 := decidesFrom_miss hall
    simp [passes, e]

theorem decidesFn_c (r : AclRule) (p : AclPacket) (h : ruleOk r = true) : PureC Try.prog 82 [r.v, .rp p.enc] (bl (aclFits r p)) [] := by
  refine pureC_of tOk (fn := Try.f82) (c := codeOf Try.f82) rfl rfl (by kernel_rfl) rfl rfl (by simp) (by simp) (by simp [V.mentions]) ?_
  conv => whnf
  refine callC 0 (about_c r p h) rfl rfl ?_
  conv => whnf
  exact ⟨rfl, trivial⟩

theorem indexFunc_c (xs : List AclRule) (p : AclPacket) (hl : xs.length ≤ 1048576) (ho : xs.all ruleOk = true) : PureC Try.prog 81 [.d (slD AclRule.enc xs), .fn 82 [.rp p.enc]] (i64 (decides xs p)) [] := by
  refine pureC_of tOk (fn := Try.f81) (c := codeOf Try.f81) rfl rfl (by kernel_rfl) rfl rfl (by simp) (by simp) (by simp [V.mentions]) ?_
  conv => whnf
  refine loop_rule tOk (ι := Nat) (fun i => ⟨0, 19, [(8, i64 i), (7, i64 xs.length), (0, .d (slD AclRule.enc xs)), (1, .fn 82 [.rp p.enc])], [], [], []⟩)
    (fun i => i ≤ xs.length ∧ (xs.take i).all (fun r => !aclFits r p) = true) (fun i => xs.length - i) 0 ?_ ⟨Nat.zero_le _, by simp⟩ ?_
  · refine le_mk ?_ ?_ ?_
    · repeat' (first | exact trivial | refine And.intro ?_ ?_ | refine VLe.int ?_ | exact VLe.refl _)
      all_goals simp
    · trivial
    · trivial
  rintro i ⟨hi, hall⟩
  conv => whnf
  refine And.intro ?_ ?_ <;> intro h2 <;> simp only [decide_eq_true_eq, decide_eq_false_iff_not] at h2 <;> conv => whnf
  · have hlt : i < xs.length := by omega
    refine And.intro ⟨by omega, by omega⟩ ?_
    conv => whnf
    refine callC 0 (decidesFn_c (xs.getD i default) p (ok_at ho hlt)) rfl rfl ?_
    conv => whnf
    refine And.intro ?_ ?_ <;> intro h3 <;> conv => whnf
    · refine ⟨?_, trivial⟩
      have e : decides xs p = (i : Int) := by
        rw [decides, decidesFrom_hit hlt hall h3]; simp
      rw [e]
    · refine ⟨i + 1, le_mk ?_ ?_ ?_, ⟨by omega, by rw [all_take_succ hlt, hall, h3]; rfl⟩, by omega⟩
      · repeat' (first | exact trivial | refine And.intro ?_ ?_ | refine VLe.int ?_ | exact VLe.refl _)
        all_goals first | rfl | (rw [wrap_i64 (by omega) (by omega)]; simp)
      · trivial
      · trivial
  · refine ⟨?_, trivial⟩
    rw [List.take_of_length_le (by omega)] at hall
    have e : decides xs p = -1 := decidesFrom_miss hall
    rw [e]

theorem decides_c (xs : List AclRule) (p : AclPacket) (hl : xs.length ≤ 1048576) (ho : xs.all ruleOk = true) : PureC Try.prog 43 [.d (slD AclRule.enc xs), p.v] (i64 (decides xs p)) [] := by
  refine pureC_of tOk (fn := Try.f43) (c := codeOf Try.f43) rfl rfl (by kernel_rfl) rfl rfl (by simp) (by simp) (by simp [V.mentions]) ?_
  conv => whnf
  refine callC 0 (indexFunc_c xs p hl ho) rfl rfl ?_
  conv => whnf
  exact ⟨rfl, trivial⟩

theorem decidesFrom_le (p : AclPacket) (xs : List AclRule) (k : Nat) : decidesFrom p k xs = -1 ∨ (k : Int) ≤ decidesFrom p k xs ∧ decidesFrom p k xs < (k + xs.length : Nat) := by
  induction xs generalizing k with
  | nil => left; rfl
  | cons r xs ih =>
    simp only [decidesFrom]
    split
    · right; simp only [List.length_cons]; omega
    · rcases ih (k + 1) with h | h
      · left; exact h
      · right; simp only [List.length_cons] at *; omega

theorem decides_le (xs : List AclRule) (p : AclPacket) : decides xs p = -1 ∨ 0 ≤ decides xs p ∧ decides xs p < xs.length := by
  have := decidesFrom_le p xs 0
  unfold decides
  omega

theorem passes_c (xs : List AclRule) (p : AclPacket) (hl : xs.length ≤ 1048576) (ho : xs.all ruleOk = true) : PureC Try.prog 44 [.d (slD AclRule.enc xs), p.v] (bl (passes xs p)) [] := by
  have hd := decides_le xs p
  refine pureC_of tOk (fn := Try.f44) (c := codeOf Try.f44) rfl rfl (by kernel_rfl) rfl rfl (by simp) (by simp) (by simp [V.mentions]) ?_
  conv => whnf
  refine callC 0 (decides_c xs p hl ho) rfl rfl ?_
  conv => whnf
  refine And.intro ?_ ?_
  · conv => whnf
    intro h
    simp at h
    exact ⟨by omega, by omega⟩
  conv => whnf
  refine ⟨?_, trivial⟩
  simp [passes]

/-- What an access list says of a packet. -/
def aclSays (xs : List AclRule) (p : AclPacket) : Int × Bool := if aclOk xs && packetOk p then (decides xs p, passes xs p) else (-1, false)

theorem aclOk_all {xs : List AclRule} (h : aclOk xs = true) : xs.length ≤ 12 ∧ xs.all ruleOk = true := by
  simp [aclOk] at h; simpa using h

theorem specAclSays_c (xs : List AclRule) (p : AclPacket) (hl : xs.length ≤ 1048576) : PureC Try.prog 15 [.d (slD AclRule.enc xs), p.v] (.tup [i64 (aclSays xs p).1, bl (aclSays xs p).2]) [] := by
  refine pureC_of tOk (fn := Try.f15) (c := codeOf Try.f15) rfl rfl (by kernel_rfl) rfl rfl (by simp) (by simp) (by simp [V.mentions, mentionsL]) ?_
  conv => whnf
  refine callC 0 (specAclOk_c xs (by omega)) rfl rfl ?_
  conv => whnf
  refine callG_any (packetOk_c p) rfl ?_
  conv => whnf
  refine And.intro ?_ ?_ <;> intro h1 <;> conv => whnf
  · refine ⟨?_, trivial⟩
    have e : (aclOk xs && packetOk p) = false := by simp at h1; simp; grind
    simp [aclSays, e]
  have e : (aclOk xs && packetOk p) = true := by simp at h1; simp [h1]
  obtain ⟨e1, e2⟩ := aclOk_all (by simp at e; exact e.1)
  refine callC 0 (l4Says_c xs p hl e2) rfl rfl ?_
  conv => whnf
  refine ⟨?_, trivial⟩
  simp [aclSays, e]

theorem implAclSays_c (xs : List AclRule) (p : AclPacket) (hl : xs.length ≤ 1048576) : PureC Try.prog 18 [.d (slD AclRule.enc xs), p.v] (.tup [i64 (aclSays xs p).1, bl (aclSays xs p).2]) [] := by
  refine pureC_of tOk (fn := Try.f18) (c := codeOf Try.f18) rfl rfl (by kernel_rfl) rfl rfl (by simp) (by simp) (by simp [V.mentions, mentionsL]) ?_
  conv => whnf
  refine callC 0 (implAclOk_c xs (by omega)) rfl rfl ?_
  conv => whnf
  refine callG_any (within_c _ _ _) rfl ?_
  conv => whnf
  refine callG_any (within_c _ _ _) rfl ?_
  conv => whnf
  refine callG_any (within_c _ _ _) rfl ?_
  conv => whnf
  refine And.intro ?_ ?_ <;> intro h1 <;> conv => whnf
  · refine ⟨?_, trivial⟩
    have e : (aclOk xs && packetOk p) = false := by simp at h1; simp [packetOk]; grind
    simp [aclSays, e]
  have e : (aclOk xs && packetOk p) = true := by simp at h1; simp [packetOk]; grind
  obtain ⟨e1, e2⟩ := aclOk_all (by simp at e; exact e.1)
  refine draw_rule tOk (by kernel_rfl) (fun j => match j with
    | 2 => some (0, i64 (decides xs p), [])
    | 5 => some (0, bl (passes xs p), [])
    | _ => none) 8 (by decide) ?_
  conv => whnf
  refine And.intro (callD_any (decides_c xs p hl e2) rfl) ?_
  conv => whnf
  refine And.intro (callD_any (passes_c xs p hl e2) rfl) ?_
  conv => whnf
  refine ⟨?_, trivial⟩
  simp [aclSays, e]

end Go.Proofs.Ytafklggkpofgmaa
