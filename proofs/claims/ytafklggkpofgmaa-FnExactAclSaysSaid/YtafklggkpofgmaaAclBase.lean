/-
  What the functions on prefixes and on access lists compute, each function once; no condition.
-/
import Derived.Test.YtafklggkpofgmaaBase
namespace Go.Proofs.Ytafklggkpofgmaa
open Go Go.Ab
set_option maxRecDepth 100000

structure NetPrefix where
  Addr : Int
  Len : Int
instance : Inhabited NetPrefix := ⟨⟨0, 0⟩⟩
@[reducible] def NetPrefix.enc (p : NetPrefix) : List D := [.int .i64 p.Addr, .int .i64 p.Len]
@[reducible] def NetPrefix.v (p : NetPrefix) : V := .agg [i64 p.Addr, i64 p.Len]
structure AclRule where
  Permit : Bool
  From : NetPrefix
  To : NetPrefix
  Kind : Int
instance : Inhabited AclRule := ⟨⟨false, default, default, 0⟩⟩
@[reducible] def AclRule.enc (r : AclRule) : List D := [.bool r.Permit, .int .i64 r.From.Addr, .int .i64 r.From.Len, .int .i64 r.To.Addr, .int .i64 r.To.Len, .int .i64 r.Kind]
@[reducible] def AclRule.v (r : AclRule) : V := .agg [bl r.Permit, i64 r.From.Addr, i64 r.From.Len, i64 r.To.Addr, i64 r.To.Len, i64 r.Kind]
structure AclPacket where
  From : Int
  To : Int
  Kind : Int
instance : Inhabited AclPacket := ⟨⟨0, 0, 0⟩⟩
@[reducible] def AclPacket.enc (r : AclPacket) : List D := [.int .i64 r.From, .int .i64 r.To, .int .i64 r.Kind]
@[reducible] def AclPacket.v (r : AclPacket) : V := .agg [i64 r.From, i64 r.To, i64 r.Kind]

theorem toNetPrefix_c (l : NetPrefix) : PureC Try.prog 80 [l.v] l.v [] := by
  refine pureC_of tOk (fn := Try.f80) (c := codeOf Try.f80) rfl rfl (by kernel_rfl) rfl rfl (by simp) (by simp) (by simp [V.mentions, mentionsL]) ?_
  conv => whnf
  exact ⟨rfl, trivial⟩

theorem toAclPacket_c (l : AclPacket) : PureC Try.prog 17 [l.v] l.v [] := by
  refine pureC_of tOk (fn := Try.f17) (c := codeOf Try.f17) rfl rfl (by kernel_rfl) rfl rfl (by simp) (by simp) (by simp [V.mentions, mentionsL]) ?_
  conv => whnf
  exact ⟨rfl, trivial⟩

theorem toAclRule_c (l : AclRule) : PureC Try.prog 41 [l.v] l.v [] := by
  refine pureC_of tOk (fn := Try.f41) (c := codeOf Try.f41) rfl rfl (by kernel_rfl) rfl rfl (by simp) (by simp) (by simp [V.mentions, mentionsL]) ?_
  conv => whnf
  refine callC 0 (toNetPrefix_c l.From) rfl rfl ?_
  conv => whnf
  refine callC 0 (toNetPrefix_c l.To) rfl rfl ?_
  conv => whnf
  exact ⟨rfl, trivial⟩

/-- Sameness of values of a type. -/
def eqNetPrefix (a b : NetPrefix) : Bool := decide (a.Addr = b.Addr) && decide (a.Len = b.Len)

theorem eqNetPrefix_c (a b : NetPrefix) : PureC Try.prog 84 [a.v, b.v] (bl (eqNetPrefix a b)) [] := by
  refine pureC_of tOk (fn := Try.f84) (c := codeOf Try.f84) rfl rfl (by kernel_rfl) rfl rfl (by simp) (by simp) (by simp [V.mentions]) ?_
  conv => whnf
  repeat' (refine And.intro ?_ ?_ <;> intro h <;> conv => whnf)
  all_goals (refine ⟨?_, trivial⟩; simp_all [eqNetPrefix])

def eqAclRule (a b : AclRule) : Bool := decide (a.Permit = b.Permit) && eqNetPrefix a.From b.From && eqNetPrefix a.To b.To && decide (a.Kind = b.Kind)

theorem eqAclRule_c (a b : AclRule) : PureC Try.prog 45 [a.v, b.v] (bl (eqAclRule a b)) [] := by
  refine pureC_of tOk (fn := Try.f45) (c := codeOf Try.f45) rfl rfl (by kernel_rfl) rfl rfl (by simp) (by simp) (by simp [V.mentions]) ?_
  conv => whnf
  refine And.intro ?_ ?_ <;> intro h1 <;> conv => whnf
  · refine ⟨?_, trivial⟩; simp_all [eqAclRule]
  refine callC 0 (eqNetPrefix_c a.From b.From) rfl rfl ?_
  conv => whnf
  refine And.intro ?_ ?_ <;> intro h2 <;> conv => whnf
  · refine ⟨?_, trivial⟩; simp_all [eqAclRule]
  refine callC 0 (eqNetPrefix_c a.To b.To) rfl rfl ?_
  conv => whnf
  refine And.intro ?_ ?_ <;> intro h3 <;> conv => whnf
  · refine ⟨?_, trivial⟩; simp_all [eqAclRule]
  refine And.intro ?_ ?_ <;> intro h4 <;> conv => whnf
  all_goals (refine ⟨?_, trivial⟩; simp_all [eqAclRule])

/-- How many addresses a prefix of a length has. -/
def netSize (len : Int) : Int := 2 ^ (16 - len).toNat

theorem netSize_pos (len : Int) : 0 < netSize len := by unfold netSize; exact Int.pow_pos (by omega)

theorem netSize_le {len : Int} (h : 0 ≤ len) : netSize len ≤ 65536 := by
  unfold netSize
  have h1 : (16 - len).toNat ≤ 16 := by omega
  have : (2 : Int) ^ (16 - len).toNat ≤ 2 ^ 16 := pow2_le h1
  omega

theorem l1Size_c (n : Int) (h : 0 ≤ n) (hf : n ≤ 9223372036854775807) : PureC Try.prog 89 [i64 n] (i64 (netSize n)) [] := by
  refine pureC_of tOk (fn := Try.f89) (c := codeOf Try.f89) rfl rfl (by kernel_rfl) rfl rfl (by simp) (by simp) (by simp [V.mentions]) ?_
  conv => whnf
  refine loop_rule tOk (ι := Int) (fun i => ⟨0, 13, [(4, i64 i), (3, i64 (2 ^ (i - n).toNat)), (0, i64 n)], [], [], []⟩) (fun i => n ≤ i ∧ (i ≤ 16 ∨ i = n)) (fun i => (16 - i).toNat) n ?_ ⟨by omega, by omega⟩ ?_
  · refine le_mk ?_ ?_ ?_
    · repeat' (first | exact trivial | refine And.intro ?_ ?_ | refine VLe.int ?_ | exact VLe.refl _)
      all_goals first | rfl | simp
    · trivial
    · trivial
  rintro i ⟨hi, hi2⟩
  conv => whnf
  refine And.intro ?_ ?_ <;> intro h1 <;> simp only [decide_eq_true_eq, decide_eq_false_iff_not] at h1 <;> conv => whnf
  · have e1 : (i + 1 - n).toNat = (i - n).toNat + 1 := by omega
    have e2 : (2 : Int) ^ (i - n).toNat ≤ 2 ^ 16 := pow2_le (by omega)
    have e3 : (0 : Int) < 2 ^ (i - n).toNat := Int.pow_pos (by omega)
    refine ⟨i + 1, le_mk ?_ ?_ ?_, ⟨by omega, by omega⟩, by omega⟩
    · repeat' (first | exact trivial | refine And.intro ?_ ?_ | refine VLe.int ?_ | exact VLe.refl _)
      all_goals first | rfl | (rw [wrap_i64 (by omega) (by omega)]; done) | (rw [wrap_i64 (by omega) (by omega), e1, Int.pow_succ])
    · trivial
    · trivial
  · refine ⟨?_, trivial⟩
    unfold netSize
    by_cases e : i = n
    · subst e
      have : (16 - i).toNat = 0 := by omega
      simp [this]
    · have : i = 16 := by omega
      subst this; rfl

theorem size_c (p : NetPrefix) (h : 0 ≤ p.Len) (h2 : p.Len ≤ 16) : PureC Try.prog 100 [p.v] (i64 (netSize p.Len)) [] := by
  refine pureC_of tOk (fn := Try.f100) (c := codeOf Try.f100) rfl rfl (by kernel_rfl) rfl rfl (by simp) (by simp) (by simp [V.mentions]) ?_
  conv => whnf
  rw [wrap_i64 (by omega) (by omega)]
  refine And.intro (show 0 ≤ 16 - p.Len by omega) ?_
  conv => whnf
  refine ⟨?_, trivial⟩
  have e : min (16 - p.Len).toNat IntKind.i64.bits = (16 - p.Len).toNat := by
    have : IntKind.i64.bits = 64 := rfl
    omega
  have := netSize_le h
  have := netSize_pos p.Len
  rw [e, Int.one_mul]
  unfold netSize at *
  rw [wrap_i64 (by omega) (by omega)]

def netOk (p : NetPrefix) : Bool := decide (0 ≤ p.Len) && decide (p.Len ≤ 16) && decide (0 ≤ p.Addr) && decide (p.Addr ≤ 65535) && (p.Addr.tmod (netSize p.Len) == 0)

theorem specNetOk_c (p : NetPrefix) : PureC Try.prog 49 [p.v] (bl (netOk p)) [] := by
  refine pureC_of tOk (fn := Try.f49) (c := codeOf Try.f49) rfl rfl (by kernel_rfl) rfl rfl (by simp) (by simp) (by simp [V.mentions]) ?_
  conv => whnf
  refine draw_rule tOk (by kernel_rfl) (fun j => match j with
    | 2 => some (0, bl (decide (0 ≤ p.Len) && decide (p.Len ≤ 16)), [])
    | 6 => some (0, bl (decide (0 ≤ p.Addr) && decide (p.Addr ≤ 65535)), [])
    | 13 => some (0, i64 (netSize p.Len), [])
    | _ => none) 17 (by decide) ?_
  conv => whnf
  refine And.intro (callD_any (l1In_c _ _ _) rfl) ?_
  conv => whnf
  refine And.intro (callDG_any (l1In_c _ _ _) rfl) ?_
  conv => whnf
  refine And.intro (callDG_if (fn := Try.f89) rfl (by kernel_rfl) rfl rfl ?_) ?_
  · conv => whnf
    intro h
    simp at h
    exact l1Size_c _ (by omega) (by omega)
  conv => whnf
  refine And.intro ?_ ?_
  · conv => whnf
    intro _
    have := netSize_pos p.Len
    show netSize p.Len ≠ 0
    omega
  conv => whnf
  refine ⟨?_, trivial⟩
  simp [netOk, Bool.and_assoc]

theorem implNetOk_c (p : NetPrefix) : PureC Try.prog 58 [p.v] (bl (netOk p)) [] := by
  refine pureC_of tOk (fn := Try.f58) (c := codeOf Try.f58) rfl rfl (by kernel_rfl) rfl rfl (by simp) (by simp) (by simp [V.mentions]) ?_
  conv => whnf
  refine draw_rule tOk (by kernel_rfl) (fun j => match j with
    | 2 => some (0, bl (decide (0 ≤ p.Len) && decide (p.Len ≤ 16)), [])
    | 6 => some (0, bl (decide (0 ≤ p.Addr) && decide (p.Addr ≤ 65535)), [])
    | 12 => some (0, i64 (netSize p.Len), [])
    | _ => none) 16 (by decide) ?_
  conv => whnf
  refine And.intro (callD_any (within_c _ _ _) rfl) ?_
  conv => whnf
  refine And.intro (callDG_any (within_c _ _ _) rfl) ?_
  conv => whnf
  refine And.intro (callDG_if (fn := Try.f100) rfl (by kernel_rfl) rfl rfl ?_) ?_
  · conv => whnf
    intro h
    simp at h
    exact size_c p (by omega) (by omega)
  conv => whnf
  refine And.intro ?_ ?_
  · conv => whnf
    intro _
    have := netSize_pos p.Len
    show netSize p.Len ≠ 0
    omega
  conv => whnf
  refine ⟨?_, trivial⟩
  simp [netOk, Bool.and_assoc]

/-- A prefix that is ok has an address. -/
def netHas (p : NetPrefix) (a : Int) : Bool := decide (p.Addr ≤ a) && decide (a < p.Addr + netSize p.Len)

theorem netOk_spec {p : NetPrefix} (h : netOk p = true) : 0 ≤ p.Len ∧ p.Len ≤ 16 ∧ 0 ≤ p.Addr ∧ p.Addr ≤ 65535 := by
  simp [netOk] at h; omega

theorem specHas_c (p : NetPrefix) (a : Int) (h : netOk p = true) : PureC Try.prog 50 [p.v, i64 a] (bl (netHas p a)) [] := by
  obtain ⟨h1, h2, h3, h4⟩ := netOk_spec h
  have h5 := netSize_le h1
  have h6 := netSize_pos p.Len
  refine pureC_of tOk (fn := Try.f50) (c := codeOf Try.f50) rfl rfl (by kernel_rfl) rfl rfl (by simp) (by simp) (by simp [V.mentions]) ?_
  conv => whnf
  refine draw_rule tOk (by kernel_rfl) (fun j => match j with
    | 10 => some (0, i64 (netSize p.Len), [])
    | _ => none) 15 (by decide) ?_
  conv => whnf
  refine And.intro (callDG_any (l1Size_c _ h1 (by omega)) rfl) ?_
  conv => whnf
  refine ⟨?_, trivial⟩
  rw [wrap_i64 (by omega) (by omega)]
  rfl

theorem last_c (p : NetPrefix) (h : netOk p = true) : PureC Try.prog 126 [p.v] (i64 (p.Addr + netSize p.Len - 1)) [] := by
  obtain ⟨h1, h2, h3, h4⟩ := netOk_spec h
  have h5 := netSize_le h1
  have h6 := netSize_pos p.Len
  refine pureC_of tOk (fn := Try.f126) (c := codeOf Try.f126) rfl rfl (by kernel_rfl) rfl rfl (by simp) (by simp) (by simp [V.mentions]) ?_
  conv => whnf
  refine draw_rule tOk (by kernel_rfl) (fun j => match j with
    | 3 => some (0, i64 (netSize p.Len), [])
    | _ => none) 7 (by decide) ?_
  conv => whnf
  refine And.intro (callD_any (size_c p h1 h2) rfl) ?_
  conv => whnf
  refine ⟨?_, trivial⟩
  rw [wrap_i64 (n := p.Addr + netSize p.Len) (by omega) (by omega), wrap_i64 (by omega) (by omega)]

theorem implHas_c (p : NetPrefix) (a : Int) (h : netOk p = true) : PureC Try.prog 101 [p.v, i64 a] (bl (netHas p a)) [] := by
  refine pureC_of tOk (fn := Try.f101) (c := codeOf Try.f101) rfl rfl (by kernel_rfl) rfl rfl (by simp) (by simp) (by simp [V.mentions]) ?_
  conv => whnf
  refine draw_rule tOk (by kernel_rfl) (fun j => match j with
    | 4 => some (0, i64 (p.Addr + netSize p.Len - 1), [])
    | 5 => some (0, bl (decide (p.Addr ≤ a) && decide (a ≤ p.Addr + netSize p.Len - 1)), [])
    | _ => none) 7 (by decide) ?_
  conv => whnf
  refine And.intro (callD_any (last_c p h) rfl) ?_
  conv => whnf
  refine And.intro (callD_any (within_c _ _ _) rfl) ?_
  conv => whnf
  refine ⟨?_, trivial⟩
  have e : decide (a ≤ p.Addr + netSize p.Len - 1) = decide (a < p.Addr + netSize p.Len) := decide_eq_decide.2 (by omega)
  simp [netHas, e]

/-- A rule is about a packet. -/
def aclFits (r : AclRule) (p : AclPacket) : Bool := netHas r.From p.From && netHas r.To p.To && (r.Kind == 0 || r.Kind == p.Kind)

def ruleOk (r : AclRule) : Bool := netOk r.From && netOk r.To && decide (0 ≤ r.Kind) && decide (r.Kind ≤ 7)

theorem ruleOk_spec {r : AclRule} (h : ruleOk r = true) : netOk r.From = true ∧ netOk r.To = true := by
  simp [ruleOk] at h; exact ⟨h.1.1.1, h.1.1.2⟩

theorem fits_c (r : AclRule) (p : AclPacket) (h : ruleOk r = true) : PureC Try.prog 79 [r.v, p.v] (bl (aclFits r p)) [] := by
  obtain ⟨h1, h2⟩ := ruleOk_spec h
  refine pureC_of tOk (fn := Try.f79) (c := codeOf Try.f79) rfl rfl (by kernel_rfl) rfl rfl (by simp) (by simp) (by simp [V.mentions]) ?_
  conv => whnf
  refine callC 0 (specHas_c r.From _ h1) rfl rfl ?_
  conv => whnf
  refine callG_any (specHas_c r.To _ h2) rfl ?_
  conv => whnf
  refine ⟨?_, trivial⟩
  simp [aclFits, Bool.and_assoc]

theorem about_c (r : AclRule) (p : AclPacket) (h : ruleOk r = true) : PureC Try.prog 83 [r.v, p.v] (bl (aclFits r p)) [] := by
  obtain ⟨h1, h2⟩ := ruleOk_spec h
  refine pureC_of tOk (fn := Try.f83) (c := codeOf Try.f83) rfl rfl (by kernel_rfl) rfl rfl (by simp) (by simp) (by simp [V.mentions]) ?_
  conv => whnf
  refine callC 0 (implHas_c r.From _ h1) rfl rfl ?_
  conv => whnf
  refine callG_any (implHas_c r.To _ h2) rfl ?_
  conv => whnf
  refine ⟨?_, trivial⟩
  simp [aclFits, Bool.and_assoc]

end Go.Proofs.Ytafklggkpofgmaa
