/-
  Plain Lean: prefixes, rules, and what an access list says, impl's and the reference's alike; no condition but those typed.
-/
import Derived.Test.YtjpfiaejakidnaaKz5
import Derived.Test.YtjpfiaejakidnaaPoL1z
set_option linter.all false
namespace Go.Proofs.Ytjpfiaejakidnaa
open Go Go.Ab
set_option maxHeartbeats 400000
set_option maxRecDepth 100000

theorem ite_some {α : Type} {c : Prop} [d1 : Decidable c] [d2 : Decidable c] {x y : α} : (if c then some x else some y) = some (@ite α c d2 x y) := by
  by_cases h : c
  · rw [if_pos h, if_pos h]
  · rw [if_neg h, if_neg h]
theorem ite_not {α : Type} {b c : Bool} [d2 : Decidable (c = true)] {x y : α} (h : b = !c) : (if b = true then some x else some y) = some (@ite α (c = true) d2 y x) := by
  subst h
  by_cases h : c = true
  · rw [if_pos h, if_neg (by simp [h])]
  · rw [if_neg h, if_pos (by simpa using h)]
def inR (a lo hi : Int) : Bool := decide (lo ≤ a) && decide (a ≤ hi)
theorem inR_iff {a lo hi : Int} : inR a lo hi = true ↔ lo ≤ a ∧ a ≤ hi := by simp [inR]
@[simp] theorem within_p (a lo hi : Int) : impl_within_m a lo hi = some (inR a lo hi) := rfl
@[simp] theorem l1In_p (a lo hi : Int) : spec_l1In_m a lo hi = some (inR a lo hi) := by simp [spec_l1In_m, inR]

def netSize (len : Int) : Int := 2 ^ (16 - len).toNat
theorem netSize_pos (len : Int) : 0 < netSize len := by unfold netSize; exact Int.pow_pos (by omega)
theorem netSize_le {len : Int} (h : 0 ≤ len) : netSize len ≤ 65536 := by
  unfold netSize
  have := pow2_le (a := (16 - len).toNat) (b := 16) (by omega)
  simpa using this
def netOk (p : NetPrefix) : Bool := inR p.Len 0 16 && inR p.Addr 0 65535 && (p.Addr.tmod (netSize p.Len) == 0)
def netHas (p : NetPrefix) (a : Int) : Bool := decide (p.Addr ≤ a) && decide (a < p.Addr + netSize p.Len)
theorem netOk_spec {p : NetPrefix} (h : netOk p = true) : 0 ≤ p.Len ∧ p.Len ≤ 16 ∧ 0 ≤ p.Addr ∧ p.Addr ≤ 65535 := by
  simp [netOk, inR_iff] at h
  omega
theorem l1Size_p {n : Int} (h0 : 0 ≤ n) (h1 : n ≤ 16) : spec_l1Size_m n = some (netSize n) := by
  obtain ⟨k, rfl⟩ : ∃ k : Nat, n = k := ⟨n.toNat, by omega⟩
  have : k = 0 ∨ k = 1 ∨ k = 2 ∨ k = 3 ∨ k = 4 ∨ k = 5 ∨ k = 6 ∨ k = 7 ∨ k = 8 ∨ k = 9 ∨ k = 10 ∨ k = 11 ∨ k = 12 ∨ k = 13 ∨ k = 14 ∨ k = 15 ∨ k = 16 := by omega
  rcases this with rfl | rfl | rfl | rfl | rfl | rfl | rfl | rfl | rfl | rfl | rfl | rfl | rfl | rfl | rfl | rfl | rfl <;> exact (bd_of (lp_iff.2 ⟨18, rfl⟩)).trans rfl

theorem size_p {p : NetPrefix} (h0 : 0 ≤ p.Len) (h1 : p.Len ≤ 16) : impl_NetPrefix_size_m p = some (netSize p.Len) := by
  have e : IntKind.i64.wrap (16 - p.Len) = 16 - p.Len := wrap_i64 (by omega) (by omega)
  have hb : IntKind.bits .i64 = 64 := rfl
  unfold impl_NetPrefix_size_m
  rw [e, gd_pos (by omega), hb, Nat.min_eq_left (by omega), Int.one_mul]
  have h := netSize_le h0
  have hp := netSize_pos p.Len
  unfold netSize at *
  rw [wrap_i64 (by omega) (by omega)]

theorem netOk_p (p : NetPrefix) : impl_NetOk_m p = some (netOk p) := by
  unfold impl_NetOk_m
  simp only [within_p, bd_val]
  cases h : inR p.Len 0 16
  · simp [gcall, gd, netOk, h]
  · have h' := inR_iff.1 h
    have hs := size_p h'.1 h'.2
    have hp := netSize_pos p.Len
    simp only [gcall, Bool.true_and, if_true, bd_val, hs]
    cases h2 : inR p.Addr 0 65535
    · simp [netOk, h, h2, gd]
    · simp only [if_true, bd_val]
      rw [gd_pos (fun _ => by omega)]
      simp [netOk, h, h2]
theorem specNetOk_p (p : NetPrefix) : spec_NetOk_m p = some (netOk p) := by
  unfold spec_NetOk_m
  simp only [l1In_p, bd_val]
  cases h : inR p.Len 0 16
  · simp [gcall, gd, netOk, h]
  · have h' := inR_iff.1 h
    have hs := l1Size_p h'.1 h'.2
    have hp := netSize_pos p.Len
    simp only [gcall, Bool.true_and, if_true, bd_val, hs]
    cases h2 : inR p.Addr 0 65535
    · simp [netOk, h, h2, gd]
    · simp only [if_true, bd_val]
      rw [gd_pos (fun _ => by omega)]
      simp [netOk, h, h2]

theorem has_p {p : NetPrefix} (h : netOk p = true) (a : Int) : impl_NetPrefix_has_m p a = some (netHas p a) := by
  obtain ⟨h1, h2, h3, h4⟩ := netOk_spec h
  have hs := netSize_le h1
  have hp := netSize_pos p.Len
  unfold impl_NetPrefix_has_m impl_NetPrefix_last_m
  rw [size_p h1 h2]
  simp only [bd_val, within_p]
  rw [wrap_i64 (n := p.Addr + netSize p.Len) (by omega) (by omega), wrap_i64 (by omega) (by omega)]
  have e : decide (a ≤ p.Addr + netSize p.Len - 1) = decide (a < p.Addr + netSize p.Len) := decide_eq_decide.2 (by omega)
  simp only [inR, netHas, e]
theorem l1Has_p {p : NetPrefix} (h : netOk p = true) (a : Int) : spec_l1Has_m p a = some (netHas p a) := by
  obtain ⟨h1, h2, h3, h4⟩ := netOk_spec h
  have hs := netSize_le h1
  have hp := netSize_pos p.Len
  unfold spec_l1Has_m
  rw [l1Size_p h1 h2]
  cases hd : decide (a ≥ p.Addr)
  · simp only [gcall_neg (by decide : ¬ (false = true)), bd_val, Bool.false_and]
    have : ¬ p.Addr ≤ a := by simpa using hd
    simp [netHas, this]
  · simp only [gcall_pos, bd_val, Bool.true_and]
    rw [wrap_i64 (by omega) (by omega)]
    have : p.Addr ≤ a := by simpa using hd
    simp [netHas, this]
theorem specNetHas_p (p : NetPrefix) (a : Int) : spec_NetHas_m p a = some (netOk p && netHas p a) := by
  unfold spec_NetHas_m
  rw [specNetOk_p, bd_val]
  cases h : netOk p
  · simp [gcall]
  · rw [gcall_pos rfl, l1Has_p h]; rfl

def ruleOk (r : AclRule) : Bool := netOk r.From && netOk r.To && inR r.Kind 0 7
def aclOk (rs : List AclRule) : Bool := decide (rs.length ≤ 12) && allR rs.length fun i => ruleOk (rs.getD i default)
theorem aclOk_at {rs : List AclRule} (h : aclOk rs = true) {i : Nat} (hi : i < rs.length) : ruleOk (rs.getD i default) = true := by
  simp only [aclOk, Bool.and_eq_true] at h
  exact allR_get h.2 hi
theorem aclOk_len {rs : List AclRule} (h : aclOk rs = true) : rs.length ≤ 12 := by
  simp only [aclOk, Bool.and_eq_true, decide_eq_true_eq] at h
  exact h.1

theorem implAclOk_p {rs : List AclRule} (h : rs.length ≤ 9223372036854775807) : impl_AclOk_m rs = some (aclOk rs) := by
  unfold impl_AclOk_m
  rw [lp_all rs.length (fun i => ruleOk (rs.getD i default)) (.inl ()) (.inr ()) (fun i hi _ => ?_) (fun _ => by rw [if_neg (by simp)]), bd_val]
  · have e : decide (((rs.length : Nat) : Int) ≤ 12) = decide (rs.length ≤ 12) := decide_eq_decide.2 (by omega)
    cases ha : allR rs.length fun i => ruleOk (rs.getD i default) <;> simp only [aclOk, ha, e, Bool.and_true, Bool.and_false, if_true, Bool.false_eq_true, if_false]
  · rw [if_pos (by simp; omega), gd_pos (by omega), Int.toNat_natCast, netOk_p, bd_val, netOk_p, gcall_nb, bd_val, within_p, gcall_nb, bd_val, wrap_succ hi h]
    refine ite_not ?_
    simp only [ruleOk]
    cases netOk (rs.getD i default).From <;> cases netOk (rs.getD i default).To <;> cases inR (rs.getD i default).Kind 0 7 <;> rfl
theorem specAclOk_p {rs : List AclRule} (h : rs.length ≤ 9223372036854775807) : spec_AclOk_m rs = some (aclOk rs) := by
  unfold spec_AclOk_m
  by_cases hl : rs.length ≤ 12
  · rw [if_neg (by simp; omega), lp_all rs.length (fun i => ruleOk (rs.getD i default)) (.inl ()) (.inr ()) (fun i hi _ => ?_) (fun _ => by rw [if_neg (by simp)]), bd_val]
    · cases ha : allR rs.length fun i => ruleOk (rs.getD i default) <;> simp only [aclOk, ha, hl, decide_true, Bool.and_true, Bool.and_false, if_true, Bool.false_eq_true, if_false]
    · rw [if_pos (by simp; omega), gd_pos (by omega), Int.toNat_natCast, specNetOk_p, bd_val, gd_pos (fun _ => by omega), specNetOk_p, gcall_nb, bd_val, gd_pos (fun _ => by omega), l1In_p, gcall_nb, bd_val, wrap_succ hi h]
      refine ite_not ?_
      simp only [ruleOk]
      cases netOk (rs.getD i default).From <;> cases netOk (rs.getD i default).To <;> cases inR (rs.getD i default).Kind 0 7 <;> rfl
  · rw [if_pos (by simp; omega)]
    simp [aclOk, hl]

def fits (r : AclRule) (p : AclPacket) : Bool := netHas r.From p.From && netHas r.To p.To && ((r.Kind == 0) || (r.Kind == p.Kind))
theorem about_p {r : AclRule} (h : ruleOk r = true) (p : AclPacket) : impl_AclRule_about_m r p = some (fits r p) := by
  simp only [ruleOk, Bool.and_eq_true] at h
  unfold impl_AclRule_about_m
  rw [has_p h.1.1, bd_val, has_p h.1.2, gcall_b, bd_val]
  simp only [fits]
  cases netHas r.From p.From <;> cases netHas r.To p.To <;> rfl
theorem l4Fits_p {r : AclRule} (h : ruleOk r = true) (p : AclPacket) : spec_l4Fits_m r p = some (fits r p) := by
  simp only [ruleOk, Bool.and_eq_true] at h
  unfold spec_l4Fits_m
  rw [l1Has_p h.1.1, bd_val, l1Has_p h.1.2, gcall_b, bd_val]
  simp only [fits]
  cases netHas r.From p.From <;> cases netHas r.To p.To <;> rfl

/-- The first rule that is about a packet. -/
def decideR (rs : List AclRule) (p : AclPacket) : Option Nat := firstR (fun i => fits (rs.getD i default) p) rs.length
def at? (o : Option Nat) : Int := (o.map fun i : Nat => (i : Int)).getD (-1)
def permit (rs : List AclRule) (o : Option Nat) : Bool := match o with
  | some i => (rs.getD i default).Permit
  | none => false
theorem decides_p {rs : List AclRule} (h : aclOk rs = true) (p : AclPacket) : impl_decides_m rs p = some (at? (decideR rs p)) := by
  have hl := aclOk_len h
  unfold impl_decides_m slices_IndexFunc_AclRule_AclRule_impl_decides_1_m
  rw [lp_first rs.length (fun i => fits (rs.getD i default) p) (fun i => .inl (i : Int)) (.inr ()) (fun i hi => ?_) (by rw [if_neg (by simp)]), bd_val]
  · unfold decideR at?
    cases firstR (fun i => fits (rs.getD i default) p) rs.length <;> rfl
  · rw [if_pos (by simp; omega), gd_pos (by omega), Int.toNat_natCast]
    unfold impl_decides_1_m
    rw [about_p (aclOk_at h hi), bd_val, bd_val, wrap_succ hi (by omega)]
    exact ite_some
theorem passes_p {rs : List AclRule} (h : aclOk rs = true) (p : AclPacket) : impl_passes_m rs p = some (permit rs (decideR rs p)) := by
  unfold impl_passes_m
  rw [decides_p h, bd_val]
  cases hd : decideR rs p with
  | none => rw [gd_pos (fun h => absurd h (by decide))]; rfl
  | some i =>
    have hi := (firstR_some hd).1
    have e : at? (some i) = (i : Int) := rfl
    rw [e, gd_pos (fun _ => by omega), Int.toNat_natCast]
    have : decide ((i : Int) ≥ 0) = true := by simp
    rw [this]; rfl
theorem l4Says_p {rs : List AclRule} (h : aclOk rs = true) (p : AclPacket) : spec_l4Says_m rs p = some (at? (decideR rs p), permit rs (decideR rs p)) := by
  have hl := aclOk_len h
  unfold spec_l4Says_m
  rw [lp_first rs.length (fun i => fits (rs.getD i default) p) (fun i => .inl ((i : Int), (rs.getD i default).Permit)) (.inr ()) (fun i hi => ?_) (by rw [if_neg (by simp)]), bd_val]
  · unfold decideR at? permit
    cases firstR (fun i => fits (rs.getD i default) p) rs.length <;> rfl
  · rw [if_pos (by simp; omega), gd_pos (by omega), Int.toNat_natCast, l4Fits_p (aclOk_at h hi), bd_val, gd_pos (by omega), wrap_succ hi (by omega)]
    exact ite_some

def packetOk (p : AclPacket) : Bool := inR p.From 0 65535 && inR p.To 0 65535 && inR p.Kind 1 7
def says (rs : List AclRule) (p : AclPacket) : Int × Bool := if aclOk rs && packetOk p then (at? (decideR rs p), permit rs (decideR rs p)) else (-1, false)
theorem implSays_p {rs : List AclRule} (h : rs.length ≤ 9223372036854775807) (p : AclPacket) : impl_AclSays_m rs p = some (says rs p) := by
  unfold impl_AclSays_m
  simp only [implAclOk_p h, bd_val, within_p, gcall_nb]
  cases ha : aclOk rs
  · simp [says, ha]
  · simp only [decides_p ha, passes_p ha, bd_val, says, ha, packetOk]
    cases inR p.From 0 65535 <;> cases inR p.To 0 65535 <;> cases inR p.Kind 1 7 <;> rfl
theorem l4PacketOk_p (p : AclPacket) : spec_l4PacketOk_m p = some (packetOk p) := by
  unfold spec_l4PacketOk_m
  simp only [l1In_p, bd_val, gcall_b, packetOk]
  cases inR p.From 0 65535 <;> cases inR p.To 0 65535 <;> cases inR p.Kind 1 7 <;> rfl
theorem specSays_p {rs : List AclRule} (h : rs.length ≤ 9223372036854775807) (p : AclPacket) : spec_AclSays_m rs p = some (says rs p) := by
  unfold spec_AclSays_m
  simp only [specAclOk_p h, bd_val, l4PacketOk_p, gcall_nb]
  cases ha : aclOk rs
  · simp [says, ha]
  · simp only [l4Says_p ha, bd_val, says, ha]
    cases packetOk p <;> rfl

end Go.Proofs.Ytjpfiaejakidnaa
