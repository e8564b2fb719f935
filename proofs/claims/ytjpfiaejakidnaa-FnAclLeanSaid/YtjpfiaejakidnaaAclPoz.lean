/-
  Plain Lean: the draws of rules and packets always give something.
-/
import Derived.Test.YtjpfiaejakidnaaKz5
import Derived.Test.YtjpfiaejakidnaaAclPz
import Derived.Test.YtjpfiaejakidnaaPoL1z
set_option linter.all false
namespace Go.Proofs.Ytjpfiaejakidnaa
open Go Go.Ab
set_option maxHeartbeats 400000

theorem RdOk.mono {r : l1Rd} {k m : Int} (h : RdOk r k) (hm : k ≤ m) : RdOk r m := ⟨h.bytes, h.len, h.p0, Int.le_trans h.p1 hm⟩
theorem size_post {n : Int} (h0 : 0 ≤ n) (h1 : n ≤ 16) : Post (spec_l1Size_m n) fun x => 1 ≤ x ∧ x ≤ 65536 := ⟨_, l1Size_p h0 h1, netSize_pos n, netSize_le h0⟩
/-- A prefix as it is drawn. -/
def LenOk (p : NetPrefix) : Prop := 0 ≤ p.Len ∧ p.Len ≤ 16
theorem prefix_post {r : l1Rd} {k : Int} (h : RdOk r k) (hk : k ≤ 1099511620000) : Post (spec_l5Prefix_m r) fun x => LenOk x.1 ∧ RdOk ⟨r.b, x.2.p⟩ (k + 20) := by
  unfold spec_l5Prefix_m
  refine .bd (pick_post h (by omega) (by omega)) fun x1 ⟨g1, h1⟩ => ?_
  refine .bd (Q := fun x => (0 ≤ x.2 ∧ x.2 ≤ 16) ∧ RdOk ⟨r.b, x.1⟩ (k + 3)) (.bd (pick_post h1 (by omega) (by omega)) fun x5 ⟨_, h5⟩ => .ite (fun _ => .bd (pick_post h5 (by omega) (by omega)) fun x6 ⟨g6, h6⟩ => .gd g6 (.ret ⟨getD_all (p := fun x => 0 ≤ x ∧ x ≤ 16) (by simp) (by decide) _, h6.mono (by omega)⟩)) fun _ => .ret ⟨by dsimp only; omega, h5.mono (by omega)⟩) fun x2 ⟨g2, h2⟩ => ?_
  refine .bd (pick_post h2 (by omega) (by omega)) fun x8 ⟨_, h8⟩ => .bd (pick_post h8 (by omega) (by omega)) fun x9 ⟨_, h9⟩ => .bd (pick_post h9 (by omega) (by omega)) fun x10 ⟨_, h10⟩ => .bd (pick_post h10 (by omega) (by omega)) fun x11 ⟨_, h11⟩ => .bd (pick_post h11 (by omega) (by omega)) fun x12 ⟨_, h12⟩ => .bd (pick_post h12 (by omega) (by omega)) fun x13 ⟨g13, h13⟩ => .gd g13 (.bd (size_post g2.1 g2.2) fun y hy => .gd (by omega) (.ret ⟨g2, h13.mono (by omega)⟩))
theorem halves_post {p : NetPrefix} (h0 : 0 ≤ p.Len) (h1 : p.Len < 16) : Post (spec_l1Halves_m p) fun x => LenOk x.1 ∧ LenOk x.2 := by
  unfold spec_l1Halves_m
  rw [wrap_i64 (n := p.Len + 1) (by omega) (by omega)]
  exact .bd (size_post (by omega) (by omega)) fun y hy => .ret ⟨⟨by dsimp only; omega, by dsimp only; omega⟩, ⟨by dsimp only; omega, by dsimp only; omega⟩⟩
theorem spoil_post {r : l1Rd} {k : Int} (h : RdOk r k) (hk : k ≤ 1099511620000) (p : NetPrefix) : Post (spec_l5Spoil_m r p) fun x => RdOk ⟨r.b, x.2.p⟩ (k + 2) := by
  unfold spec_l5Spoil_m
  refine .bd (pick_post h (by omega) (by omega)) fun x1 ⟨g1, h1⟩ => ?_
  refine .ite (fun _ => .bd (pick_post h1 (by omega) (by omega)) fun x2 ⟨g2, h2⟩ => .gd g2 (.ret (h2.mono (by omega)))) fun _ => ?_
  refine .ite (fun _ => .ret (h1.mono (by omega))) fun _ => ?_
  exact .ite (fun _ => .bd (pick_post h1 (by omega) (by omega)) fun x2 ⟨g2, h2⟩ => .gd g2 (.ret (h2.mono (by omega)))) fun _ => .ret (h1.mono (by omega))
theorem addr_post {r : l1Rd} {k : Int} (h : RdOk r k) (hk : k ≤ 1099511620000) (p : NetPrefix) : Post (spec_l5Addr_m r p) fun x => RdOk ⟨r.b, x.2.p⟩ (k + 3) := by
  unfold spec_l5Addr_m
  rw [specNetOk_p, bd_val]
  refine .bd (Q := fun x => RdOk ⟨r.b, x.2.p⟩ (k + 1)) (.gcallE (fun _ => (pick_post h (by omega) (by omega)).mono fun _ h => h.2) fun _ => h.mono (by omega)) fun x2 h2 => ?_
  refine .ite (fun _ => .bd (pick_post h2 (by omega) (by omega)) fun x3 ⟨_, h3⟩ => .bd (pick_post h3 (by omega) (by omega)) fun x4 ⟨g4, h4⟩ => .gd g4 (.ret (h4.mono (by omega)))) fun c => ?_
  simp only [Bool.or_eq_true, Bool.not_eq_true', not_or, Bool.not_eq_false] at c
  obtain ⟨g1, g2, _⟩ := netOk_spec c.1
  exact .bd (size_post g1 g2) fun x6 _ => .bd (size_post g1 g2) fun x7 _ => .bd (size_post g1 g2) fun x8 g8 => .bd (pick_post h2 (by omega) (by omega)) fun x9 ⟨_, h9⟩ => .bd (pick_post h9 (by omega) (by omega)) fun x10 ⟨g10, h10⟩ => .gd g10 (.ret (h10.mono (by omega)))

structure DrawnRules (rs : List AclRule) (n : Nat) : Prop where
  len : rs.length ≤ n
  to : ∀ r ∈ rs, LenOk r.To
theorem rules_post {r : l1Rd} {k : Int} (h : RdOk r k) (hk : k ≤ 1099511610000) : Post (spec_l5Rules_m r) fun x => DrawnRules x.1 7 ∧ RdOk ⟨r.b, x.2.p⟩ (k + 701) := by
  unfold spec_l5Rules_m
  refine .bd (pick_post h (by omega) (by omega)) fun x1 ⟨g1, h1⟩ => ?_
  refine .bd (Q := fun x => DrawnRules x.2.1 7 ∧ RdOk ⟨r.b, x.2.2⟩ (k + 701)) (.lp (fun s => (s.1.length : Int) + s.2.2 ≤ 7 ∧ 0 ≤ s.2.2 ∧ (∀ r ∈ s.1, LenOk r.To) ∧ RdOk ⟨r.b, s.2.1⟩ (k + 1 + 100 * s.1.length)) (fun s => s.2.2.toNat) ⟨by dsimp only; simp; omega, g1.1, by simp, by simpa using h1⟩ fun s ⟨i1, i2, i3, i4⟩ => ?_) fun x hx => .ret hx
  refine .ite (fun c => ?_) fun c => .ret ⟨⟨by dsimp only; omega, i3⟩, i4.mono (by omega)⟩
  simp only [decide_eq_true_eq] at c
  refine .bd (pick_post i4 (by omega) (by omega)) fun x6 ⟨_, h6⟩ => .bd (prefix_post h6 (by omega)) fun x7 ⟨_, h7⟩ => .bd (prefix_post h7 (by omega)) fun x8 ⟨g8, h8⟩ => .bd (pick_post h8 (by omega) (by omega)) fun x9 ⟨_, h9⟩ => .bd (pick_post h9 (by omega) (by omega)) fun x10 ⟨_, h10⟩ => ?_
  refine .bd (Q := fun x => LenOk ⟨x.2.2.1, x.2.2.2.1⟩ ∧ RdOk ⟨r.b, x.2.2.2.2⟩ (k + 1 + 100 * s.1.length + 50)) (.bd (Q := fun x => RdOk ⟨r.b, x.2.p⟩ (k + 1 + 100 * s.1.length + 44)) (.gcallE (fun _ => (pick_post h10 (by omega) (by omega)).mono fun _ h => h.2.mono (by omega)) fun _ => h10.mono (by omega)) fun x14 h14 => ?_) fun x11 ⟨g11, h11⟩ => ?_
  · refine .ite (fun c => ?_) fun c => .ret ⟨g8, h14.mono (by omega)⟩
    simp only [Bool.and_eq_true, decide_eq_true_eq] at c
    refine .bd (pick_post h14 (by omega) (by omega)) fun x15 ⟨g15, h15⟩ => .gd g15 (.bd (pick_post h15 (by omega) (by omega)) fun x17 ⟨_, h17⟩ => ?_)
    have hto : LenOk (s.1.getD x15.1.toNat default).To := getD_all (p := fun r : AclRule => LenOk r.To) i3 ⟨by decide, by decide⟩ _
    refine .ite (fun c => ?_) fun c => .ret ⟨g8, h17.mono (by omega)⟩
    simp only [Bool.and_eq_true, decide_eq_true_eq] at c
    exact .bd (halves_post hto.1 c.2) fun x18 g18 => .ret ⟨g18.1, h17.mono (by omega)⟩
  · refine .bd (pick_post h11 (by omega) (by omega)) fun x19 ⟨_, h19⟩ => ?_
    have w : IntKind.i64.wrap (s.2.2 - 1) = s.2.2 - 1 := wrap_i64 (by omega) (by omega)
    rw [w]
    have done : ∀ (b : Bool) (f : NetPrefix) (n : Int), ((((s.1 ++ ([⟨b, f, ⟨x11.2.2.1, x11.2.2.2.1⟩, n⟩] : List AclRule)).length : Nat) : Int) + (s.2.2 - 1) ≤ 7 ∧ 0 ≤ s.2.2 - 1 ∧ (∀ r ∈ s.1 ++ ([⟨b, f, ⟨x11.2.2.1, x11.2.2.2.1⟩, n⟩] : List AclRule), LenOk r.To) ∧ RdOk ⟨r.b, x19.2.p⟩ (k + 1 + 100 * ((s.1 ++ ([⟨b, f, ⟨x11.2.2.1, x11.2.2.2.1⟩, n⟩] : List AclRule)).length : Nat))) ∧ (s.2.2 - 1).toNat < s.2.2.toNat := fun b f n => by
      have hl : (((s.1 ++ ([⟨b, f, ⟨x11.2.2.1, x11.2.2.2.1⟩, n⟩] : List AclRule)).length : Nat) : Int) = s.1.length + 1 := by simp
      refine ⟨⟨by omega, by omega, fun r hr => ?_, h19.mono (by omega)⟩, by omega⟩
      rcases List.mem_append.1 hr with hr | hr
      · exact i3 r hr
      · simp only [List.mem_singleton] at hr
        subst hr; exact g11
    exact .ite (fun _ => .gd (by simp; omega) (.ret (done _ _ _))) fun _ => .gd (by simp; omega) (.ret (done _ _ _))
theorem spoilRules_post {r : l1Rd} {k : Int} (h : RdOk r k) (hk : k ≤ 1099511610000) {rs : List AclRule} (hr : DrawnRules rs 7) : Post (spec_l5SpoilRules_m r rs) fun x => x.1.length ≤ 20 ∧ RdOk ⟨r.b, x.2.p⟩ (k + 10) := by
  obtain ⟨hl, hto⟩ := hr
  unfold spec_l5SpoilRules_m
  refine .gd (by omega) (.bd (Q := fun x => RdOk ⟨r.b, x.2.p⟩ (k + 1)) (.gcallE (fun _ => (pick_post h (by omega) (by omega)).mono fun _ h => h.2.mono (by omega)) fun _ => h.mono (by omega)) fun x1 h1 => ?_)
  refine .ite (fun c => ?_) fun c => ?_
  · refine .bd (pick_post h1 (by omega) (by omega)) fun x2 ⟨g2, h2⟩ => ?_
    have w : IntKind.i64.wrap (12 + x2.1) = 12 + x2.1 := wrap_i64 (by omega) (by omega)
    rw [w]
    refine .bd (Q := fun x => x.2.length ≤ 20) (.lp (fun s => s.length ≤ 14) (fun s => 20 - s.length) (by omega) fun s hs => ?_) fun x hx => .ret ⟨hx, h2.mono (by omega)⟩
    refine .ite (fun c => .gd (by simp; omega) (.ret ?_)) fun _ => .ret (by dsimp only; omega)
    simp only [decide_eq_true_eq] at c
    simp only [List.length_append, List.length_singleton]
    omega
  · simp only [Bool.or_eq_true, not_or, beq_iff_eq] at c
    refine .bd (pick_post h1 (by omega) (by omega)) fun x9 ⟨g9, h9⟩ => .bd (pick_post h9 (by omega) (by omega)) fun x10 ⟨g10, h10⟩ => ?_
    refine .ite (fun _ => .gd g9 (.bd (spoil_post h10 (by omega) _) fun x12 h12 => .gd g9 (.bd (Q := fun x => x.length ≤ 20) (.ret (by simp; omega)) fun x14 h14 => .ret ⟨h14, h12.mono (by omega)⟩))) fun _ => ?_
    refine .ite (fun _ => .gd g9 (.bd (spoil_post h10 (by omega) _) fun x12 h12 => .gd g9 (.bd (Q := fun x => x.length ≤ 20) (.ret (by simp; omega)) fun x14 h14 => .ret ⟨h14, h12.mono (by omega)⟩))) fun _ => ?_
    exact .bd (pick_post h10 (by omega) (by omega)) fun x19 ⟨g19, h19⟩ => .gd g19 (.gd g9 (.bd (Q := fun x => x.length ≤ 20) (.ret (by simp; omega)) fun x14 h14 => .ret ⟨h14, h19.mono (by omega)⟩))
theorem anyRules_post {r : l1Rd} {k : Int} (h : RdOk r k) (hk : k ≤ 1099511600000) : Post (spec_l5AnyRules_m r) fun x => x.1.length ≤ 20 ∧ RdOk ⟨r.b, x.2.p⟩ (k + 800) := by
  unfold spec_l5AnyRules_m
  refine .bd (rules_post h (by omega)) fun x1 ⟨g1, h1⟩ => .bd (pick_post h1 (by omega) (by omega)) fun x2 ⟨_, h2⟩ => ?_
  exact .ite (fun _ => .bd (spoilRules_post h2 (by omega) g1) fun x3 ⟨g3, h3⟩ => .ret ⟨g3, h3.mono (by omega)⟩) fun _ => .ret ⟨by have := g1.len; dsimp only; omega, h2.mono (by omega)⟩
theorem packet_post {r : l1Rd} {k : Int} (h : RdOk r k) (hk : k ≤ 1099511600000) (rs : List AclRule) : Post (spec_l5Packet_m r rs) fun _ => True := by
  unfold spec_l5Packet_m
  refine .bd (pick_post h (by omega) (by omega)) fun x1 ⟨_, h1⟩ => .bd (pick_post h1 (by omega) (by omega)) fun x2 ⟨_, h2⟩ => .bd (pick_post h2 (by omega) (by omega)) fun x3 ⟨_, h3⟩ => ?_
  refine .bd (Q := fun x => RdOk ⟨r.b, x.2.2.2⟩ (k + 30)) (.bd (Q := fun x => RdOk ⟨r.b, x.2.p⟩ (k + 4)) (.gcallE (fun _ => (pick_post h3 (by omega) (by omega)).mono fun _ h => h.2.mono (by omega)) fun _ => h3.mono (by omega)) fun x7 h7 => .ite (fun c => ?_) fun _ => .ret (h7.mono (by omega))) fun x4 h4 => ?_
  · simp only [Bool.and_eq_true, decide_eq_true_eq] at c
    refine .bd (pick_post h7 (by omega) (by omega)) fun x8 ⟨g8, h8⟩ => .gd g8 (.bd (addr_post h8 (by omega) _) fun x10 h10 => .bd (addr_post h10 (by omega) _) fun x11 h11 => .bd (Q := fun x => RdOk ⟨r.b, x.2.p⟩ (k + 15)) (.gcallE (fun _ => (pick_post h11 (by omega) (by omega)).mono fun _ h => h.2.mono (by omega)) fun _ => h11.mono (by omega)) fun x12 h12 => .ite (fun _ => .ret (h12.mono (by omega))) fun _ => .ret (h12.mono (by omega)))
  · exact .bd (pick_post h4 (by omega) (by omega)) fun x13 ⟨_, h13⟩ => .ite (fun _ => .bd (pick_post h13 (by omega) (by omega)) fun x14 ⟨g14, h14⟩ => .gd g14 (.ret trivial)) fun _ => .ret trivial
theorem drawAclSays_post {b : List Int} (hb : b.length ≤ 9223372036854775807) (h : ∀ x ∈ b, FitsB x) : Post (spec_DrawAclSays_m b) fun x => x.1.length ≤ 20 := by
  unfold spec_DrawAclSays_m
  exact .bd (open_post hb h) fun x1 h1 => .bd (anyRules_post h1 (by omega)) fun x2 ⟨g2, h2⟩ => .bd (packet_post h2 (by omega) _) fun x3 _ => .ret g2

end Go.Proofs.Ytjpfiaejakidnaa
