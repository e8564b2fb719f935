/-
  The row of FnExactAclSays is proved: for every list of rules and every packet the law returns true, and its arguments read as before; no condition.
-/
import Derived.Test.YtafklggkpofgmaaAclSays
import Derived.Test.YtafklggkpofgmaaCm
namespace Go.Proofs.Ytafklggkpofgmaa
open Go Go.Ab Go.ChangeShapes Go.WideShapes Go.ChangeAt Go.RowKit
set_option maxRecDepth 100000

theorem typed_NetPrefix {f : Nat} {ds : List D} (h : Typed tb (f + 2) 86 ds) : ∃ x : NetPrefix, DsLe ds x.enc := by
  obtain ⟨d1, r1, rfl, h1, k1⟩ := typedFs_cons (typed_struct (by rfl) h)
  obtain ⟨d2, r2, rfl, h2, k2⟩ := typedFs_cons k1
  obtain rfl := typedFs_nil k2
  obtain ⟨n1, _, e1⟩ := typed_int (by rfl) h1
  obtain ⟨n2, _, e2⟩ := typed_int (by rfl) h2
  exact ⟨⟨n1, n2⟩, e1.append (e2.append (.refl []))⟩

theorem typed_AclRule {f : Nat} {ds : List D} (h : Typed tb (f + 3) 88 ds) : ∃ x : AclRule, True ∧ DsLe ds x.enc := by
  obtain ⟨d1, r1, rfl, h1, k1⟩ := typedFs_cons (typed_struct (by rfl) h)
  obtain ⟨d2, r2, rfl, h2, k2⟩ := typedFs_cons k1
  obtain ⟨d3, r3, rfl, h3, k3⟩ := typedFs_cons k2
  obtain ⟨d4, r4, rfl, h4, k4⟩ := typedFs_cons k3
  obtain rfl := typedFs_nil k4
  obtain ⟨n1, e1⟩ := typed_bool (by rfl) h1
  obtain ⟨n2, e2⟩ := typed_NetPrefix h2
  obtain ⟨n3, e3⟩ := typed_NetPrefix h3
  obtain ⟨n4, _, e4⟩ := typed_int (by rfl) h4
  exact ⟨⟨n1, n2, n3, n4⟩, trivial, e1.append (e2.append (e3.append (e4.append (.refl []))))⟩

theorem typed_AclPacket {f : Nat} {ds : List D} (h : Typed tb (f + 2) 31 ds) : ∃ x : AclPacket, DsLe ds x.enc := by
  obtain ⟨d1, r1, rfl, h1, k1⟩ := typedFs_cons (typed_struct (by rfl) h)
  obtain ⟨d2, r2, rfl, h2, k2⟩ := typedFs_cons k1
  obtain ⟨d3, r3, rfl, h3, k3⟩ := typedFs_cons k2
  obtain rfl := typedFs_nil k3
  obtain ⟨n1, _, e1⟩ := typed_int (by rfl) h1
  obtain ⟨n2, _, e2⟩ := typed_int (by rfl) h2
  obtain ⟨n3, _, e3⟩ := typed_int (by rfl) h3
  exact ⟨⟨n1, n2, n3⟩, e1.append (e2.append (e3.append (.refl [])))⟩

theorem fnExactAclSays_c (xs : List AclRule) (p : AclPacket) (h : xs.length ≤ 9223372036854775807) : PureC Try.prog 4 [.d (slD AclRule.enc xs), p.v] (bl true) [] := by
  refine pureC_of tOk (fn := Try.f4) (c := codeOf Try.f4) rfl rfl (by kernel_rfl) rfl rfl (by simp) (by simp) (by simp [V.mentions]) ?_
  conv => whnf
  refine callC 0 (szAclRuleS_c xs 1048576 h (by omega) (by omega)) rfl rfl ?_
  conv => whnf
  refine And.intro ?_ ?_ <;> intro h1 <;> simp only [decide_eq_true_eq, decide_eq_false_iff_not] at h1 <;> conv => whnf
  · exact ⟨rfl, trivial⟩
  have hl : xs.length ≤ 1048576 := by
    split at h1 <;> omega
  refine draw_rule tOk (by kernel_rfl) (fun j => match j with
    | 1 => some (100, .osl 7 0 xs.length, [⟨7, 48, 6, xs.length, rows AclRule.enc xs⟩])
    | 3 => some (0, p.v, [])
    | 4 => some (0, .tup [i64 (aclSays xs p).1, bl (aclSays xs p).2], [])
    | _ => none) 10 (by decide) ?_
  conv => whnf
  refine And.intro (callD_any (toAclRuleS_c xs hl) rfl) ?_
  conv => whnf
  refine And.intro (callD_any (toAclPacket_c p) rfl) ?_
  conv => whnf
  refine And.intro (callD_any (specAclSays_c xs p hl) rfl) ?_
  conv => whnf
  refine callC 200 (toAclRuleS_c xs hl) rfl rfl ?_
  conv => whnf
  refine callC 0 (toAclPacket_c p) rfl rfl ?_
  conv => whnf
  refine callC 0 (implAclSays_c xs p hl) rfl rfl ?_
  conv => whnf
  refine And.intro ?_ ?_ <;> intro h2 <;> conv => whnf
  · simp at h2
  refine callC 300 (toAclRuleS_c xs hl) rfl rfl ?_
  conv => whnf
  refine callC 0 (eqAclRuleS_c xs xs hl rfl) rfl rfl ?_
  conv => whnf
  refine And.intro ?_ ?_ <;> intro h3 <;> conv => whnf
  · cases h3
  exact ⟨rfl, trivial⟩

theorem fnExactAclSays_lifted (os : Os) (started : os.Started) (H : Type) (enc : TypeId × Value → H) :
    ReturnsInHanded {} Try.checked os 4 .any (Rows.fnExactAclSaysSpec.pre6 enc Try.prog Try.f4 Rows.fnExactAclSaysRow.domain false) (Rows.fnExactAclSaysSpec.post enc Try.prog Try.f4 false true false false) := by
  refine law_any (C := Try.checked) (fn := Try.f4) (fu := 8) (rt := 4) tOk Try.own started (by kernel_rfl) Try.func4
    (ChangeSpec.witness6 (enc := enc) (C := Try.checked) false ⟨#[], #[.slice none 0 0, .agg #[.int .i64 0, .int .i64 0, .int .i64 0]], []⟩ 8 (by kernel_rfl) (by kernel_rfl) (by kernel_rfl) (by kernel_rfl))
    Try.laidOut (by kernel_rfl) (by kernel_rfl) rfl rfl (by kernel_rfl) ?_ ?_
  · intro ds hds
    have hds : ds.length = 2 := hds
    obtain ⟨a, b, rfl⟩ := len_two hds
    rfl
  · have hp : Try.f4.params.toList = [29, 31] := by kernel_rfl
    rw [hp]
    intro dss h
    obtain ⟨a0, r, rfl, h0, h⟩ := typedAll_cons h
    obtain ⟨a1, r, rfl, h1, h⟩ := typedAll_cons h
    obtain rfl := typedAll_nil h
    obtain ⟨xs, _, _, hl, e0⟩ := typed_sl (enc := AclRule.enc) (by rfl) (by rfl) (fun _ hd => typed_AclRule hd) h0
    obtain ⟨p, e1⟩ := typed_AclPacket h1
    exact PureC.le (vs := [.d (slD AclRule.enc xs), p.v]) (And.intro (argV_le1 (by rfl) e0) (And.intro (argV_leS (by rfl) e1) trivial)) (fnExactAclSays_c xs p hl)

theorem fnExactAclSays_holds : Rows.FnExactAclSaysSaid :=
  OpenClaim.holds_of_wide 4 Try.f4 rfl rfl rfl rfl rfl rfl rfl ⟨rfl, rfl, rfl, rfl, rfl⟩ rfl rfl rfl rfl rfl (by kernel_rfl) Try.func4 (by kernel_rfl)
    (of_decide_eq_true (by kernel_rfl)) (by unfold Func.isWrapper; first | (rw [if_pos (by decide +kernel)]; kernel_rfl) | (rw [if_neg (by decide +kernel)]; exact ⟨rfl, rfl⟩))
    (fun os started H enc _ => fnExactAclSays_lifted os started H enc)

end Go.Proofs.Ytafklggkpofgmaa
