/-
  How a law reads its arguments; no condition.
-/
import Derived.Test.YtjpfiaejakidnaaTyz
import Derived.Test.YtjpfiaejakidnaaTbz
set_option linter.all false
namespace Go.Proofs.Ytjpfiaejakidnaa
open Go Go.Ab
set_option maxRecDepth 100000
def NetPrefix.Fit (r : NetPrefix) : Prop := Fits r.Addr ∧ Fits r.Len ∧ True
theorem typed_NetPrefix {f : Nat} {ds : List D} (h : Typed tb (f + 2) 58 ds) : ∃ x : NetPrefix, x.Fit ∧ DsLe ds x.enc := by
  obtain ⟨d1, r1, rfl, h1, k1⟩ := typedFs_cons (typed_struct (by rfl) h)
  obtain ⟨d2, r2, rfl, h2, k2⟩ := typedFs_cons k1
  obtain rfl := typedFs_nil k2
  obtain ⟨n1, f1, e1⟩ := typed_int (by rfl) h1
  obtain ⟨n2, f2, e2⟩ := typed_int (by rfl) h2
  exact ⟨⟨n1, n2⟩, ⟨f1, f2, trivial⟩, e1.append (e2.append (.refl []))⟩

def AclRule.Fit (r : AclRule) : Prop := True ∧ r.From.Fit ∧ r.To.Fit ∧ Fits r.Kind ∧ True
theorem typed_AclRule {f : Nat} {ds : List D} (h : Typed tb (f + 3) 60 ds) : ∃ x : AclRule, x.Fit ∧ DsLe ds x.enc := by
  obtain ⟨d1, r1, rfl, h1, k1⟩ := typedFs_cons (typed_struct (by rfl) h)
  obtain ⟨d2, r2, rfl, h2, k2⟩ := typedFs_cons k1
  obtain ⟨d3, r3, rfl, h3, k3⟩ := typedFs_cons k2
  obtain ⟨d4, r4, rfl, h4, k4⟩ := typedFs_cons k3
  obtain rfl := typedFs_nil k4
  obtain ⟨n1, e1⟩ := typed_bool (by rfl) h1
  have f1 : True := trivial
  obtain ⟨n2, f2, e2⟩ := typed_NetPrefix h2
  obtain ⟨n3, f3, e3⟩ := typed_NetPrefix h3
  obtain ⟨n4, f4, e4⟩ := typed_int (by rfl) h4
  exact ⟨⟨n1, n2, n3, n4⟩, ⟨f1, f2, f3, f4, trivial⟩, e1.append (e2.append (e3.append (e4.append (.refl []))))⟩

end Go.Proofs.Ytjpfiaejakidnaa
