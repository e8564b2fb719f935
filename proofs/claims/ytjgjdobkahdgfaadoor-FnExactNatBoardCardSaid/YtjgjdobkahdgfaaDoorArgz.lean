/-
  How a law reads its arguments; no condition.
-/
import Derived.Test.YtjgjdobkahdgfaaDoorTyz
import Derived.Test.YtjgjdobkahdgfaaDoorTbz
set_option linter.all false
namespace Go.Proofs.YtjgjdobkahdgfaaDoor
open Go Go.Ab
set_option maxRecDepth 100000
def NatDoor.Fit (r : NatDoor) : Prop := Fits r.Kind ∧ Fits r.Outer ∧ Fits r.Inner ∧ Fits r.InnerPort ∧ True
theorem typed_NatDoor {f : Nat} {ds : List D} (h : Typed tb (f + 2) 60 ds) : ∃ x : NatDoor, x.Fit ∧ DsLe ds x.enc := by
  obtain ⟨d1, r1, rfl, h1, k1⟩ := typedFs_cons (typed_struct (by rfl) h)
  obtain ⟨d2, r2, rfl, h2, k2⟩ := typedFs_cons k1
  obtain ⟨d3, r3, rfl, h3, k3⟩ := typedFs_cons k2
  obtain ⟨d4, r4, rfl, h4, k4⟩ := typedFs_cons k3
  obtain rfl := typedFs_nil k4
  obtain ⟨n1, f1, e1⟩ := typed_int (by rfl) h1
  obtain ⟨n2, f2, e2⟩ := typed_int (by rfl) h2
  obtain ⟨n3, f3, e3⟩ := typed_int (by rfl) h3
  obtain ⟨n4, f4, e4⟩ := typed_int (by rfl) h4
  exact ⟨⟨n1, n2, n3, n4⟩, ⟨f1, f2, f3, f4, trivial⟩, e1.append (e2.append (e3.append (e4.append (.refl []))))⟩

def NatEntry.Fit (r : NatEntry) : Prop := Fits r.Kind ∧ Fits r.Peer ∧ Fits r.PeerPort ∧ Fits r.Outer ∧ Fits r.Inner ∧ Fits r.InnerPort ∧ Fits r.Last ∧ True
theorem typed_NatEntry {f : Nat} {ds : List D} (h : Typed tb (f + 2) 62 ds) : ∃ x : NatEntry, x.Fit ∧ DsLe ds x.enc := by
  obtain ⟨d1, r1, rfl, h1, k1⟩ := typedFs_cons (typed_struct (by rfl) h)
  obtain ⟨d2, r2, rfl, h2, k2⟩ := typedFs_cons k1
  obtain ⟨d3, r3, rfl, h3, k3⟩ := typedFs_cons k2
  obtain ⟨d4, r4, rfl, h4, k4⟩ := typedFs_cons k3
  obtain ⟨d5, r5, rfl, h5, k5⟩ := typedFs_cons k4
  obtain ⟨d6, r6, rfl, h6, k6⟩ := typedFs_cons k5
  obtain ⟨d7, r7, rfl, h7, k7⟩ := typedFs_cons k6
  obtain rfl := typedFs_nil k7
  obtain ⟨n1, f1, e1⟩ := typed_int (by rfl) h1
  obtain ⟨n2, f2, e2⟩ := typed_int (by rfl) h2
  obtain ⟨n3, f3, e3⟩ := typed_int (by rfl) h3
  obtain ⟨n4, f4, e4⟩ := typed_int (by rfl) h4
  obtain ⟨n5, f5, e5⟩ := typed_int (by rfl) h5
  obtain ⟨n6, f6, e6⟩ := typed_int (by rfl) h6
  obtain ⟨n7, f7, e7⟩ := typed_int (by rfl) h7
  exact ⟨⟨n1, n2, n3, n4, n5, n6, n7⟩, ⟨f1, f2, f3, f4, f5, f6, f7, trivial⟩, e1.append (e2.append (e3.append (e4.append (e5.append (e6.append (e7.append (.refl [])))))))⟩

def NatBook.Fit (r : NatBook) : Prop := Fits r.Addr ∧ Fits r.Len ∧ Fits r.Own ∧ Fits r.Low ∧ Fits r.High ∧ (r.Doors.length ≤ 9223372036854775807 ∧ ∀ x ∈ r.Doors, x.Fit) ∧ Fits r.Now ∧ (r.Entries.length ≤ 9223372036854775807 ∧ ∀ x ∈ r.Entries, x.Fit) ∧ True
theorem typed_NatBook {f : Nat} {ds : List D} (h : Typed tb (f + 4) 25 ds) : ∃ x : NatBook, x.Fit ∧ DsLe ds x.enc := by
  obtain ⟨d1, r1, rfl, h1, k1⟩ := typedFs_cons (typed_struct (by rfl) h)
  obtain ⟨d2, r2, rfl, h2, k2⟩ := typedFs_cons k1
  obtain ⟨d3, r3, rfl, h3, k3⟩ := typedFs_cons k2
  obtain ⟨d4, r4, rfl, h4, k4⟩ := typedFs_cons k3
  obtain ⟨d5, r5, rfl, h5, k5⟩ := typedFs_cons k4
  obtain ⟨d6, r6, rfl, h6, k6⟩ := typedFs_cons k5
  obtain ⟨d7, r7, rfl, h7, k7⟩ := typedFs_cons k6
  obtain ⟨d8, r8, rfl, h8, k8⟩ := typedFs_cons k7
  obtain rfl := typedFs_nil k8
  obtain ⟨n1, f1, e1⟩ := typed_int (by rfl) h1
  obtain ⟨n2, f2, e2⟩ := typed_int (by rfl) h2
  obtain ⟨n3, f3, e3⟩ := typed_int (by rfl) h3
  obtain ⟨n4, f4, e4⟩ := typed_int (by rfl) h4
  obtain ⟨n5, f5, e5⟩ := typed_int (by rfl) h5
  obtain ⟨n6, a6, _, b6, e6⟩ := typed_sl (enc := NatDoor.enc) (ok := NatDoor.Fit) (by rfl) (by rfl) (fun _ hd => typed_NatDoor hd) h6
  have f6 := And.intro b6 a6
  obtain ⟨n7, f7, e7⟩ := typed_int (by rfl) h7
  obtain ⟨n8, a8, _, b8, e8⟩ := typed_sl (enc := NatEntry.enc) (ok := NatEntry.Fit) (by rfl) (by rfl) (fun _ hd => typed_NatEntry hd) h8
  have f8 := And.intro b8 a8
  exact ⟨⟨n1, n2, n3, n4, n5, n6, n7, n8⟩, ⟨f1, f2, f3, f4, f5, f6, f7, f8, trivial⟩, e1.append (e2.append (e3.append (e4.append (e5.append (e6.append (e7.append (e8.append (.refl []))))))))⟩

end Go.Proofs.YtjgjdobkahdgfaaDoor
