/-
  How a law reads its arguments; no condition.
-/
import Derived.Test.YtaoeomoepefojaaGreatTyz
import Derived.Test.YtaoeomoepefojaaGreatTbz
set_option linter.all false
namespace Go.Proofs.YtaoeomoepefojaaGreat
open Go Go.Ab
set_option maxRecDepth 100000
def HelloKey.Fit (r : HelloKey) : Prop := Fits r.Id ∧ Fits r.Secret ∧ True
theorem typed_HelloKey {f : Nat} {ds : List D} (h : Typed tb (f + 2) 100 ds) : ∃ x : HelloKey, x.Fit ∧ DsLe ds x.enc := by
  obtain ⟨d1, r1, rfl, h1, k1⟩ := typedFs_cons (typed_struct (by rfl) h)
  obtain ⟨d2, r2, rfl, h2, k2⟩ := typedFs_cons k1
  obtain rfl := typedFs_nil k2
  obtain ⟨n1, f1, e1⟩ := typed_int (by rfl) h1
  obtain ⟨n2, f2, e2⟩ := typed_int (by rfl) h2
  exact ⟨⟨n1, n2⟩, ⟨f1, f2, trivial⟩, e1.append (e2.append (.refl []))⟩

def HelloEntry.Fit (r : HelloEntry) : Prop := Fits r.Addr ∧ Fits r.Len ∧ Fits r.Cost ∧ Fits r.Label ∧ True
theorem typed_HelloEntry {f : Nat} {ds : List D} (h : Typed tb (f + 2) 25 ds) : ∃ x : HelloEntry, x.Fit ∧ DsLe ds x.enc := by
  obtain ⟨d1, r1, rfl, h1, k1⟩ := typedFs_cons (typed_struct (by rfl) h)
  obtain ⟨d2, r2, rfl, h2, k2⟩ := typedFs_cons k1
  obtain ⟨d3, r3, rfl, h3, k3⟩ := typedFs_cons k2
  obtain ⟨d4, r4, rfl, h4, k4⟩ := typedFs_cons k3
  obtain rfl := typedFs_nil k4
  obtain ⟨n1, f1, e1⟩ := typed_int (by rfl) h1
  obtain ⟨n2, f2, e2⟩ := typed_int (by rfl) h2
  obtain ⟨n3, f3, e3⟩ := typed_int (by rfl) h3
  obtain ⟨n4, f4, e4⟩ := typed_int (by rfl) h4
  exact ⟨⟨n1, n2, n3, n4⟩, ⟨f1, f2, f3, f4, trivial⟩, e1.append (e2.append (e3.append (e4.append (.refl []))))⟩

def HelloChange.Fit (r : HelloChange) : Prop := Fits r.Kind ∧ r.Entry.Fit ∧ True
theorem typed_HelloChange {f : Nat} {ds : List D} (h : Typed tb (f + 3) 27 ds) : ∃ x : HelloChange, x.Fit ∧ DsLe ds x.enc := by
  obtain ⟨d1, r1, rfl, h1, k1⟩ := typedFs_cons (typed_struct (by rfl) h)
  obtain ⟨d2, r2, rfl, h2, k2⟩ := typedFs_cons k1
  obtain rfl := typedFs_nil k2
  obtain ⟨n1, f1, e1⟩ := typed_int (by rfl) h1
  obtain ⟨n2, f2, e2⟩ := typed_HelloEntry h2
  exact ⟨⟨n1, n2⟩, ⟨f1, f2, trivial⟩, e1.append (e2.append (.refl []))⟩

def HelloRoute.Fit (r : HelloRoute) : Prop := r.Entry.Fit ∧ True ∧ True
theorem typed_HelloRoute {f : Nat} {ds : List D} (h : Typed tb (f + 3) 104 ds) : ∃ x : HelloRoute, x.Fit ∧ DsLe ds x.enc := by
  obtain ⟨d1, r1, rfl, h1, k1⟩ := typedFs_cons (typed_struct (by rfl) h)
  obtain ⟨d2, r2, rfl, h2, k2⟩ := typedFs_cons k1
  obtain rfl := typedFs_nil k2
  obtain ⟨n1, f1, e1⟩ := typed_HelloEntry h1
  obtain ⟨n2, e2⟩ := typed_bool (by rfl) h2
  have f2 : True := trivial
  exact ⟨⟨n1, n2⟩, ⟨f1, f2, trivial⟩, e1.append (e2.append (.refl []))⟩

def HelloEnd.Fit (r : HelloEnd) : Prop := Fits r.Name ∧ Fits r.Peer ∧ (r.Keys.length ≤ 9223372036854775807 ∧ ∀ x ∈ r.Keys, x.Fit) ∧ Fits r.Boot ∧ (r.Want.length ≤ 9223372036854775807 ∧ ∀ x ∈ r.Want, x.Fit) ∧ Fits r.Turn ∧ Fits r.PeerBoot ∧ Fits r.PeerTurn ∧ True ∧ Fits r.Left ∧ Fits r.Num ∧ r.Under.Fit ∧ (r.Told.length ≤ 9223372036854775807 ∧ ∀ x ∈ r.Told, x.Fit) ∧ True ∧ Fits r.Got ∧ True ∧ (r.Heard.length ≤ 9223372036854775807 ∧ ∀ x ∈ r.Heard, x.Fit) ∧ Fits r.Keep ∧ True
theorem typed_HelloEnd {f : Nat} {ds : List D} (h : Typed tb (f + 5) 30 ds) : ∃ x : HelloEnd, x.Fit ∧ DsLe ds x.enc := by
  obtain ⟨d1, r1, rfl, h1, k1⟩ := typedFs_cons (typed_struct (by rfl) h)
  obtain ⟨d2, r2, rfl, h2, k2⟩ := typedFs_cons k1
  obtain ⟨d3, r3, rfl, h3, k3⟩ := typedFs_cons k2
  obtain ⟨d4, r4, rfl, h4, k4⟩ := typedFs_cons k3
  obtain ⟨d5, r5, rfl, h5, k5⟩ := typedFs_cons k4
  obtain ⟨d6, r6, rfl, h6, k6⟩ := typedFs_cons k5
  obtain ⟨d7, r7, rfl, h7, k7⟩ := typedFs_cons k6
  obtain ⟨d8, r8, rfl, h8, k8⟩ := typedFs_cons k7
  obtain ⟨d9, r9, rfl, h9, k9⟩ := typedFs_cons k8
  obtain ⟨d10, r10, rfl, h10, k10⟩ := typedFs_cons k9
  obtain ⟨d11, r11, rfl, h11, k11⟩ := typedFs_cons k10
  obtain ⟨d12, r12, rfl, h12, k12⟩ := typedFs_cons k11
  obtain ⟨d13, r13, rfl, h13, k13⟩ := typedFs_cons k12
  obtain ⟨d14, r14, rfl, h14, k14⟩ := typedFs_cons k13
  obtain ⟨d15, r15, rfl, h15, k15⟩ := typedFs_cons k14
  obtain ⟨d16, r16, rfl, h16, k16⟩ := typedFs_cons k15
  obtain ⟨d17, r17, rfl, h17, k17⟩ := typedFs_cons k16
  obtain ⟨d18, r18, rfl, h18, k18⟩ := typedFs_cons k17
  obtain rfl := typedFs_nil k18
  obtain ⟨n1, f1, e1⟩ := typed_int (by rfl) h1
  obtain ⟨n2, f2, e2⟩ := typed_int (by rfl) h2
  obtain ⟨n3, a3, _, b3, e3⟩ := typed_sl (enc := HelloKey.enc) (ok := HelloKey.Fit) (by rfl) (by rfl) (fun _ hd => typed_HelloKey hd) h3
  have f3 := And.intro b3 a3
  obtain ⟨n4, f4, e4⟩ := typed_int (by rfl) h4
  obtain ⟨n5, a5, _, b5, e5⟩ := typed_sl (enc := HelloEntry.enc) (ok := HelloEntry.Fit) (by rfl) (by rfl) (fun _ hd => typed_HelloEntry hd) h5
  have f5 := And.intro b5 a5
  obtain ⟨n6, f6, e6⟩ := typed_int (by rfl) h6
  obtain ⟨n7, f7, e7⟩ := typed_int (by rfl) h7
  obtain ⟨n8, f8, e8⟩ := typed_int (by rfl) h8
  obtain ⟨n9, e9⟩ := typed_bool (by rfl) h9
  have f9 : True := trivial
  obtain ⟨n10, f10, e10⟩ := typed_int (by rfl) h10
  obtain ⟨n11, f11, e11⟩ := typed_int (by rfl) h11
  obtain ⟨n12, f12, e12⟩ := typed_HelloChange h12
  obtain ⟨n13, a13, _, b13, e13⟩ := typed_sl (enc := HelloEntry.enc) (ok := HelloEntry.Fit) (by rfl) (by rfl) (fun _ hd => typed_HelloEntry hd) h13
  have f13 := And.intro b13 a13
  obtain ⟨n14, e14⟩ := typed_bool (by rfl) h14
  have f14 : True := trivial
  obtain ⟨n15, f15, e15⟩ := typed_int (by rfl) h15
  obtain ⟨n16, e16⟩ := typed_bool (by rfl) h16
  have f16 : True := trivial
  obtain ⟨n17, a17, _, b17, e17⟩ := typed_sl (enc := HelloRoute.enc) (ok := HelloRoute.Fit) (by rfl) (by rfl) (fun _ hd => typed_HelloRoute hd) h17
  have f17 := And.intro b17 a17
  obtain ⟨n18, f18, e18⟩ := typed_int (by rfl) h18
  exact ⟨⟨n1, n2, n3, n4, n5, n6, n7, n8, n9, n10, n11, n12, n13, n14, n15, n16, n17, n18⟩, ⟨f1, f2, f3, f4, f5, f6, f7, f8, f9, f10, f11, f12, f13, f14, f15, f16, f17, f18, trivial⟩, e1.append (e2.append (e3.append (e4.append (e5.append (e6.append (e7.append (e8.append (e9.append (e10.append (e11.append (e12.append (e13.append (e14.append (e15.append (e16.append (e17.append (e18.append (.refl []))))))))))))))))))⟩

def HelloWord.Fit (r : HelloWord) : Prop := Fits r.From ∧ Fits r.To ∧ Fits r.Key ∧ Fits r.Boot ∧ Fits r.Yours ∧ Fits r.Turn ∧ Fits r.Num ∧ Fits r.Heard ∧ r.Change.Fit ∧ Fits r.Sum ∧ True
theorem typed_HelloWord {f : Nat} {ds : List D} (h : Typed tb (f + 4) 32 ds) : ∃ x : HelloWord, x.Fit ∧ DsLe ds x.enc := by
  obtain ⟨d1, r1, rfl, h1, k1⟩ := typedFs_cons (typed_struct (by rfl) h)
  obtain ⟨d2, r2, rfl, h2, k2⟩ := typedFs_cons k1
  obtain ⟨d3, r3, rfl, h3, k3⟩ := typedFs_cons k2
  obtain ⟨d4, r4, rfl, h4, k4⟩ := typedFs_cons k3
  obtain ⟨d5, r5, rfl, h5, k5⟩ := typedFs_cons k4
  obtain ⟨d6, r6, rfl, h6, k6⟩ := typedFs_cons k5
  obtain ⟨d7, r7, rfl, h7, k7⟩ := typedFs_cons k6
  obtain ⟨d8, r8, rfl, h8, k8⟩ := typedFs_cons k7
  obtain ⟨d9, r9, rfl, h9, k9⟩ := typedFs_cons k8
  obtain ⟨d10, r10, rfl, h10, k10⟩ := typedFs_cons k9
  obtain rfl := typedFs_nil k10
  obtain ⟨n1, f1, e1⟩ := typed_int (by rfl) h1
  obtain ⟨n2, f2, e2⟩ := typed_int (by rfl) h2
  obtain ⟨n3, f3, e3⟩ := typed_int (by rfl) h3
  obtain ⟨n4, f4, e4⟩ := typed_int (by rfl) h4
  obtain ⟨n5, f5, e5⟩ := typed_int (by rfl) h5
  obtain ⟨n6, f6, e6⟩ := typed_int (by rfl) h6
  obtain ⟨n7, f7, e7⟩ := typed_int (by rfl) h7
  obtain ⟨n8, f8, e8⟩ := typed_int (by rfl) h8
  obtain ⟨n9, f9, e9⟩ := typed_HelloChange h9
  obtain ⟨n10, f10, e10⟩ := typed_int (by rfl) h10
  exact ⟨⟨n1, n2, n3, n4, n5, n6, n7, n8, n9, n10⟩, ⟨f1, f2, f3, f4, f5, f6, f7, f8, f9, f10, trivial⟩, e1.append (e2.append (e3.append (e4.append (e5.append (e6.append (e7.append (e8.append (e9.append (e10.append (.refl []))))))))))⟩

end Go.Proofs.YtaoeomoepefojaaGreat
