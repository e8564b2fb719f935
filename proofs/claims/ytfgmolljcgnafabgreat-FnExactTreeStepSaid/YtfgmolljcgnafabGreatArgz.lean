/-
  How a law reads its arguments; no condition.
-/
import Derived.Test.YtfgmolljcgnafabGreatTyz
import Derived.Test.YtfgmolljcgnafabGreatTbz
set_option linter.all false
namespace Go.Proofs.YtfgmolljcgnafabGreat
open Go Go.Ab
set_option maxRecDepth 100000
def TreeVector.Fit (r:TreeVector):Prop := Fits r.Root ∧ Fits r.Cost ∧ Fits r.Age ∧ True
theorem typed_TreeVector {f:Nat} {ds:List D} (h:Typed tb (f + 2) 129 ds):∃ x:TreeVector,x.Fit ∧ DsLe ds x.enc := by
  obtain ⟨d1,r1,rfl,h1,k1⟩ := typedFs_cons (typed_struct (by rfl) h);obtain ⟨d2,r2,rfl,h2,k2⟩ := typedFs_cons k1;obtain ⟨d3,r3,rfl,h3,k3⟩ := typedFs_cons k2;obtain rfl := typedFs_nil k3;obtain ⟨n1,f1,e1⟩ := typed_int (by rfl) h1;obtain ⟨n2,f2,e2⟩ := typed_int (by rfl) h2;obtain ⟨n3,f3,e3⟩ := typed_int (by rfl) h3;exact ⟨⟨n1,n2,n3⟩,⟨f1,f2,f3,trivial⟩,e1.append (e2.append (e3.append (.refl [])))⟩
def TreeMind.Fit (r:TreeMind):Prop := r.Vector.Fit ∧ Fits r.Link ∧ True
theorem typed_TreeMind {f:Nat} {ds:List D} (h:Typed tb (f + 3) 131 ds):∃ x:TreeMind,x.Fit ∧ DsLe ds x.enc := by
  obtain ⟨d1,r1,rfl,h1,k1⟩ := typedFs_cons (typed_struct (by rfl) h);obtain ⟨d2,r2,rfl,h2,k2⟩ := typedFs_cons k1;obtain rfl := typedFs_nil k2;obtain ⟨n1,f1,e1⟩ := typed_TreeVector h1;obtain ⟨n2,f2,e2⟩ := typed_int (by rfl) h2;exact ⟨⟨n1,n2⟩,⟨f1,f2,trivial⟩,e1.append (e2.append (.refl []))⟩
def TreeBridge.Fit (r:TreeBridge):Prop := Fits r.Id ∧ True ∧ r.Mind.Fit ∧ True
theorem typed_TreeBridge {f:Nat} {ds:List D} (h:Typed tb (f + 4) 133 ds):∃ x:TreeBridge,x.Fit ∧ DsLe ds x.enc := by
  obtain ⟨d1,r1,rfl,h1,k1⟩ := typedFs_cons (typed_struct (by rfl) h);obtain ⟨d2,r2,rfl,h2,k2⟩ := typedFs_cons k1;obtain ⟨d3,r3,rfl,h3,k3⟩ := typedFs_cons k2;obtain rfl := typedFs_nil k3;obtain ⟨n1,f1,e1⟩ := typed_int (by rfl) h1;obtain ⟨n2,e2⟩ := typed_bool (by rfl) h2;have f2:True := trivial;obtain ⟨n3,f3,e3⟩ := typed_TreeMind h3;exact ⟨⟨n1,n2,n3⟩,⟨f1,f2,f3,trivial⟩,e1.append (e2.append (e3.append (.refl [])))⟩
def TreeLink.Fit (r:TreeLink):Prop := Fits r.A ∧ Fits r.B ∧ Fits r.Cost ∧ True
theorem typed_TreeLink {f:Nat} {ds:List D} (h:Typed tb (f + 2) 135 ds):∃ x:TreeLink,x.Fit ∧ DsLe ds x.enc := by
  obtain ⟨d1,r1,rfl,h1,k1⟩ := typedFs_cons (typed_struct (by rfl) h);obtain ⟨d2,r2,rfl,h2,k2⟩ := typedFs_cons k1;obtain ⟨d3,r3,rfl,h3,k3⟩ := typedFs_cons k2;obtain rfl := typedFs_nil k3;obtain ⟨n1,f1,e1⟩ := typed_int (by rfl) h1;obtain ⟨n2,f2,e2⟩ := typed_int (by rfl) h2;obtain ⟨n3,f3,e3⟩ := typed_int (by rfl) h3;exact ⟨⟨n1,n2,n3⟩,⟨f1,f2,f3,trivial⟩,e1.append (e2.append (e3.append (.refl [])))⟩
def TreeSlot.Fit (r:TreeSlot):Prop := r.Vector.Fit ∧ Fits r.Left ∧ True
theorem typed_TreeSlot {f:Nat} {ds:List D} (h:Typed tb (f + 3) 138 ds):∃ x:TreeSlot,x.Fit ∧ DsLe ds x.enc := by
  obtain ⟨d1,r1,rfl,h1,k1⟩ := typedFs_cons (typed_struct (by rfl) h);obtain ⟨d2,r2,rfl,h2,k2⟩ := typedFs_cons k1;obtain rfl := typedFs_nil k2;obtain ⟨n1,f1,e1⟩ := typed_TreeVector h1;obtain ⟨n2,f2,e2⟩ := typed_int (by rfl) h2;exact ⟨⟨n1,n2⟩,⟨f1,f2,trivial⟩,e1.append (e2.append (.refl []))⟩
def TreeWord.Fit (r:TreeWord):Prop := Fits r.Link ∧ Fits r.End ∧ r.Vector.Fit ∧ True
theorem typed_TreeWord {f:Nat} {ds:List D} (h:Typed tb (f + 3) 141 ds):∃ x:TreeWord,x.Fit ∧ DsLe ds x.enc := by
  obtain ⟨d1,r1,rfl,h1,k1⟩ := typedFs_cons (typed_struct (by rfl) h);obtain ⟨d2,r2,rfl,h2,k2⟩ := typedFs_cons k1;obtain ⟨d3,r3,rfl,h3,k3⟩ := typedFs_cons k2;obtain rfl := typedFs_nil k3;obtain ⟨n1,f1,e1⟩ := typed_int (by rfl) h1;obtain ⟨n2,f2,e2⟩ := typed_int (by rfl) h2;obtain ⟨n3,f3,e3⟩ := typed_TreeVector h3;exact ⟨⟨n1,n2,n3⟩,⟨f1,f2,f3,trivial⟩,e1.append (e2.append (e3.append (.refl [])))⟩
def TreeWorld.Fit (r:TreeWorld):Prop := (r.Bridges.length ≤ 9223372036854775807 ∧ ∀ x ∈ r.Bridges,x.Fit) ∧ (r.Links.length ≤ 9223372036854775807 ∧ ∀ x ∈ r.Links,x.Fit) ∧ (r.Down.length ≤ 9223372036854775807 ∧ ∀ x ∈ r.Down,Fits x) ∧ (r.AtA.length ≤ 9223372036854775807 ∧ ∀ x ∈ r.AtA,x.Fit) ∧ (r.AtB.length ≤ 9223372036854775807 ∧ ∀ x ∈ r.AtB,x.Fit) ∧ (r.Radio.length ≤ 9223372036854775807 ∧ ∀ x ∈ r.Radio,x.Fit) ∧ True
theorem typed_TreeWorld {f:Nat} {ds:List D} (h:Typed tb (f + 6) 52 ds):∃ x:TreeWorld,x.Fit ∧ DsLe ds x.enc := by
  obtain ⟨d1,r1,rfl,h1,k1⟩ := typedFs_cons (typed_struct (by rfl) h);obtain ⟨d2,r2,rfl,h2,k2⟩ := typedFs_cons k1;obtain ⟨d3,r3,rfl,h3,k3⟩ := typedFs_cons k2;obtain ⟨d4,r4,rfl,h4,k4⟩ := typedFs_cons k3;obtain ⟨d5,r5,rfl,h5,k5⟩ := typedFs_cons k4;obtain ⟨d6,r6,rfl,h6,k6⟩ := typedFs_cons k5;obtain rfl := typedFs_nil k6;obtain ⟨n1,a1,_,b1,e1⟩ := typed_sl (enc := TreeBridge.enc) (ok := TreeBridge.Fit) (by rfl) (by rfl) (fun _ hd => typed_TreeBridge hd) h1;have f1 := And.intro b1 a1;obtain ⟨n2,a2,_,b2,e2⟩ := typed_sl (enc := TreeLink.enc) (ok := TreeLink.Fit) (by rfl) (by rfl) (fun _ hd => typed_TreeLink hd) h2;have f2 := And.intro b2 a2;obtain ⟨n3,a3,_,b3,e3⟩ := typed_sl (enc := encInt) (ok := Fits) (by rfl) (by rfl) (fun _ hd => typed_int (by rfl) hd) h3;have f3 := And.intro b3 a3;obtain ⟨n4,a4,_,b4,e4⟩ := typed_sl (enc := TreeSlot.enc) (ok := TreeSlot.Fit) (by rfl) (by rfl) (fun _ hd => typed_TreeSlot hd) h4;have f4 := And.intro b4 a4;obtain ⟨n5,a5,_,b5,e5⟩ := typed_sl (enc := TreeSlot.enc) (ok := TreeSlot.Fit) (by rfl) (by rfl) (fun _ hd => typed_TreeSlot hd) h5;have f5 := And.intro b5 a5;obtain ⟨n6,a6,_,b6,e6⟩ := typed_sl (enc := TreeWord.enc) (ok := TreeWord.Fit) (by rfl) (by rfl) (fun _ hd => typed_TreeWord hd) h6;have f6 := And.intro b6 a6;exact ⟨⟨n1,n2,n3,n4,n5,n6⟩,⟨f1,f2,f3,f4,f5,f6,trivial⟩,e1.append (e2.append (e3.append (e4.append (e5.append (e6.append (.refl []))))))⟩
def TreeEvent.Fit (r:TreeEvent):Prop := Fits r.Kind ∧ Fits r.At ∧ Fits r.End ∧ True
theorem typed_TreeEvent {f:Nat} {ds:List D} (h:Typed tb (f + 2) 53 ds):∃ x:TreeEvent,x.Fit ∧ DsLe ds x.enc := by
  obtain ⟨d1,r1,rfl,h1,k1⟩ := typedFs_cons (typed_struct (by rfl) h);obtain ⟨d2,r2,rfl,h2,k2⟩ := typedFs_cons k1;obtain ⟨d3,r3,rfl,h3,k3⟩ := typedFs_cons k2;obtain rfl := typedFs_nil k3;obtain ⟨n1,f1,e1⟩ := typed_int (by rfl) h1;obtain ⟨n2,f2,e2⟩ := typed_int (by rfl) h2;obtain ⟨n3,f3,e3⟩ := typed_int (by rfl) h3;exact ⟨⟨n1,n2,n3⟩,⟨f1,f2,f3,trivial⟩,e1.append (e2.append (e3.append (.refl [])))⟩
end Go.Proofs.YtfgmolljcgnafabGreat
