/-
  Plain Lean: a flow goes out: what becomes of the book, and that it stays ok.
-/
import Derived.Test.YtaoeomoepefojabKz3
import Derived.Test.YtaoeomoepefojabNatVz
set_option linter.all false
namespace Go.Proofs.Ytaoeomoepefojab
open Go Go.Ab
set_option maxHeartbeats 400000

def doorFor (b : NatBook) (f : NatFlow) (i : Nat) : Bool := (b.Doors.getD i default).Kind == f.Kind && (b.Doors.getD i default).Inner == f.From && (b.Doors.getD i default).InnerPort == f.FromPort
def entFor (b : NatBook) (f : NatFlow) (i : Nat) : Bool := flowEq (b.Entries.getD i default).flow f && live b (b.Entries.getD i default)
def takes (f : NatFlow) (p : Int) (e : NatEntry) : Bool := e.Kind == f.Kind && e.Peer == f.To && e.PeerPort == f.ToPort && e.Outer == p
def taken (b : NatBook) (f : NatFlow) (p : Int) : Bool := b.Entries.any (takes f p)
def freePort (b : NatBook) (f : NatFlow) : Int := ((firstR (fun i => !taken b f (b.Low + (i : Int))) (b.High - b.Low + 1).toNat).map fun i => b.Low + (i : Int)).getD 0
def putE (xs : List NatEntry) (e : NatEntry) : List NatEntry := xs.takeWhile (fun x => entryLess x e) ++ e :: xs.dropWhile (fun x => entryLess x e)
def noFlow : NatFlow := ⟨0, 0, 0, 0, 0⟩
def noBook0 : NatBook := ⟨0, 0, 0, 0, 0, [], 0, []⟩
def under (b : NatBook) (f : NatFlow) (p : Int) : NatFlow := ⟨f.Kind, b.Own, p, f.To, f.ToPort⟩
def newE (b : NatBook) (f : NatFlow) (p : Int) : NatEntry := ⟨f.Kind, f.To, f.ToPort, p, f.From, f.FromPort, b.Now⟩
def seen (b : NatBook) (e : NatEntry) : NatEntry := { e with Last := b.Now }
def outOf (b : NatBook) (f : NatFlow) : NatBook × NatFlow × Int :=
  match firstR (doorFor b f) b.Doors.length with
  | some i => (b, under b f (b.Doors.getD i default).Outer, 0)
  | none => match firstR (entFor b f) b.Entries.length with
    | some k => ({ b with Entries := b.Entries.set k (seen b (b.Entries.getD k default)) }, under b f (b.Entries.getD k default).Outer, 0)
    | none => if b.Entries.length = 16 then (b, noFlow, 4) else if freePort b f = 0 then (b, noFlow, 5) else ({ b with Entries := putE b.Entries (newE b f (freePort b f)) }, under b f (freePort b f), 0)
def natOut (b : NatBook) (f : NatFlow) : NatBook × NatFlow × Int :=
  if b.ok = false then (noBook0, noFlow, 1) else if flowOk f = false then (b, noFlow, 2)
  else if b.inside f.From = false ∨ b.inside f.To = true ∨ f.To = b.Own then (b, noFlow, 3) else outOf b f

theorem flowEq_iff {f g : NatFlow} : flowEq f g = true ↔ f = g := by
  obtain ⟨a1, a2, a3, a4, a5⟩ := f
  obtain ⟨b1, b2, b3, b4, b5⟩ := g
  simp only [flowEq, Bool.and_eq_true, beq_iff_eq, NatFlow.mk.injEq, and_assoc]
theorem takes_iff {f : NatFlow} {p : Int} {e : NatEntry} : takes f p e = true ↔ e.Kind = f.Kind ∧ e.Peer = f.To ∧ e.PeerPort = f.ToPort ∧ e.Outer = p := by
  simp only [takes, Bool.and_eq_true, beq_iff_eq, and_assoc]
theorem taken_false {b : NatBook} {f : NatFlow} {p : Int} : taken b f p = false ↔ ∀ e ∈ b.Entries, takes f p e = false := by
  unfold taken
  rw [List.any_eq_false]
  exact forall_congr' fun e => imp_congr Iff.rfl (by simp)
theorem getD_mem {α : Type} [Inhabited α] {xs : List α} {i : Nat} (h : i < xs.length) : xs.getD i default ∈ xs := by
  rw [List.getD_eq_getElem?_getD, List.getElem?_eq_getElem h]
  exact List.getElem_mem h
theorem mem_getD {α : Type} [Inhabited α] {xs : List α} {x : α} (h : x ∈ xs) : ∃ i, i < xs.length ∧ xs.getD i default = x := by
  obtain ⟨i, hi, e⟩ := List.getElem_of_mem h
  exact ⟨i, hi, by rw [List.getD_eq_getElem?_getD, List.getElem?_eq_getElem hi]; exact e⟩
theorem firstR_none_iff {p : Nat → Bool} {n : Nat} : firstR p n = none ↔ ∀ k, k < n → p k = false := by
  refine ⟨firstR_none, fun h => ?_⟩
  cases e : firstR p n with
  | none => rfl
  | some i =>
    obtain ⟨h1, h2, _⟩ := firstR_some e
    rw [h i h1] at h2
    cases h2
theorem free_spec {b : NatBook} {f : NatFlow} (hf : b.frameOk = true) (h : freePort b f ≠ 0) : b.Low ≤ freePort b f ∧ freePort b f ≤ b.High ∧ taken b f (freePort b f) = false := by
  cases e : firstR (fun i => !taken b f (b.Low + (i : Int))) (b.High - b.Low + 1).toNat with
  | none => exact absurd (by unfold freePort; rw [e]; rfl) h
  | some i =>
    obtain ⟨h1, h2, _⟩ := firstR_some e
    have ev : freePort b f = b.Low + (i : Int) := by unfold freePort; rw [e]; rfl
    rw [ev]
    exact ⟨by omega, by omega, by simpa using h2⟩
/-- A port that nobody has, and no less one that nobody has: that is it. -/
theorem free_low {b : NatBook} {f : NatFlow} (hf : b.Low ≤ b.High) (h : taken b f b.Low = false) : freePort b f = b.Low := by
  unfold freePort
  cases e : firstR (fun i => !taken b f (b.Low + (i : Int))) (b.High - b.Low + 1).toNat with
  | none =>
    have := firstR_none e 0 (by omega)
    simp [h] at this
  | some i =>
    obtain ⟨h1, h2, h3⟩ := firstR_some e
    rcases Nat.eq_zero_or_pos i with h0 | h0
    · subst h0; simp
    · have := h3 0 h0
      simp [h] at this
theorem mem_putE {xs : List NatEntry} {e x : NatEntry} : x ∈ putE xs e ↔ x = e ∨ x ∈ xs := by
  unfold putE
  rw [List.mem_append, List.mem_cons]
  conv => rhs; rw [← List.takeWhile_append_dropWhile (p := fun x => entryLess x e) (l := xs), List.mem_append]
  constructor
  · rintro (h | h | h)
    · exact .inr (.inl h)
    · exact .inl h
    · exact .inr (.inr h)
  · rintro (h | h | h)
    · exact .inr (.inl h)
    · exact .inl h
    · exact .inr (.inr h)
theorem len_putE {xs : List NatEntry} {e : NatEntry} : (putE xs e).length = xs.length + 1 := by
  unfold putE
  have := congrArg List.length (List.takeWhile_append_dropWhile (p := fun x => entryLess x e) (l := xs))
  rw [List.length_append] at this
  rw [List.length_append, List.length_cons]
  omega
/-- Into its place. -/
theorem pair_putE {R : NatEntry → NatEntry → Prop} {e : NatEntry} : ∀ {xs : List NatEntry}, xs.Pairwise (fun x y => entryLess x y = true ∧ R x y) → (∀ x ∈ xs, (entryLess x e = true ∧ R x e) ∨ (entryLess e x = true ∧ R e x)) → (∀ x y, R x y → R y x) →
    (putE xs e).Pairwise fun x y => entryLess x y = true ∧ R x y
  | [], _, _, _ => by simp [putE]
  | y :: r, h, k, sy => by
    have hr := List.pairwise_cons.1 h
    have ih := pair_putE hr.2 (fun x hx => k x (List.mem_cons_of_mem _ hx)) sy
    unfold putE at ih ⊢
    rw [List.takeWhile_cons, List.dropWhile_cons]
    cases hy : entryLess y e
    · simp only [Bool.false_eq_true, if_false, List.nil_append]
      have ky : entryLess e y = true ∧ R e y := (k y List.mem_cons_self).resolve_left fun q => by rw [hy] at q; cases q.1
      refine List.pairwise_cons.2 ⟨fun x hx => ?_, h⟩
      rcases List.mem_cons.1 hx with hx | hx
      · subst hx; exact ky
      · have hl := entryLess_trans ky.1 (hr.1 x hx).1
        refine ⟨hl, ?_⟩
        rcases k x (List.mem_cons_of_mem _ hx) with q | q
        · exact sy _ _ q.2
        · exact q.2
    · simp only [if_true, List.cons_append]
      refine List.pairwise_cons.2 ⟨fun x hx => ?_, ih⟩
      have hx' : x ∈ putE r e := hx
      rcases mem_putE.1 hx' with hx | hx
      · subst hx
        refine ⟨hy, ?_⟩
        rcases k y List.mem_cons_self with q | q
        · exact q.2
        · exact sy _ _ q.2
      · exact hr.1 x hx
theorem entryLess_total {e f : NatEntry} (h : ¬ (e.Kind = f.Kind ∧ e.Peer = f.Peer ∧ e.PeerPort = f.PeerPort ∧ e.Outer = f.Outer)) : entryLess e f = true ∨ entryLess f e = true := by
  rw [entryLess_iff, entryLess_iff]
  omega
theorem clash_symm {b : NatBook} {e f : NatEntry} (h : entryClash b e f = false) : entryClash b f e = false := by
  cases hc : entryClash b f e
  · rfl
  · unfold entryClash at *
    rw [Bool.and_eq_true, Bool.and_eq_true, flowEq_iff] at hc
    rw [hc.1.1, hc.1.2, hc.2, flowEq_iff.2 rfl] at h
    cases h
theorem frame_range {b : NatBook} (h : b.frameOk = true) : 0 ≤ b.Own ∧ b.Own ≤ 65535 ∧ b.inside b.Own = false ∧ 1 ≤ b.Low ∧ b.Low ≤ b.High ∧ b.High ≤ 65535 ∧ 0 ≤ b.Now ∧ b.Now ≤ 1000000 := by
  simp only [NatBook.frameOk, Bool.and_eq_true, decide_eq_true_eq, Bool.not_eq_true'] at h
  obtain ⟨⟨⟨⟨⟨⟨⟨⟨f1, f2⟩, f3⟩, f4⟩, f5⟩, f6⟩, f7⟩, f8⟩, f9⟩ := h
  exact ⟨f2, f3, f4, f5, f6, f7, f8, f9⟩
structure FlowIn (f : NatFlow) : Prop where
  k : 1 ≤ f.Kind ∧ f.Kind ≤ 7
  from_ : 0 ≤ f.From ∧ f.From ≤ 65535
  to : 0 ≤ f.To ∧ f.To ≤ 65535
  fp : 1 ≤ f.FromPort ∧ f.FromPort ≤ 65535
  tp : 1 ≤ f.ToPort ∧ f.ToPort ≤ 65535
theorem flowOk_iff {f : NatFlow} : flowOk f = true ↔ FlowIn f := by
  simp only [flowOk, Bool.and_eq_true, decide_eq_true_eq]
  exact ⟨fun h => ⟨by omega, by omega, by omega, by omega, by omega⟩, fun ⟨h1, h2, h3, h4, h5⟩ => ⟨⟨⟨⟨⟨⟨⟨⟨⟨by omega, by omega⟩, by omega⟩, by omega⟩, by omega⟩, by omega⟩, by omega⟩, by omega⟩, by omega⟩, by omega⟩⟩
structure EntIn (b : NatBook) (e : NatEntry) : Prop where
  k : 1 ≤ e.Kind ∧ e.Kind ≤ 7
  peer : 0 ≤ e.Peer ∧ e.Peer ≤ 65535
  out : b.inside e.Peer = false
  own : e.Peer ≠ b.Own
  pp : 1 ≤ e.PeerPort ∧ e.PeerPort ≤ 65535
  outer : b.Low ≤ e.Outer ∧ e.Outer ≤ b.High
  ins : b.inside e.Inner = true
  ip : 1 ≤ e.InnerPort ∧ e.InnerPort ≤ 65535
  last : 0 ≤ e.Last ∧ e.Last ≤ b.Now
  age : b.Now - e.Last < 12
theorem entryOk_iff {b : NatBook} {e : NatEntry} : entryOk b e = true ↔ EntIn b e := by
  simp only [entryOk, Bool.and_eq_true, decide_eq_true_eq, Bool.not_eq_true', beq_eq_false_iff_ne]
  constructor
  · rintro ⟨⟨⟨⟨⟨⟨⟨⟨⟨⟨⟨⟨⟨⟨⟨a1, a2⟩, a3⟩, a4⟩, a5⟩, a6⟩, a7⟩, a8⟩, a9⟩, b1⟩, b2⟩, b3⟩, b4⟩, b5⟩, b6⟩, b7⟩
    exact ⟨⟨a1, a2⟩, ⟨a3, a4⟩, a5, a6, ⟨a7, a8⟩, ⟨a9, b1⟩, b2, ⟨b3, b4⟩, ⟨b5, b6⟩, b7⟩
  · rintro ⟨⟨a1, a2⟩, ⟨a3, a4⟩, a5, a6, ⟨a7, a8⟩, ⟨a9, b1⟩, b2, ⟨b3, b4⟩, ⟨b5, b6⟩, b7⟩
    exact ⟨⟨⟨⟨⟨⟨⟨⟨⟨⟨⟨⟨⟨⟨⟨a1, a2⟩, a3⟩, a4⟩, a5⟩, a6⟩, a7⟩, a8⟩, a9⟩, b1⟩, b2⟩, b3⟩, b4⟩, b5⟩, b6⟩, b7⟩

/-- How a flow goes out of an ok book. -/
inductive Went (b : NatBook) (f : NatFlow) : NatBook × NatFlow × Int → Prop
  | door (d : NatDoor) : d ∈ b.Doors → d.Kind = f.Kind → d.Inner = f.From → d.InnerPort = f.FromPort → Went b f (b, under b f d.Outer, 0)
  | old (l r : List NatEntry) (e : NatEntry) : (∀ d ∈ b.Doors, ¬ (d.Kind = f.Kind ∧ d.Inner = f.From ∧ d.InnerPort = f.FromPort)) → b.Entries = l ++ e :: r → e.flow = f → live b e = true → (∀ x ∈ l, live b x = true → x.flow ≠ f) →
      Went b f ({ b with Entries := l ++ seen b e :: r }, under b f e.Outer, 0)
  | new (p : Int) : (∀ d ∈ b.Doors, ¬ (d.Kind = f.Kind ∧ d.Inner = f.From ∧ d.InnerPort = f.FromPort)) → (∀ x ∈ b.Entries, live b x = true → x.flow ≠ f) → b.Entries.length < 16 → b.Low ≤ p → p ≤ b.High → (∀ x ∈ b.Entries, takes f p x = false) → p = freePort b f →
      Went b f ({ b with Entries := putE b.Entries (newE b f p) }, under b f p, 0)
structure Goes (b : NatBook) (f : NatFlow) : Prop where
  flow : FlowIn f
  from_ : b.inside f.From = true
  to : b.inside f.To = false
  own : f.To ≠ b.Own
theorem natOut_cases {b : NatBook} (hb : b.ok = true) (f : NatFlow) : (∃ c : Int, c ≠ 0 ∧ natOut b f = (b, noFlow, c)) ∨ (Goes b f ∧ Went b f (natOut b f)) := by
  obtain ⟨hf, hd, he⟩ := ok_parts.1 hb
  obtain ⟨e1, e2, e3⟩ := entries_iff.1 he
  have fr := frame_range hf
  unfold natOut
  rw [if_neg (by rw [hb]; decide)]
  cases h1 : flowOk f
  · exact .inl ⟨2, by decide, by rw [if_pos rfl]⟩
  · rw [if_neg (by decide)]
    by_cases h2 : b.inside f.From = false ∨ b.inside f.To = true ∨ f.To = b.Own
    · exact .inl ⟨3, by decide, by rw [if_pos h2]⟩
    · rw [if_neg h2]
      have g : Goes b f := ⟨flowOk_iff.1 h1, Bool.not_eq_false _ |>.mp fun q => h2 (.inl q), Bool.not_eq_true _ |>.mp fun q => h2 (.inr (.inl q)), fun q => h2 (.inr (.inr q))⟩
      unfold outOf
      cases hD : firstR (doorFor b f) b.Doors.length with
      | some i =>
        obtain ⟨q1, q2, _⟩ := firstR_some hD
        simp only [doorFor, Bool.and_eq_true, beq_iff_eq] at q2
        exact .inr ⟨g, .door _ (getD_mem q1) q2.1.1 q2.1.2 q2.2⟩
      | none =>
        have nd : ∀ d ∈ b.Doors, ¬ (d.Kind = f.Kind ∧ d.Inner = f.From ∧ d.InnerPort = f.FromPort) := fun d hd' q => by
          obtain ⟨i, hi, rfl⟩ := mem_getD hd'
          have := firstR_none hD i hi
          unfold doorFor at this
          rw [q.1, q.2.1, q.2.2] at this
          simp at this
        dsimp only
        cases hE : firstR (entFor b f) b.Entries.length with
        | some k =>
          obtain ⟨q1, q2, q3⟩ := firstR_some hE
          simp only [entFor, Bool.and_eq_true, flowEq_iff] at q2
          have eg : b.Entries.getD k default = b.Entries[k] := by rw [List.getD_eq_getElem?_getD, List.getElem?_eq_getElem q1]; rfl
          have es : b.Entries = b.Entries.take k ++ b.Entries.getD k default :: b.Entries.drop (k + 1) := by
            rw [eg]
            simp
          have et : b.Entries.set k (seen b (b.Entries.getD k default)) = b.Entries.take k ++ seen b (b.Entries.getD k default) :: b.Entries.drop (k + 1) := by
            rw [List.set_eq_take_append_cons_drop, if_pos q1]
          dsimp only
          rw [et]
          refine .inr ⟨g, .old _ _ _ nd es q2.1 q2.2 fun x hx hl hxf => ?_⟩
          obtain ⟨j, hj, rfl⟩ := List.getElem_of_mem hx
          rw [List.length_take] at hj
          have := q3 j (by omega)
          rw [List.getElem_take] at hl hxf
          simp [entFor, List.getD_eq_getElem?_getD, List.getElem?_eq_getElem (show j < b.Entries.length by omega), hl, hxf, flowEq_iff.2] at this
        | none =>
          have ne : ∀ x ∈ b.Entries, live b x = true → x.flow ≠ f := fun x hx hl hxf => by
            obtain ⟨i, hi, rfl⟩ := mem_getD hx
            have := firstR_none hE i hi
            simp only [entFor, hl, flowEq_iff.2 hxf] at this
            cases this
          dsimp only
          by_cases h3 : b.Entries.length = 16
          · exact .inl ⟨4, by decide, by rw [if_pos h3]⟩
          · rw [if_neg h3]
            by_cases h4 : freePort b f = 0
            · exact .inl ⟨5, by decide, by rw [if_pos h4]⟩
            · rw [if_neg h4]
              obtain ⟨p1, p2, p3⟩ := free_spec hf h4
              exact .inr ⟨g, .new _ nd ne (by omega) p1 p2 (taken_false.1 p3) rfl⟩

theorem live_seen {b : NatBook} (h : 0 ≤ b.Now ∧ b.Now ≤ 1000000) (e : NatEntry) : live b (seen b e) = true := by
  unfold live ageW seen
  dsimp only
  rw [wrap_i64 (by omega) (by omega), decide_eq_true_eq]
  omega
/-- The book stays ok. -/
theorem went_ok {b : NatBook} (hb : b.ok = true) {f : NatFlow} (g : Goes b f) {x : NatBook × NatFlow × Int} (h : Went b f x) : x.1.ok = true := by
  obtain ⟨hf, hd, he⟩ := ok_parts.1 hb
  obtain ⟨e1, e2, e3⟩ := entries_iff.1 he
  have fr := frame_range hf
  cases h with
  | door d h1 h2 h3 h4 => exact hb
  | old l r e nd es ef el hl =>
    refine ok_parts.2 ⟨hf, hd, entries_iff.2 ⟨?_, fun y hy => ?_, ?_⟩⟩
    · rw [es] at e1; simpa using e1
    · have hy' : y ∈ l ++ seen b e :: r := hy
      show entryOk b y = true
      rcases List.mem_append.1 hy' with q | q
      · exact e2 y (by rw [es]; exact List.mem_append_left _ q)
      · rcases List.mem_cons.1 q with q | q
        · have := entryOk_iff.1 (e2 e (by rw [es]; simp))
          rw [q]
          exact entryOk_iff.2 ⟨this.k, this.peer, this.out, this.own, this.pp, this.outer, this.ins, this.ip, ⟨fr.2.2.2.2.2.2.1, Int.le_refl _⟩, by show b.Now - b.Now < 12; omega⟩
        · exact e2 y (by rw [es]; exact List.mem_append_right _ (List.mem_cons_of_mem _ q))
    · rw [es] at e3
      show (l ++ seen b e :: r).Pairwise (EntR b)
      have sl := live_seen (b := b) ⟨fr.2.2.2.2.2.2.1, fr.2.2.2.2.2.2.2⟩ e
      have r1 : ∀ y, EntR b y e → EntR b y (seen b e) := fun y ⟨a1, a2⟩ => ⟨a1, by
        have k : (seen b e).flow = e.flow := rfl
        unfold entryClash at a2 ⊢
        rw [k, sl]
        rwa [el] at a2⟩
      have r2 : ∀ y, EntR b e y → EntR b (seen b e) y := fun y ⟨a1, a2⟩ => ⟨a1, by
        have k : (seen b e).flow = e.flow := rfl
        unfold entryClash at a2 ⊢
        rw [k, sl]
        rwa [el] at a2⟩
      rw [List.pairwise_append, List.pairwise_cons] at e3 ⊢
      refine ⟨e3.1, ⟨fun y hy => r2 y (e3.2.1.1 y hy), e3.2.1.2⟩, fun y hy z hz => ?_⟩
      rcases List.mem_cons.1 hz with q | q
      · rw [q]; exact r1 y (e3.2.2 y hy e List.mem_cons_self)
      · exact e3.2.2 y hy z (List.mem_cons_of_mem _ q)
  | new p nd ne hl p1 p2 pt pe =>
    refine ok_parts.2 ⟨hf, hd, entries_iff.2 ⟨?_, fun y hy => ?_, ?_⟩⟩
    · show (putE _ _).length ≤ 16
      rw [len_putE]; omega
    · have hy' : y ∈ putE b.Entries (newE b f p) := hy
      show entryOk b y = true
      rcases mem_putE.1 hy' with q | q
      · rw [q]
        have gf := g.flow
        exact entryOk_iff.2 ⟨gf.k, gf.to, g.to, g.own, gf.tp, ⟨p1, p2⟩, g.from_, gf.fp, ⟨fr.2.2.2.2.2.2.1, Int.le_refl _⟩, by show b.Now - b.Now < 12; omega⟩
      · exact e2 y q
    · show (putE b.Entries (newE b f p)).Pairwise (EntR b)
      refine pair_putE (R := fun x y => entryClash b x y = false) e3 (fun x hx => ?_) fun x y => clash_symm
      have c1 : entryClash b x (newE b f p) = false := by
        cases hc : entryClash b x (newE b f p)
        · rfl
        · unfold entryClash at hc
          rw [Bool.and_eq_true, Bool.and_eq_true, flowEq_iff] at hc
          exact absurd hc.1.1 (ne x hx hc.2)
      rcases entryLess_total (e := x) (f := newE b f p) (fun q => by
        have := pt x hx
        have t : takes f p x = true := takes_iff.2 ⟨q.1, q.2.1, q.2.2.1, q.2.2.2⟩
        rw [t] at this
        cases this) with q | q
      · exact .inl ⟨q, c1⟩
      · exact .inr ⟨q, clash_symm c1⟩
theorem natOut_ok {b : NatBook} (hb : b.ok = true) (f : NatFlow) : (natOut b f).1.ok = true := by
  rcases natOut_cases hb f with ⟨c, _, e⟩ | ⟨g, w⟩
  · rw [e]; exact hb
  · exact went_ok hb g w

end Go.Proofs.Ytaoeomoepefojab
