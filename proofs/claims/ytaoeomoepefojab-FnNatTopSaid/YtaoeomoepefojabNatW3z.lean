/-
  Plain Lean: who asked: what went out, and the entries of the book.
-/
import Derived.Test.YtaoeomoepefojabKz3
import Derived.Test.YtaoeomoepefojabNatW2z
import Derived.Test.YtaoeomoepefojabTyz
set_option linter.all false
namespace Go.Proofs.Ytaoeomoepefojab
open Go Go.Ab
set_option maxHeartbeats 400000

/-- An entry as it is outside. -/
@[reducible] def eo (b : NatBook) (e : NatEntry) : NatFlow := ⟨e.Kind, b.Own, e.Outer, e.Peer, e.PeerPort⟩
def byDoor (b : NatBook) (r : wvWent) : Prop := ∃ d ∈ b.Doors, d.Kind = r.Out.Kind ∧ d.Outer = r.Out.FromPort ∧ r.In = ⟨r.Out.Kind, d.Inner, d.InnerPort, r.Out.To, r.Out.ToPort⟩
structure Inv (b : NatBook) (went : List wvWent) : Prop where
  ok : b.ok = true
  at_ : ∀ r ∈ went, 0 ≤ r.At ∧ r.At ≤ b.Now
  rcd : ∀ r ∈ went, byDoor b r ∨ 12 ≤ b.Now - r.At ∨ ∃ e ∈ b.Entries, eo b e = r.Out ∧ e.flow = r.In ∧ r.At ≤ e.Last
  last : ∀ e ∈ b.Entries, ∃ l r t, went = l ++ r :: t ∧ r.Out = eo b e ∧ r.In = e.flow ∧ r.At = e.Last ∧ ∀ x ∈ t, x.Out ≠ eo b e
theorem Inv.nil {b : NatBook} (hb : b.ok = true) (he : b.Entries = []) : Inv b [] := ⟨hb, fun r h => by simp at h, fun r h => by simp at h, fun e h => by rw [he] at h; simp at h⟩
/-- A tick. -/
theorem Inv.tick {b : NatBook} {went : List wvWent} (h : Inv b went) (hn : b.Now ≠ 1000000) : Inv (tickOf b) went := by
  obtain ⟨t1, t2⟩ := tick_ok h.ok hn
  have nw := now_in h.ok
  have e2 := (entries_iff.1 (ok_parts.1 h.ok).2.2).2.1
  refine ⟨t1, fun r hr => ⟨(h.at_ r hr).1, by have := (h.at_ r hr).2; omega⟩, fun r hr => ?_, fun e he => h.last e (List.mem_filter.1 he).1⟩
  rcases h.rcd r hr with q | q | ⟨e, he, q1, q2, q3⟩
  · exact .inl q
  · exact .inr (.inl (by omega))
  · have ho := entryOk_last (e2 e he)
    by_cases c : keepW (IntKind.i64.wrap (b.Now + 1)) e = true
    · exact .inr (.inr ⟨e, List.mem_filter.2 ⟨he, c⟩, q1, q2, q3⟩)
    · have : ¬ (b.Now + 1 - e.Last < 12) := fun q => c ((keep_iff nw ⟨ho.1, ho.2.1⟩).2 q)
      exact .inr (.inl (by omega))
/-- What goes out. -/
structure OutS (b : NatBook) (f : NatFlow) (x : NatBook) (g : NatFlow) : Prop where
  now : x.Now = b.Now
  own : x.Own = b.Own
  doors : x.Doors = b.Doors
  low : x.Low = b.Low ∧ x.High = b.High
  ins : ∀ a, x.inside a = b.inside a
  ok : x.ok = true
  eq : ∀ e ∈ x.Entries, eo b e = g → e.flow = f ∧ e.Last = b.Now
  ne : ∀ e ∈ x.Entries, eo b e ≠ g → e ∈ b.Entries
  keep : ∀ e ∈ b.Entries, ∃ e' ∈ x.Entries, eo b e' = eo b e ∧ e'.flow = e.flow ∧ e.Last ≤ e'.Last
  how : (∃ d ∈ b.Doors, d.Kind = g.Kind ∧ d.Outer = g.FromPort ∧ f = ⟨g.Kind, d.Inner, d.InnerPort, g.To, g.ToPort⟩) ∨ (b.Low ≤ g.FromPort ∧ g.FromPort ≤ b.High ∧ (∃ e ∈ x.Entries, eo b e = g ∧ e.flow = f ∧ e.Last = b.Now) ∧ ∀ e ∈ b.Entries, eo b e = g → e.flow = f)
theorem out_s {b : NatBook} (hb : b.ok = true) {f : NatFlow} (h : (natOut b f).2.2 = 0) : OutS b f (natOut b f).1 (natOut b f).2.1 := by
  have hf := (ok_parts.1 hb).1
  have fr := frame_range hf
  have e2 := (entries_iff.1 (ok_parts.1 hb).2.2).2.1
  rcases natOut_cases hb f with ⟨c, hc, e⟩ | ⟨g, w⟩
  · rw [e] at h; exact absurd h hc
  · have ok := went_ok hb g w
    generalize natOut b f = x at *
    cases w with
    | door d d1 d2 d3 d4 =>
      have D := door_ok hb d1
      refine ⟨rfl, rfl, rfl, ⟨rfl, rfl⟩, fun _ => rfl, ok, fun e he q => ?_, fun e he _ => he, fun e he => ⟨e, he, rfl, rfl, Int.le_refl _⟩, .inl ⟨d, d1, d2, rfl, ?_⟩⟩
      · have E := entryOk_iff.1 (e2 e he)
        have : e.Outer = d.Outer := congrArg NatFlow.FromPort q
        have o := E.outer
        rw [this] at o
        exact absurd o D.2.2.1
      · rw [d3, d4]; rfl
    | old l r e nd es ef el hl =>
      have m : seen b e ∈ (l ++ seen b e :: r) := by simp
      have me : e ∈ b.Entries := by rw [es]; simp
      have E := entryOk_iff.1 (e2 e me)
      subst ef
      have key : ∀ y ∈ l ++ seen b e :: r, eo b y = eo b e → y = seen b e := fun y hy q => same_outer ok hy m ⟨congrArg NatFlow.Kind q, congrArg NatFlow.To q, congrArg NatFlow.ToPort q, congrArg NatFlow.FromPort q⟩
      refine ⟨rfl, rfl, rfl, ⟨rfl, rfl⟩, fun _ => rfl, ok, fun y hy q => ?_, fun y hy q => ?_, fun y hy => ?_, .inr ⟨E.outer.1, E.outer.2, ⟨_, m, rfl, rfl, rfl⟩, fun y hy q => ?_⟩⟩
      · rw [key y hy q]; exact ⟨rfl, rfl⟩
      · rw [es]
        rcases List.mem_append.1 (show y ∈ l ++ seen b e :: r from hy) with p | p
        · exact List.mem_append_left _ p
        · rcases List.mem_cons.1 p with p | p
          · rw [p] at q; exact absurd rfl q
          · exact List.mem_append_right _ (List.mem_cons_of_mem _ p)
      · rw [es] at hy
        rcases List.mem_append.1 hy with p | p
        · exact ⟨y, List.mem_append_left _ p, rfl, rfl, Int.le_refl _⟩
        · rcases List.mem_cons.1 p with p | p
          · exact ⟨seen b e, m, by rw [p]; rfl, by rw [p]; rfl, by rw [p]; exact E.last.2⟩
          · exact ⟨y, List.mem_append_right _ (List.mem_cons_of_mem _ p), rfl, rfl, Int.le_refl _⟩
      · have q' : eo b y = eo b e := q
        have := same_outer hb hy me ⟨congrArg NatFlow.Kind q', congrArg NatFlow.To q', congrArg NatFlow.ToPort q', congrArg NatFlow.FromPort q'⟩
        rw [this]
    | new p nd ne hl p1 p2 pt pe =>
      have m : newE b f p ∈ putE b.Entries (newE b f p) := mem_putE.2 (.inl rfl)
      have key : ∀ y ∈ b.Entries, eo b y ≠ under b f p := fun y hy q => by
        have := pt y hy
        have t : takes f p y = true := takes_iff.2 ⟨congrArg NatFlow.Kind q, congrArg NatFlow.To q, congrArg NatFlow.ToPort q, congrArg NatFlow.FromPort q⟩
        rw [t] at this
        cases this
      refine ⟨rfl, rfl, rfl, ⟨rfl, rfl⟩, fun _ => rfl, ok, fun y hy q => ?_, fun y hy q => ?_, fun y hy => ⟨y, mem_putE.2 (.inr hy), rfl, rfl, Int.le_refl _⟩, .inr ⟨p1, p2, ⟨_, m, rfl, rfl, rfl⟩, fun y hy q => absurd q (key y hy)⟩⟩
      · rcases mem_putE.1 hy with c | c
        · rw [c]; exact ⟨rfl, rfl⟩
        · exact absurd q (key y c)
      · rcases mem_putE.1 hy with c | c
        · rw [c] at q; exact absurd rfl q
        · exact c
theorem Inv.out {b : NatBook} {went : List wvWent} (h : Inv b went) {f g : NatFlow} {x : NatBook} (s : OutS b f x g) : Inv x (went ++ [⟨f, g, b.Now⟩]) ∧ ∀ r ∈ went, r.Out = g → b.Now - r.At < 12 → r.In = f := by
  have eox : ∀ e, eo x e = eo b e := fun e => by unfold eo; rw [s.own]
  have nw := now_in h.ok
  have outer : ∀ d ∈ b.Doors, ¬ (b.Low ≤ d.Outer ∧ d.Outer ≤ b.High) := fun d hd => (door_ok h.ok hd).2.2.1
  have e2 := (entries_iff.1 (ok_parts.1 h.ok).2.2).2.1
  refine ⟨⟨s.ok, fun r hr => ?_, fun r hr => ?_, fun e he => ?_⟩, fun r hr ho hl => ?_⟩
  · rw [s.now]
    rcases List.mem_append.1 hr with q | q
    · exact h.at_ r q
    · simp at q; subst q; exact ⟨nw.1, Int.le_refl _⟩
  · rw [s.now]
    unfold byDoor
    rw [s.doors]
    rcases List.mem_append.1 hr with q | q
    · rcases h.rcd r q with p | p | ⟨e, he, p1, p2, p3⟩
      · exact .inl p
      · exact .inr (.inl p)
      · obtain ⟨e', k1, k2, k3, k4⟩ := s.keep e he
        exact .inr (.inr ⟨e', k1, by rw [eox, k2, p1], by rw [k3, p2], Int.le_trans p3 k4⟩)
    · simp at q
      subst q
      rcases s.how with ⟨d, d1, d2, d3, d4⟩ | ⟨_, _, ⟨e, k1, k2, k3, k4⟩, _⟩
      · exact .inl ⟨d, d1, d2, d3, d4⟩
      · exact .inr (.inr ⟨e, k1, by rw [eox, k2], k3, by rw [k4]; exact Int.le_refl _⟩)
  · rw [eox]
    by_cases c : eo b e = g
    · obtain ⟨k1, k2⟩ := s.eq e he c
      exact ⟨went, ⟨f, g, b.Now⟩, [], rfl, c.symm, k1.symm, k2.symm, fun x hx => by simp at hx⟩
    · obtain ⟨l, r, t, w1, w2, w3, w4, w5⟩ := h.last e (s.ne e he c)
      refine ⟨l, r, t ++ [⟨f, g, b.Now⟩], by rw [w1]; simp, w2, w3, w4, fun y hy => ?_⟩
      rcases List.mem_append.1 hy with q | q
      · exact w5 y q
      · simp at q; subst q; exact fun z => c z.symm
  · rcases h.rcd r hr with ⟨d, d1, d2, d3, d4⟩ | p | ⟨e, he, p1, p2, p3⟩
    · rw [ho] at d2 d3 d4
      rcases s.how with ⟨d', k1, k2, k3, k4⟩ | ⟨k1, k2, _⟩
      · have := same_door h.ok d1 k1 ⟨d2.trans k2.symm, d3.trans k3.symm⟩
        rw [d4, k4, this]
      · rw [← d3] at k1 k2; exact absurd ⟨k1, k2⟩ (outer d d1)
    · omega
    · rw [ho] at p1
      rcases s.how with ⟨d', k1, k2, k3, k4⟩ | ⟨_, _, _, k4⟩
      · have E := entryOk_iff.1 (e2 e he)
        have : e.Outer = g.FromPort := congrArg NatFlow.FromPort p1
        have o := E.outer
        rw [this, ← k3] at o
        exact absurd o (outer d' k1)
      · rw [← p2]; exact k4 e he p1
/-- Who asked last for what comes in. -/
def askOf (went : List wvWent) (f : NatFlow) : Option wvWent := went.reverse.find? fun r => decide (r.Out = back f)
theorem find_last {l t : List wvWent} {r : wvWent} {p : wvWent → Bool} (hr : p r = true) (ht : ∀ x ∈ t, p x = false) : (l ++ r :: t).reverse.find? p = some r := by
  rw [List.reverse_append, List.reverse_cons, List.append_assoc, List.find?_append]
  have : t.reverse.find? p = none := List.find?_eq_none.2 fun x hx => by rw [ht x (List.mem_reverse.1 hx)]; decide
  rw [this]
  simp [hr]
theorem Inv.in_ {b : NatBook} {went : List wvWent} (h : Inv b went) {f : NatFlow} (hd : ∀ d ∈ b.Doors, ¬ (d.Kind = f.Kind ∧ d.Outer = f.ToPort)) :
    ((natIn b f).2 = 0 ∧ ∃ r, askOf went f = some r ∧ b.Now - r.At < 8 ∧ 0 ≤ r.At ∧ r.At ≤ b.Now ∧ (natIn b f).1 = back r.In) ∨ ((natIn b f).2 ≠ 0 ∧ ∀ r, askOf went f = some r → ¬ (b.Now - r.At < 8) ∧ 0 ≤ r.At ∧ r.At ≤ b.Now) := by
  have nw := now_in h.ok
  have e2 := (entries_iff.1 (ok_parts.1 h.ok).2.2).2.1
  by_cases c : (natIn b f).2 = 0
  · left
    refine ⟨c, ?_⟩
    unfold natIn at c ⊢
    rw [if_neg (by rw [h.ok]; decide)] at c ⊢
    split at c
    · exact absurd c (by decide)
    · rename_i c1
      rw [if_neg c1]
      split at c
      · exact absurd c (by decide)
      · rename_i c2
        rw [if_neg c2]
        have nd : firstR (doorHit b f) b.Doors.length = none := firstR_none_iff.2 fun k hk => by
          cases hc : doorHit b f k
          · rfl
          · simp only [doorHit, Bool.and_eq_true, beq_iff_eq] at hc
            exact absurd hc (hd _ (getD_mem hk))
        rw [nd] at c ⊢
        dsimp only at c ⊢
        cases hx : firstR (entryHit b f) b.Entries.length with
        | none => rw [hx] at c; exact absurd c (by dsimp only; decide)
        | some i =>
          obtain ⟨q1, q2, _⟩ := firstR_some hx
          simp only [entryHit, Bool.and_eq_true, beq_iff_eq] at q2
          have me := getD_mem q1
          dsimp only
          generalize b.Entries.getD i default = e at *
          obtain ⟨⟨⟨⟨q3, q4⟩, q5⟩, q6⟩, q7⟩ := q2
          obtain ⟨l, r, t, w1, w2, w3, w4, w5⟩ := h.last e me
          have own : f.To = b.Own := Classical.byContradiction fun q => c2 (.inl q)
          have eb : eo b e = back f := by
            unfold eo back
            rw [q4, q5, q6, q7, own]
          have ho := entryOk_last (e2 e me)
          refine ⟨r, ?_, ?_, by rw [w4]; exact ho.1, by rw [w4]; exact ho.2.1, ?_⟩
          · unfold askOf
            rw [w1]
            exact find_last (by rw [w2, eb]; simp) fun x hx => by have := w5 x hx; rw [eb] at this; simpa using this
          · rw [w4]
            exact (live_iff nw ⟨ho.1, by omega⟩).1 q3
          · rw [w3]
            show (⟨f.Kind, f.From, f.FromPort, e.Inner, e.InnerPort⟩ : NatFlow) = ⟨e.Kind, e.Peer, e.PeerPort, e.Inner, e.InnerPort⟩
            rw [q4, q5, q6]
  · right
    refine ⟨c, fun r hr => ?_⟩
    unfold askOf at hr
    have hm := List.mem_reverse.1 (List.mem_of_find?_eq_some hr)
    have ho : r.Out = back f := by
      have := List.find?_some hr
      simpa using this
    refine ⟨fun hl => ?_, h.at_ r hm⟩
    rcases h.rcd r hm with ⟨d, d1, d2, d3, d4⟩ | p | ⟨e, he, p1, p2, p3⟩
    · rw [ho] at d2 d3
      exact hd d d1 ⟨d2, d3⟩
    · omega
    · have k := entryOk_last (e2 e he)
      have lv : live b e = true := (live_iff nw ⟨k.1, by omega⟩).2 (by omega)
      have := natIn_entry h.ok he lv
      have ef : f = ⟨e.Kind, e.Peer, e.PeerPort, b.Own, e.Outer⟩ := by
        rw [ho] at p1
        have := congrArg back p1
        exact this.symm
      rw [← ef] at this
      rw [this] at c
      exact c rfl

end Go.Proofs.Ytaoeomoepefojab
