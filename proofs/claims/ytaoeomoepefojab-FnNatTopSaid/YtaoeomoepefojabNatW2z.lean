/-
  Plain Lean: there and back: what goes out comes back to who asked; the order of what begins in one tick does not show.
-/
import Derived.Test.YtaoeomoepefojabKz3
import Derived.Test.YtaoeomoepefojabNatWz
set_option linter.all false
namespace Go.Proofs.Ytaoeomoepefojab
open Go Go.Ab
set_option maxHeartbeats 400000

theorem pw_mem {α : Type} {R : α → α → Prop} : ∀ {l : List α} {x y : α}, l.Pairwise R → x ∈ l → y ∈ l → x = y ∨ R x y ∨ R y x
  | [], _, _, _, h, _ => by cases h
  | z :: r, x, y, h, hx, hy => by
    have hr := List.pairwise_cons.1 h
    rcases List.mem_cons.1 hx with h1 | h1
    · rcases List.mem_cons.1 hy with h2 | h2
      · exact .inl (h1.trans h2.symm)
      · exact .inr (.inl (h1 ▸ hr.1 y h2))
    · rcases List.mem_cons.1 hy with h2 | h2
      · exact .inr (.inr (h2 ▸ hr.1 x h1))
      · exact pw_mem hr.2 h1 h2
theorem entryLess_irrefl {e f : NatEntry} (h : e.Kind = f.Kind ∧ e.Peer = f.Peer ∧ e.PeerPort = f.PeerPort ∧ e.Outer = f.Outer) : entryLess e f = false := by
  cases hc : entryLess e f
  · rfl
  · rw [entryLess_iff] at hc
    omega
/-- No two entries are alike from outside. -/
theorem same_outer {b : NatBook} (hb : b.ok = true) {e f : NatEntry} (he : e ∈ b.Entries) (hf : f ∈ b.Entries) (h : e.Kind = f.Kind ∧ e.Peer = f.Peer ∧ e.PeerPort = f.PeerPort ∧ e.Outer = f.Outer) : e = f := by
  obtain ⟨_, _, e3⟩ := entries_iff.1 (ok_parts.1 hb).2.2
  rcases pw_mem e3 he hf with q | q | q
  · exact q
  · have := entryLess_irrefl h; rw [q.1] at this; cases this
  · have := entryLess_irrefl (e := f) (f := e) ⟨h.1.symm, h.2.1.symm, h.2.2.1.symm, h.2.2.2.symm⟩; rw [q.1] at this; cases this
theorem door_ok {b : NatBook} (hb : b.ok = true) {d : NatDoor} (hd : d ∈ b.Doors) : (1 ≤ d.Kind ∧ d.Kind ≤ 7) ∧ (1 ≤ d.Outer ∧ d.Outer ≤ 65535) ∧ ¬ (b.Low ≤ d.Outer ∧ d.Outer ≤ b.High) ∧ b.inside d.Inner = true ∧ (1 ≤ d.InnerPort ∧ d.InnerPort ≤ 65535) := by
  obtain ⟨_, hd', _⟩ := ok_parts.1 hb
  obtain ⟨i, hi, rfl⟩ := mem_getD hd
  simp only [NatBook.doorsOk, Bool.and_eq_true] at hd'
  have := allR_get hd'.2 hi
  simp only [doorAt, doorOk, Bool.and_eq_true, decide_eq_true_eq, Bool.not_eq_true', Bool.and_eq_false_imp, decide_eq_false_iff_not] at this
  obtain ⟨⟨⟨⟨⟨⟨⟨⟨a1, a2⟩, a3⟩, a4⟩, a5⟩, a6⟩, a7⟩, a8⟩, _⟩ := this
  exact ⟨⟨a1, a2⟩, ⟨a3, a4⟩, fun q => a5 q.1 q.2, a6, a7, a8⟩
theorem same_door {b : NatBook} (hb : b.ok = true) {d e : NatDoor} (hd : d ∈ b.Doors) (he : e ∈ b.Doors) (h : d.Kind = e.Kind ∧ d.Outer = e.Outer) : d = e := by
  obtain ⟨_, hd', _⟩ := ok_parts.1 hb
  obtain ⟨i, hi, rfl⟩ := mem_getD hd
  obtain ⟨j, hj, rfl⟩ := mem_getD he
  simp only [NatBook.doorsOk, Bool.and_eq_true] at hd'
  have pr : ∀ i k, i < b.Doors.length → k < i → doorLess (b.Doors.getD k default) (b.Doors.getD i default) = true := fun i k hi hk => by
    have := allR_get hd'.2 hi
    simp only [doorAt, Bool.and_eq_true] at this
    have := allR_get this.2 hk
    simp only [doorPair, Bool.and_eq_true] at this
    exact this.1
  rcases Nat.lt_trichotomy i j with c | c | c
  · have := pr j i hj c
    simp only [doorLess, Bool.or_eq_true, Bool.and_eq_true, decide_eq_true_eq, beq_iff_eq] at this
    omega
  · rw [c]
  · have := pr i j hi c
    simp only [doorLess, Bool.or_eq_true, Bool.and_eq_true, decide_eq_true_eq, beq_iff_eq] at this
    omega
/-- The answer to what an entry that lives let out. -/
theorem natIn_entry {b : NatBook} (hb : b.ok = true) {e : NatEntry} (he : e ∈ b.Entries) (hl : live b e = true) : natIn b ⟨e.Kind, e.Peer, e.PeerPort, b.Own, e.Outer⟩ = (⟨e.Kind, e.Peer, e.PeerPort, e.Inner, e.InnerPort⟩, 0) := by
  obtain ⟨hf, hd, hen⟩ := ok_parts.1 hb
  obtain ⟨_, e2, _⟩ := entries_iff.1 hen
  have E := entryOk_iff.1 (e2 e he)
  have fr := frame_range hf
  have ho := E.outer
  unfold natIn
  rw [if_neg (by rw [hb]; decide), if_neg (by
    rw [flowOk_iff.2 ⟨E.k, E.peer, ⟨fr.1, fr.2.1⟩, E.pp, ⟨by show 1 ≤ e.Outer; omega, by show e.Outer ≤ 65535; omega⟩⟩]
    decide), if_neg (by
    dsimp only
    rw [E.out]
    rintro (x | x | x)
    · exact x rfl
    · cases x
    · exact E.own x)]
  have hdoor : firstR (doorHit b ⟨e.Kind, e.Peer, e.PeerPort, b.Own, e.Outer⟩) b.Doors.length = none := firstR_none_iff.2 fun k hk => by
    have D := door_ok hb (getD_mem hk)
    cases hc : doorHit b ⟨e.Kind, e.Peer, e.PeerPort, b.Own, e.Outer⟩ k
    · rfl
    · simp only [doorHit, Bool.and_eq_true, beq_iff_eq] at hc
      rw [hc.2] at D
      exact absurd ho D.2.2.1
  rw [hdoor]
  dsimp only
  cases hx : firstR (entryHit b ⟨e.Kind, e.Peer, e.PeerPort, b.Own, e.Outer⟩) b.Entries.length with
  | none =>
    obtain ⟨i, hi, ei⟩ := mem_getD he
    have := firstR_none hx i hi
    rw [entryHit, ei, hl] at this
    simp at this
  | some i =>
    obtain ⟨q1, q2, _⟩ := firstR_some hx
    simp only [entryHit, Bool.and_eq_true, beq_iff_eq] at q2
    have := same_outer hb (getD_mem q1) he ⟨q2.1.1.1.2, q2.1.1.2, q2.1.2, q2.2⟩
    dsimp only
    rw [this]
/-- What comes to a door. -/
theorem natIn_door {b : NatBook} (hb : b.ok = true) {d : NatDoor} (hd : d ∈ b.Doors) {f : NatFlow} (hf : FlowIn f) (h1 : f.To = b.Own) (h2 : b.inside f.From = false) (h3 : f.From ≠ b.Own) (hk : d.Kind = f.Kind) (ho : d.Outer = f.ToPort) : natIn b f = (⟨f.Kind, f.From, f.FromPort, d.Inner, d.InnerPort⟩, 0) := by
  unfold natIn
  rw [if_neg (by rw [hb]; decide), if_neg (by rw [flowOk_iff.2 hf]; decide), if_neg (by
    rw [h2]
    rintro (x | x | x)
    · exact x h1
    · cases x
    · exact h3 x)]
  cases hx : firstR (doorHit b f) b.Doors.length with
  | none =>
    obtain ⟨i, hi, ei⟩ := mem_getD hd
    have := firstR_none hx i hi
    rw [doorHit, ei, hk, ho] at this
    simp at this
  | some i =>
    obtain ⟨q1, q2, _⟩ := firstR_some hx
    simp only [doorHit, Bool.and_eq_true, beq_iff_eq] at q2
    have := same_door hb (getD_mem q1) hd ⟨q2.1.trans hk.symm, q2.2.trans ho.symm⟩
    dsimp only
    rw [this]
@[reducible] def back (f : NatFlow) : NatFlow := ⟨f.Kind, f.To, f.ToPort, f.From, f.FromPort⟩
/-! The order of what begins in one tick. -/
def goes (b : NatBook) (f : NatFlow) : Bool := flowOk f && b.inside f.From && !b.inside f.To && !(f.To == b.Own)
def adds (b : NatBook) (f : NatFlow) : Bool := goes b f && (firstR (doorFor b f) b.Doors.length).isNone
def addE (b : NatBook) (xs : List NatEntry) (f : NatFlow) : List NatEntry := if adds b f = true then putE xs (newE b f b.Low) else xs
def outG (b : NatBook) (f : NatFlow) : NatFlow := if goes b f = false then noFlow else match firstR (doorFor b f) b.Doors.length with
  | some i => under b f (b.Doors.getD i default).Outer
  | none => under b f b.Low
@[reducible] def withE (b : NatBook) (xs : List NatEntry) : NatBook := { b with Entries := xs }
theorem step_out {b : NatBook} {xs : List NatEntry} {f : NatFlow} (hx : (withE b xs).ok = true) (hl : xs.length < 16) (hk : ∀ e ∈ xs, ¬ (e.Kind = f.Kind ∧ e.Peer = f.To ∧ e.PeerPort = f.ToPort)) :
    (natOut (withE b xs) f).1 = withE b (addE b xs f) ∧ (natOut (withE b xs) f).2.1 = outG b f := by
  have fr := frame_range (ok_parts.1 hx).1
  have i1 : ∀ a, (withE b xs).inside a = b.inside a := fun _ => rfl
  unfold natOut addE adds outG goes
  rw [if_neg (by rw [hx]; decide), i1, i1]
  cases h1 : flowOk f
  · simp
  · rw [if_neg (by decide)]
    by_cases h2 : b.inside f.From = false ∨ b.inside f.To = true ∨ f.To = b.Own
    · rw [if_pos h2]
      have : (b.inside f.From && !b.inside f.To && !(f.To == b.Own)) = false := by
        cases q1 : b.inside f.From
        · rfl
        · cases q2 : b.inside f.To
          · have : f.To = b.Own := by
              rcases h2 with h | h | h
              · rw [q1] at h; cases h
              · rw [q2] at h; cases h
              · exact h
            simp [this]
          · rfl
      have t : (true && b.inside f.From && !b.inside f.To && !(f.To == b.Own)) = false := by simpa [Bool.and_assoc] using this
      rw [t]
      exact ⟨rfl, rfl⟩
    · rw [if_neg h2]
      have t : (true && b.inside f.From && !b.inside f.To && !(f.To == b.Own)) = true := by
        have a1 : b.inside f.From = true := Bool.not_eq_false _ |>.mp fun q => h2 (.inl q)
        have a2 : b.inside f.To = false := Bool.not_eq_true _ |>.mp fun q => h2 (.inr (.inl q))
        have a3 : f.To ≠ b.Own := fun q => h2 (.inr (.inr q))
        simp [a1, a2, a3]
      rw [t]
      unfold outOf
      have ed : firstR (doorFor (withE b xs) f) (withE b xs).Doors.length = firstR (doorFor b f) b.Doors.length := rfl
      rw [ed]
      cases hD : firstR (doorFor b f) b.Doors.length with
      | some i => exact ⟨rfl, rfl⟩
      | none =>
        have he : firstR (entFor (withE b xs) f) (withE b xs).Entries.length = none := firstR_none_iff.2 fun k hk' => by
          cases hc : entFor (withE b xs) f k
          · rfl
          · simp only [entFor, Bool.and_eq_true, flowEq_iff] at hc
            have := hk _ (getD_mem hk')
            rw [← hc.1] at this
            exact absurd ⟨rfl, rfl, rfl⟩ this
        have ht : taken (withE b xs) f (withE b xs).Low = false := taken_false.2 fun e he' => by
          cases hc : takes f (withE b xs).Low e
          · rfl
          · have := takes_iff.1 hc
            exact absurd ⟨this.1, this.2.1, this.2.2.1⟩ (hk e he')
        have hp := free_low (b := withE b xs) (f := f) fr.2.2.2.2.1 ht
        have hlow : (withE b xs).Low ≠ 0 := by have := fr.2.2.2.1; omega
        dsimp only
        rw [he]
        dsimp only
        rw [if_neg (by have : (withE b xs).Entries.length = xs.length := rfl; omega), hp, if_neg hlow]
        exact ⟨rfl, rfl⟩
def keyNe (f g : NatFlow) : Prop := ¬ (f.Kind = g.Kind ∧ f.To = g.To ∧ f.ToPort = g.ToPort)
/-- What the book has behind some flows that begin in one tick. -/
structure Run (b : NatBook) (fs : List NatFlow) (xs : List NatEntry) : Prop where
  ok : (withE b xs).ok = true
  ord : xs.Pairwise fun x y => entryLess x y = true
  mem : ∀ e, e ∈ xs ↔ ∃ f ∈ fs, adds b f = true ∧ e = newE b f b.Low
  len : xs.length ≤ fs.length
theorem Run.nil {b : NatBook} (hb : b.ok = true) (he : b.Entries = []) : Run b [] [] := by
  refine ⟨?_, .nil, fun e => by simp, Nat.le_refl _⟩
  have : withE b [] = b := by
    obtain ⟨a1, a2, a3, a4, a5, a6, a7, a8⟩ := b
    dsimp only at he
    rw [he]
  rw [this]; exact hb
theorem Run.free {b : NatBook} {fs : List NatFlow} {xs : List NatEntry} (h : Run b fs xs) {f : NatFlow} (hk : ∀ g ∈ fs, keyNe g f) : ∀ e ∈ xs, ¬ (e.Kind = f.Kind ∧ e.Peer = f.To ∧ e.PeerPort = f.ToPort) := fun e he q => by
  obtain ⟨g, hg, _, rfl⟩ := (h.mem e).1 he
  exact hk g hg q
theorem Run.step {b : NatBook} {fs : List NatFlow} {xs : List NatEntry} (h : Run b fs xs) {f : NatFlow} (hk : ∀ g ∈ fs, keyNe g f) (hl : fs.length < 16) : Run b (fs ++ [f]) (addE b xs f) := by
  have s := step_out h.ok (Nat.lt_of_le_of_lt h.len hl) (h.free hk)
  have ok := natOut_ok h.ok f
  rw [s.1] at ok
  refine ⟨ok, ?_, fun e => ?_, ?_⟩
  · exact (entries_iff.1 (ok_parts.1 ok).2.2).2.2.imp fun h => h.1
  · unfold addE
    split
    · rename_i ha
      rw [mem_putE, h.mem]
      constructor
      · rintro (rfl | ⟨g, hg, h1, h2⟩)
        · exact ⟨f, by simp, ha, rfl⟩
        · exact ⟨g, by simp [hg], h1, h2⟩
      · rintro ⟨g, hg, h1, h2⟩
        rcases List.mem_append.1 hg with hg | hg
        · exact .inr ⟨g, hg, h1, h2⟩
        · simp at hg; subst hg; exact .inl h2
    · rename_i ha
      rw [h.mem]
      constructor
      · rintro ⟨g, hg, h1, h2⟩; exact ⟨g, by simp [hg], h1, h2⟩
      · rintro ⟨g, hg, h1, h2⟩
        rcases List.mem_append.1 hg with hg | hg
        · exact ⟨g, hg, h1, h2⟩
        · simp at hg; subst hg; exact absurd h1 ha
  · unfold addE
    have := h.len
    split
    · rw [len_putE]; simp; omega
    · simp; omega
end Go.Proofs.Ytaoeomoepefojab
