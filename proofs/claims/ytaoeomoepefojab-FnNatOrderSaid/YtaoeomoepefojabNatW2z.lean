/-
  Plain Lean: there and back: what goes out comes back to who asked; the order of what begins in one tick does not show.
-/
import Derived.Test.YtaoeomoepefojabKz3
import Derived.Test.YtaoeomoepefojabNatWz
set_option linter.all false
namespace Go.Proofs.Ytaoeomoepefojab
open Go Go.Ab
set_option maxHeartbeats 400000

theorem entryLess_irrefl {e f : NatEntry} (h : e.Kind = f.Kind ∧ e.Peer = f.Peer ∧ e.PeerPort = f.PeerPort ∧ e.Outer = f.Outer) : entryLess e f = false := by
  cases hc : entryLess e f
  · rfl
  · rw [entryLess_iff] at hc
    omega
theorem door_ok {b : NatBook} (hb : b.ok = true) {d : NatDoor} (hd : d ∈ b.Doors) : (1 ≤ d.Kind ∧ d.Kind ≤ 7) ∧ (1 ≤ d.Outer ∧ d.Outer ≤ 65535) ∧ ¬ (b.Low ≤ d.Outer ∧ d.Outer ≤ b.High) ∧ b.inside d.Inner = true ∧ (1 ≤ d.InnerPort ∧ d.InnerPort ≤ 65535) := by
  obtain ⟨_, hd', _⟩ := ok_parts.1 hb
  obtain ⟨i, hi, rfl⟩ := mem_getD hd
  simp only [NatBook.doorsOk, Bool.and_eq_true] at hd'
  have := allR_get hd'.2 hi
  simp only [doorAt, doorOk, Bool.and_eq_true, decide_eq_true_eq, Bool.not_eq_true', Bool.and_eq_false_imp, decide_eq_false_iff_not] at this
  obtain ⟨⟨⟨⟨⟨⟨⟨⟨a1, a2⟩, a3⟩, a4⟩, a5⟩, a6⟩, a7⟩, a8⟩, _⟩ := this
  exact ⟨⟨a1, a2⟩, ⟨a3, a4⟩, fun q => a5 q.1 q.2, a6, a7, a8⟩
/-! The order of what begins in one tick. -/
def goes (b : NatBook) (f : NatFlow) : Bool := flowOk f && b.inside f.From && !b.inside f.To && !(f.To == b.Own)
def adds (b : NatBook) (f : NatFlow) : Bool := goes b f && (firstR (doorFor b f) b.Doors.length).isNone
def addE (b : NatBook) (xs : List NatEntry) (f : NatFlow) : List NatEntry := if adds b f = true then putE xs (newE b f b.Low) else xs
def outG (b : NatBook) (f : NatFlow) : NatFlow := if goes b f = false then noFlow else match firstR (doorFor b f) b.Doors.length with
  | some i => under b f (b.Doors.getD i default).Outer
  | none => under b f b.Low
@[reducible] def withE (b : NatBook) (xs : List NatEntry) : NatBook := { b with Entries := xs }
theorem step_out {b : NatBook} {xs : List NatEntry} {f : NatFlow} (hx : (withE b xs).ok = true) (hl : xs.length < 16) (hk : ∀ e ∈ xs, ¬ (e.Kind = f.Kind ∧ e.Peer = f.To ∧ e.PeerPort = f.ToPort)) :
    (natOut (withE b xs) f).1 = withE b (addE b xs f) ∧ (natOut (withE b xs) f).2.1 = outG b f := by
  have fr := frame_range (ok_parts.1 hx).1
  have i1 : ∀ a, (withE b xs).inside a = b.inside a := fun _ => rfl
  unfold natOut addE adds outG goes
  rw [if_neg (by rw [hx]; decide), i1, i1]
  cases h1 : flowOk f
  · simp
  · rw [if_neg (by decide)]
    by_cases h2 : b.inside f.From = false ∨ b.inside f.To = true ∨ f.To = b.Own
    · rw [if_pos h2]
      have : (b.inside f.From && !b.inside f.To && !(f.To == b.Own)) = false := by
        cases q1 : b.inside f.From
        · rfl
        · cases q2 : b.inside f.To
          · have : f.To = b.Own := by
              rcases h2 with h | h | h
              · rw [q1] at h; cases h
              · rw [q2] at h; cases h
              · exact h
            simp [this]
          · rfl
      have t : (true && b.inside f.From && !b.inside f.To && !(f.To == b.Own)) = false := by simpa [Bool.and_assoc] using this
      rw [t]
      exact ⟨rfl, rfl⟩
    · rw [if_neg h2]
      have t : (true && b.inside f.From && !b.inside f.To && !(f.To == b.Own)) = true := by
        have a1 : b.inside f.From = true := Bool.not_eq_false _ |>.mp fun q => h2 (.inl q)
        have a2 : b.inside f.To = false := Bool.not_eq_true _ |>.mp fun q => h2 (.inr (.inl q))
        have a3 : f.To ≠ b.Own := fun q => h2 (.inr (.inr q))
        simp [a1, a2, a3]
      rw [t]
      unfold outOf
      have ed : firstR (doorFor (withE b xs) f) (withE b xs).Doors.length = firstR (doorFor b f) b.Doors.length := rfl
      rw [ed]
      cases hD : firstR (doorFor b f) b.Doors.length with
      | some i => exact ⟨rfl, rfl⟩
      | none =>
        have he : firstR (entFor (withE b xs) f) (withE b xs).Entries.length = none := firstR_none_iff.2 fun k hk' => by
          cases hc : entFor (withE b xs) f k
          · rfl
          · simp only [entFor, Bool.and_eq_true, flowEq_iff] at hc
            have := hk _ (getD_mem hk')
            rw [← hc.1] at this
            exact absurd ⟨rfl, rfl, rfl⟩ this
        have ht : taken (withE b xs) f (withE b xs).Low = false := taken_false.2 fun e he' => by
          cases hc : takes f (withE b xs).Low e
          · rfl
          · have := takes_iff.1 hc
            exact absurd ⟨this.1, this.2.1, this.2.2.1⟩ (hk e he')
        have hp := free_low (b := withE b xs) (f := f) fr.2.2.2.2.1 ht
        have hlow : (withE b xs).Low ≠ 0 := by have := fr.2.2.2.1; omega
        dsimp only
        rw [he]
        dsimp only
        rw [if_neg (by have : (withE b xs).Entries.length = xs.length := rfl; omega), hp, if_neg hlow]
        exact ⟨rfl, rfl⟩
def keyNe (f g : NatFlow) : Prop := ¬ (f.Kind = g.Kind ∧ f.To = g.To ∧ f.ToPort = g.ToPort)
/-- What the book has behind some flows that begin in one tick. -/
structure Run (b : NatBook) (fs : List NatFlow) (xs : List NatEntry) : Prop where
  ok : (withE b xs).ok = true
  ord : xs.Pairwise fun x y => entryLess x y = true
  mem : ∀ e, e ∈ xs ↔ ∃ f ∈ fs, adds b f = true ∧ e = newE b f b.Low
  len : xs.length ≤ fs.length
theorem Run.nil {b : NatBook} (hb : b.ok = true) (he : b.Entries = []) : Run b [] [] := by
  refine ⟨?_, .nil, fun e => by simp, Nat.le_refl _⟩
  have : withE b [] = b := by
    obtain ⟨a1, a2, a3, a4, a5, a6, a7, a8⟩ := b
    dsimp only at he
    rw [he]
  rw [this]; exact hb
theorem Run.free {b : NatBook} {fs : List NatFlow} {xs : List NatEntry} (h : Run b fs xs) {f : NatFlow} (hk : ∀ g ∈ fs, keyNe g f) : ∀ e ∈ xs, ¬ (e.Kind = f.Kind ∧ e.Peer = f.To ∧ e.PeerPort = f.ToPort) := fun e he q => by
  obtain ⟨g, hg, _, rfl⟩ := (h.mem e).1 he
  exact hk g hg q
theorem Run.step {b : NatBook} {fs : List NatFlow} {xs : List NatEntry} (h : Run b fs xs) {f : NatFlow} (hk : ∀ g ∈ fs, keyNe g f) (hl : fs.length < 16) : Run b (fs ++ [f]) (addE b xs f) := by
  have s := step_out h.ok (Nat.lt_of_le_of_lt h.len hl) (h.free hk)
  have ok := natOut_ok h.ok f
  rw [s.1] at ok
  refine ⟨ok, ?_, fun e => ?_, ?_⟩
  · exact (entries_iff.1 (ok_parts.1 ok).2.2).2.2.imp fun h => h.1
  · unfold addE
    split
    · rename_i ha
      rw [mem_putE, h.mem]
      constructor
      · rintro (rfl | ⟨g, hg, h1, h2⟩)
        · exact ⟨f, by simp, ha, rfl⟩
        · exact ⟨g, by simp [hg], h1, h2⟩
      · rintro ⟨g, hg, h1, h2⟩
        rcases List.mem_append.1 hg with hg | hg
        · exact .inr ⟨g, hg, h1, h2⟩
        · simp at hg; subst hg; exact .inl h2
    · rename_i ha
      rw [h.mem]
      constructor
      · rintro ⟨g, hg, h1, h2⟩; exact ⟨g, by simp [hg], h1, h2⟩
      · rintro ⟨g, hg, h1, h2⟩
        rcases List.mem_append.1 hg with hg | hg
        · exact ⟨g, hg, h1, h2⟩
        · simp at hg; subst hg; exact absurd h1 ha
  · unfold addE
    have := h.len
    split
    · rw [len_putE]; simp; omega
    · simp; omega
theorem sorted_ext : ∀ {xs ys : List NatEntry}, xs.Pairwise (fun x y => entryLess x y = true) → ys.Pairwise (fun x y => entryLess x y = true) → (∀ e, e ∈ xs ↔ e ∈ ys) → xs = ys
  | [], [], _, _, _ => rfl
  | [], y :: r, _, _, h => absurd ((h y).2 List.mem_cons_self) (by simp)
  | x :: r, [], _, _, h => absurd ((h x).1 List.mem_cons_self) (by simp)
  | x :: r, y :: s, hx, hy, h => by
    have h1 := List.pairwise_cons.1 hx
    have h2 := List.pairwise_cons.1 hy
    have irr : ∀ e : NatEntry, entryLess e e ≠ true := fun e q => by rw [entryLess_irrefl ⟨rfl, rfl, rfl, rfl⟩] at q; cases q
    have exy : x = y := by
      rcases List.mem_cons.1 ((h x).1 List.mem_cons_self) with q | q
      · exact q
      · rcases List.mem_cons.1 ((h y).2 List.mem_cons_self) with p | p
        · exact p.symm
        · exact absurd (entryLess_trans (h1.1 y p) (h2.1 x q)) (irr x)
    subst exy
    refine congrArg _ (sorted_ext h1.2 h2.2 fun e => ?_)
    have he := h e
    rw [List.mem_cons, List.mem_cons] at he
    constructor
    · intro q
      rcases he.1 (.inr q) with p | p
      · subst p; exact absurd (h1.1 _ q) (irr _)
      · exact p
    · intro q
      rcases he.2 (.inr q) with p | p
      · subst p; exact absurd (h2.1 _ q) (irr _)
      · exact p
theorem Run.same {b : NatBook} {fs gs : List NatFlow} {xs ys : List NatEntry} (h : Run b fs xs) (k : Run b gs ys) (hm : ∀ f, f ∈ fs ↔ f ∈ gs) : xs = ys :=
  sorted_ext h.ord k.ord fun e => by rw [h.mem, k.mem]; exact exists_congr fun f => by rw [hm f]

end Go.Proofs.Ytaoeomoepefojab
