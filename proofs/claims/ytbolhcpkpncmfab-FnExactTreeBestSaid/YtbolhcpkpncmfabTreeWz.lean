/-
  Plain Lean: what is known of a world that is ok.
-/
import Derived.Test.YtbolhcpkpncmfabKz5
import Derived.Test.YtbolhcpkpncmfabTreeP4z
import Derived.Test.YtbolhcpkpncmfabArgz
set_option linter.all false
namespace Go.Proofs.Ytbolhcpkpncmfab
open Go Go.Ab
set_option maxHeartbeats 400000

structure WOk (w : TreeWorld) : Prop where
  l : w.Links.length ≤ 9223372036854775807
  link : linksOk w.Bridges.length w.Links = true
  a : w.AtA.length = w.Links.length
  b : w.AtB.length = w.Links.length
  ends : ∀ i, i < w.Links.length → endsOk w i = true
  br : ∀ i, i < w.Bridges.length → bridgeOk w i = true
theorem wOk {w : TreeWorld} (h : w.Len 9223372036854775807) (h1 : worldOk w = true) : WOk w := by
  simp only [worldOk, Bool.and_eq_true, decide_eq_true_eq] at h1
  obtain ⟨⟨⟨⟨⟨a1, a2⟩, ⟨a3, a4⟩, a5⟩, a6⟩, a7⟩, a8⟩ := h1
  exact ⟨h.l, a1, a3, a4, fun i hi => allR_get a8 hi, fun i hi => allR_get a2 hi⟩
theorem fit_lens {w : TreeWorld} (h : w.Fit) : w.Len 9223372036854775807 := ⟨h.1.1, h.2.1.1, h.2.2.1.1, h.2.2.2.1.1, h.2.2.2.2.1.1, h.2.2.2.2.2.1.1⟩
theorem linksOk_len {n : Int} {ls : List TreeLink} (h : linksOk n ls = true) : n ≤ 8 ∧ ls.length ≤ 12 := by
  simp only [linksOk, Bool.and_eq_true, inR_iff, decide_eq_true_eq] at h
  omega
theorem Len.mono {w : TreeWorld} {n m : Nat} (h : w.Len n) (hm : n ≤ m) : w.Len m := ⟨Nat.le_trans h.b hm, Nat.le_trans h.l hm, Nat.le_trans h.d hm, Nat.le_trans h.a hm, Nat.le_trans h.z hm, Nat.le_trans h.r hm⟩
end Go.Proofs.Ytbolhcpkpncmfab
