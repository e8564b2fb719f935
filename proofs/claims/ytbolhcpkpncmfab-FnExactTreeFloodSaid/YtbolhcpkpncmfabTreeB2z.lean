/-
  Plain Lean: the root that one is joined with, the link towards it, and the way there; impl's and the reference's alike.
-/
import Derived.Test.YtbolhcpkpncmfabKz4
import Derived.Test.YtbolhcpkpncmfabTreeBz
set_option linter.all false
namespace Go.Proofs.Ytbolhcpkpncmfab
open Go Go.Ab
set_option maxHeartbeats 400000

/-- The link towards the root. -/
structure Up where
  link : Int
  next : Int
/-- The other end of a link. -/
def othOf (w : TreeWorld) (v : Nat) (i : Nat) : Int := if (v : Int) = (w.Links.getD i default).A then (w.Links.getD i default).B else if (v : Int) = (w.Links.getD i default).B then (w.Links.getD i default).A else -1
theorem othOf_p {w : TreeWorld} (hw : WOk w) {v i : Nat} (hi : i < w.Links.length) : ∃ t, spec_l82At_m w (v : Int) (i : Int) = some (t, othOf w v i) := by
  have ha := hw.a
  have hb := hw.b
  unfold spec_l82At_m othOf
  rw [gd_pos (by omega), gd_pos (by omega), gd_pos (by omega), Int.toNat_natCast]
  by_cases h1 : (v : Int) = (w.Links.getD i default).A
  · rw [if_pos (by simpa using h1), if_pos h1]; exact ⟨_, rfl⟩
  · rw [if_neg (by simpa using h1), if_neg h1]
    by_cases h2 : (v : Int) = (w.Links.getD i default).B
    · rw [if_pos (by simpa using h2), if_pos h2]; exact ⟨_, rfl⟩
    · rw [if_neg (by simpa using h2), if_neg h2]; exact ⟨_, rfl⟩
theorem othOf_in {w : TreeWorld} (hw : WOk w) {v i : Nat} (hi : i < w.Links.length) : othOf w v i = -1 ∨ (0 ≤ othOf w v i ∧ othOf w v i < w.Bridges.length) := by
  have hl := linkAt hw.link hi
  unfold othOf
  split
  · right; omega
  · split
    · right; omega
    · left; rfl
end Go.Proofs.Ytbolhcpkpncmfab
