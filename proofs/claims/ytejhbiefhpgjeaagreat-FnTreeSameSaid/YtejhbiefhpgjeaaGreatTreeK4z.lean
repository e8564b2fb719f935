/-
  Plain Lean: the links that let frames pass have no loop, and join all that is joined.
-/
import Derived.Test.YtejhbiefhpgjeaaGreatKz5
import Derived.Test.YtejhbiefhpgjeaaGreatTreeK3z
set_option linter.all false
namespace Go.Proofs.YtejhbiefhpgjeaaGreat
open Go Go.Ab
set_option maxHeartbeats 400000
structure Hd (w:TreeWorld) (h:List Int):Prop where
  len:h.length=w.Bridges.length
  lo:∀ k,k < w.Bridges.length→0≤h.getD k default∧h.getD k default≤k
  idem:∀ k,k < w.Bridges.length→h.getD (h.getD k default).toNat default=h.getD k default
theorem take_all {α:Type} (ls:List α):ls.take ls.length=ls:=List.take_of_length_le (Nat.le_refl _)
structure Tp (w:TreeWorld) (P:Int→Prop) (h:List Int):Prop where
  one:∀ x y,x < w.Bridges.length→y < w.Bridges.length→¬ P (par w x)→¬ P (par w y)→h.getD x default=h.getD y default→x=y
  top:∀ u,u < w.Bridges.length→∃ t,t < w.Bridges.length∧¬ P (par w t)∧h.getD t default=h.getD u default∧mz w t≤mz w u
end Go.Proofs.YtejhbiefhpgjeaaGreat
