/-
  Plain Lean: the laws' own helpers on worlds; the row FnExactTreeWorldOk in plain Lean.
-/
import Derived.Test.YtbolhcpkpncmfabKz8
import Derived.Test.YtbolhcpkpncmfabTreePz
set_option linter.all false
namespace Go.Proofs.Ytbolhcpkpncmfab
open Go Go.Ab
set_option maxHeartbeats 400000
@[simp] theorem toTreeVector_p (a:TreeVector):laws_toTreeVector_m a = some a := rfl
@[simp] theorem toTreeLink_p (a:TreeLink):laws_toTreeLink_m a = some a := rfl
@[simp] theorem toTreeMind_p (a:TreeMind):laws_toTreeMind_m a = some a := rfl
@[simp] theorem toTreeBridge_p (a:TreeBridge):laws_toTreeBridge_m a = some a := rfl
@[simp] theorem toTreeSlot_p (a:TreeSlot):laws_toTreeSlot_m a = some a := rfl
@[simp] theorem toTreeWord_p (a:TreeWord):laws_toTreeWord_m a = some a := rfl
structure TreeWorld.Len (w:TreeWorld) (n:Nat):Prop where
  b:w.Bridges.length ≤ n
  l:w.Links.length ≤ n
  d:w.Down.length ≤ n
  a:w.AtA.length ≤ n
  z:w.AtB.length ≤ n
  r:w.Radio.length ≤ n
end Go.Proofs.Ytbolhcpkpncmfab
