/-
  Plain Lean: cheapest ways in a net, by rounds over its links; of no program.
-/
import Derived.Test.YtbolhcpkpncmfabKz4
import Derived.Test.YtbolhcpkpncmfabTreeAz
import Derived.Test.YtbolhcpkpncmfabMkz
set_option linter.all false
namespace Go.Proofs.Ytbolhcpkpncmfab
open Go Go.Ab
set_option maxHeartbeats 400000

structure Net where
  n : Nat
  m : Nat
  op : Nat → Bool
  a : Nat → Nat
  b : Nat → Nat
  c : Nat → Int
structure Net.Ok (N : Net) : Prop where
  an : ∀ i, i < N.m → N.a i < N.n
  bn : ∀ i, i < N.m → N.b i < N.n
  ab : ∀ i, i < N.m → N.a i ≠ N.b i
  c1 : ∀ i, i < N.m → 1 ≤ N.c i
  c2 : ∀ i, i < N.m → N.c i ≤ 50

def far : Int := 1073741824
def relL (D : List Int) (a b : Nat) (c : Int) : List Int := (D.set a (min (D.getD a default) (D.getD b default + c))).set b (min (D.getD b default) (D.getD a default + c))
def Net.link (N : Net) (D : List Int) (i : Nat) : List Int := if N.op i = true then relL D (N.a i) (N.b i) (N.c i) else D
/-- What holds at each moment: no cost below nothing, the root's is nothing, none above far; who is near has a link to a nearer one. -/
structure Net.Inv (N : Net) (r : Nat) (D : List Int) : Prop where
  len : D.length = N.n
  lo : ∀ v, v < N.n → 0 ≤ D.getD v default
  hi : ∀ v, v < N.n → D.getD v default ≤ far
  root : D.getD r default = 0
  up : ∀ v, v < N.n → v ≠ r → D.getD v default < far → ∃ i, i < N.m ∧ N.op i = true ∧ ((v = N.a i ∧ D.getD (N.b i) default + N.c i ≤ D.getD v default) ∨ (v = N.b i ∧ D.getD (N.a i) default + N.c i ≤ D.getD v default))
end Go.Proofs.Ytbolhcpkpncmfab
