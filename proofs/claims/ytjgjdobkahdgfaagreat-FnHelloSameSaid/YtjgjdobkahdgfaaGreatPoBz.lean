/-
  Plain Lean: what a model gives, said without computing it.
-/
import Derived.Test.YtjgjdobkahdgfaaGreatKz5
set_option linter.all false
namespace Go.Proofs.YtjgjdobkahdgfaaGreat
open Go Go.Ab
set_option maxHeartbeats 400000
def Post {α:Type} (m:Option α) (Q:α→Prop):Prop:=∃ x,m=some x∧Q x
theorem Post.ret {α:Type} {x:α} {Q:α→Prop} (h:Q x):Post (some x) Q:=⟨x,rfl,h⟩
theorem Post.bd {α β:Type} {m:Option α} {f:α→Option β} {Q:α→Prop} {R:β→Prop} (h:Post m Q) (k:∀ x,Q x→Post (f x) R):Post (bd m f) R:=by
  obtain ⟨x,e,hx⟩:=h;rw [e,Qb];exact k x hx
theorem Post.gd {α:Type} {c:Prop} [Decidable c] {m:Option α} {Q:α→Prop} (h:c) (k:Post m Q):Post (gd c m) Q:=by rwa [Qp h]
theorem Post.ite {α:Type} {c:Prop} [Decidable c] {a b:Option α} {Q:α→Prop} (k1:c→Post a Q) (k2:¬ c→Post b Q):Post (if c then a else b) Q:=by
  by_cases h:c
  · rw [if_pos h]; exact k1 h
  · rw [if_neg h]; exact k2 h
theorem Post.gcall {α:Type} [Inhabited α] {c:Prop} [Decidable c] {m:Option α} {Q:α→Prop} (k1:c→Post m Q) (k2:¬ c→Q default):Post (gcall c m) Q:=by
  by_cases h:c
  · rw [Qdp h]; exact k1 h
  · rw [Qdq h]; exact ⟨_,rfl,k2 h⟩
theorem Post.mono {α:Type} {m:Option α} {Q R:α→Prop} (h:Post m Q) (k:∀ x,Q x→R x):Post m R:=by
  obtain ⟨x,e,hx⟩:=h;exact ⟨x,e,k x hx⟩
theorem Post.lp {σ β:Type} {step:σ→Option (σ ⊕ β)} {s0:σ} {Q:β→Prop} (inv:σ→Prop) (meas:σ→Nat) (h0:inv s0)
    (hs:∀ s,inv s→Post (step s) fun r=>match r with | .inl s'=>inv s'∧meas s' < meas s | .inr b=>Q b):Post (lp step s0) Q:=by
  have key:∀ n s,meas s≤n→inv s→Post (Go.Ab.lp step s) Q:=by
    intro n
    induction n with
    | zero =>
      intro s hm hi;obtain ⟨r,e,hr⟩:=hs s hi
      cases r with
      | inl s'=>exact absurd hr.2 (by omega)
      | inr b=>exact ⟨b,QdC e,hr⟩
    | succ n ih =>
      intro s hm hi;obtain ⟨r,e,hr⟩:=hs s hi
      cases r with
      | inl s' =>
        rw [Qg3 e];exact ih s' (by have:=hr.2; omega) hr.1
      | inr b=>exact ⟨b,QdC e,hr⟩
  exact key (meas s0) s0 (Nat.le_refl _) h0
theorem QtF {α:Type} [Inhabited α] {p:α→Prop} {xs:List α} (h:∀ x ∈ xs,p x) (h0:p default) (i:Nat):p (xs.getD i default):=by
  rw [List.getD_eq_getElem?_getD];rcases hx:xs[i]? with _ | x
  · exact h0
  · exact h _ (List.mem_of_getElem? hx)
theorem QqO {a b:Int} (ha:0≤a∧a≤4611686018427387904) (hb:0≤b∧b≤4611686018427387904):0≤bits .xor .i64 a b:=by
  unfold bits;have e1:IntKind.bits .i64=64:=rfl;have l:∀ x:Int,0≤x∧x≤4611686018427387904→(BitVec.ofInt 64 x).toNat < 2 ^ 63:=fun x hx=>by
    rw [BitVec.toNat_ofInt];omega
  have h:(BitVec.ofInt 64 a ^^^ BitVec.ofInt 64 b).toNat < 2 ^ 63:=by
    rw [BitVec.toNat_xor];exact Nat.xor_lt_two_pow (l a ha) (l b hb)
  show 0≤IntKind.i64.wrap (((BitVec.ofInt 64 a ^^^ BitVec.ofInt 64 b).toNat:Nat):Int);rw [wrap_i64 (by omega) (by omega)];omega
end Go.Proofs.YtjgjdobkahdgfaaGreat
