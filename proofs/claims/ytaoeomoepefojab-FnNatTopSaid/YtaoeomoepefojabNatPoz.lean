/-
  Plain Lean: the draws of books and flows always give something.
-/
import Derived.Test.YtaoeomoepefojabKz3
import Derived.Test.YtaoeomoepefojabNatO2bz
import Derived.Test.YtaoeomoepefojabPoz
import Derived.Test.YtaoeomoepefojabNatP5z
set_option linter.all false
namespace Go.Proofs.Ytaoeomoepefojab
open Go Go.Ab
set_option maxHeartbeats 400000

theorem port_post {r : l21Rd} {k : Int} (h : RdOk r k) (hk : k ≤ 1099511627776) : Post (spec_l25Port_m r) fun x => RdOk ⟨r.b, x.2.p⟩ (k + 1) := by
  unfold spec_l25Port_m
  exact .bd (pick_post h hk (by omega)) fun x ⟨h1, h2⟩ => .gd h1 (.ret h2)
theorem RdOk.mono {r : l21Rd} {k m : Int} (h : RdOk r k) (hm : k ≤ m) : RdOk r m := ⟨h.bytes, h.len, h.p0, Int.le_trans h.p1 hm⟩
theorem inner_post {r : l21Rd} {k : Int} (h : RdOk r k) (hk : k ≤ 1099511627000) (b : NatBook) : Post (spec_l25Inner_m r b) fun x => RdOk ⟨r.b, x.2.p⟩ (k + 3) := by
  unfold spec_l25Inner_m
  rw [l21In_p, bd_val]
  refine .ite (fun _ => .ret (h.mono (by omega))) fun c => ?_
  simp only [Bool.not_eq_true', Bool.not_eq_false, Bool.and_eq_true, decide_eq_true_eq] at c
  rw [l22Size_p c.1 c.2, bd_val]
  have hp := netSize_pos b.Len
  exact .bd (pick_post h (by omega) (by omega)) fun x ⟨_, h1⟩ => .bd (pick_post h1 (by omega) (by omega)) fun y ⟨_, h2⟩ => .gd (by omega) (.bd (pick_post h2 (by omega) (by omega)) fun z ⟨h3, h4⟩ => .gd h3 (.ret (h4.mono (by omega))))
/-- A book's rows are few. -/
structure BkOk (b : NatBook) (n : Nat) : Prop where
  d : b.Doors.length ≤ n
  e : b.Entries.length ≤ n
theorem w_succ {s : Int} {n : Nat} (h0 : 0 ≤ s) (h : s < n) (hn : n ≤ 1048576) : IntKind.i64.wrap (s + 1) = s + 1 := wrap_i64 (by omega) (by omega)
theorem BkOk.mono {b : NatBook} {n m : Nat} (h : BkOk b n) (hm : n ≤ m) : BkOk b m := ⟨Nat.le_trans h.d hm, Nat.le_trans h.e hm⟩
end Go.Proofs.Ytaoeomoepefojab
