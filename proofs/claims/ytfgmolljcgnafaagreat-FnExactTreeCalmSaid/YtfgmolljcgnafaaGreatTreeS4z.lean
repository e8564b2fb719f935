/-
  Plain Lean: a whole step, a calm round, calm: they give a world that is ok.
-/
import Derived.Test.YtfgmolljcgnafaaGreatKz4
import Derived.Test.YtfgmolljcgnafaaGreatTreeS3z
set_option linter.all false
namespace Go.Proofs.YtfgmolljcgnafaaGreat
open Go Go.Ab
set_option maxHeartbeats 400000
theorem brAt_in' {w:TreeWorld} (h:Good w) {i:Nat} (hi:i < w.Links.length) (e:Int):0 ≤ brAt w i e ∧ brAt w i e < w.Bridges.length := by
  have hl := linkAt h.link hi;unfold brAt;split <;> omega
def wordFor (w:TreeWorld) (i:Nat) (e:Int):TreeWord := ⟨i,e,(w.Bridges.getD (brAt w i (1 - e)).toNat default).Mind.Vector⟩
theorem word_p {w:TreeWorld} (h:Good w) {i:Nat} (hi:i < w.Links.length) {e:Int} (he:e = 0 ∨ e = 1):spec_l83Word_m w (i:Int) e = some (wordFor w i e) := by
  have hb := brAt_in' h hi (1 - e);unfold spec_l83Word_m spec_l83End_m wordFor;rw [wrap_i64 (n := 1 - e) (by omega) (by omega)];rcases he with rfl | rfl
  · rw [if_neg (by decide),gd_pos (by omega),bd_val,Int.toNat_natCast,gd_pos (show 0 ≤ (w.Links.getD i default).B ∧ (w.Links.getD i default).B < (w.Bridges.length:Int) from hb)]
    rfl
  · rw [if_pos (by decide),gd_pos (by omega),bd_val,Int.toNat_natCast,gd_pos (show 0 ≤ (w.Links.getD i default).A ∧ (w.Links.getD i default).A < (w.Bridges.length:Int) from hb)]
    rfl
theorem wordFor_ok {w:TreeWorld} (h:Good w) {i:Nat} (hi:i < w.Links.length) {e:Int} (he:e = 0 ∨ e = 1) (hu:upAt w (brAt w i (1 - e)) = true):wordOk w (wordFor w i e) = true := by
  have hb := brAt_in' h hi (1 - e);have hm := (bridge_iff.1 (h.br (brAt w i (1 - e)).toNat (by omega))).2.2;rw [if_pos (show (w.Bridges.getD (brAt w i (1 - e)).toNat default).Up = true from hu)] at hm;exact word_iff.2 ⟨⟨by show (0:Int) ≤ i; omega,by show (i:Int) ≤ _; omega⟩,by show 0 ≤ e ∧ e ≤ 1; omega,hm.1,hm.2.1⟩
theorem open_up {w:TreeWorld} {i:Nat} (h:isOpen w i = true) (e:Int):upAt w (brAt w i e) = true := by
  unfold isOpen at h;rw [Bool.and_eq_true,Bool.and_eq_true] at h;unfold upAt brAt;split
  · exact h.1.2
  · exact h.2
theorem copyB_p (w:TreeWorld):spec_l82Copy_o03_04_05_m w = spec_l82Copy_m w := rfl
theorem Good.copy {w:TreeWorld} (h:Good w):spec_l82Copy_m w = some w := copy_p ⟨by have := h.len.b; omega,by have := h.len.l; omega,by have := h.len.d; omega,by have := h.len.a; omega,by have := h.len.z; omega,by have := h.len.r; omega⟩
theorem up_thinks {w:TreeWorld} {b:Nat} (hb:b < w.Bridges.length) (c:Int):upAt (thinks w b) c = upAt w c := by
  unfold thinks;split
  · unfold upAt;rw [getD_setB hb];split
    · rename_i e; rw [e]
    · rfl
  · rfl
theorem up_slot {w:TreeWorld} {i:Nat} {e:Int} {s:TreeSlot} (c:Int):upAt (setSlot w i e s) c = upAt w c := by
  unfold setSlot;split <;> rfl
theorem up_hear {w:TreeWorld} (h:Good w) {x:TreeWord} (hx:wordOk w x = true) (c:Int):upAt (hear w x) c = upAt w c := by
  obtain ⟨h1,h2,_⟩ := word_iff.1 hx;have hb := brAt_in' h (i := x.Link.toNat) (by omega) x.End;unfold hear;split
  · rfl
  · rw [up_thinks (by rw [same_setSlot.n]; omega),up_slot]
theorem hear_radio {w:TreeWorld} {x:TreeWord}:(hear w x).Radio = w.Radio := by
  unfold hear thinks setBr setSlot;split
  · rfl
  · split <;> split <;> rfl
theorem br_same {w v:TreeWorld} (h:Same w v) (i:Nat) (e:Int):brAt v i e = brAt w i e := by unfold brAt; rw [h.links]
end Go.Proofs.YtfgmolljcgnafaaGreat
