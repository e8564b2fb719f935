/-
  Plain Lean: marks on worlds, and looks at them.
-/
import Derived.Test.YtfgmolljcgnafaaGreatKz4
import Derived.Test.YtfgmolljcgnafaaGreatTreeWz
import Derived.Test.YtfgmolljcgnafaaGreatTreeP4z
import Derived.Test.YtfgmolljcgnafaaGreatMkz
set_option linter.all false
namespace Go.Proofs.YtfgmolljcgnafaaGreat
open Go Go.Ab
set_option maxHeartbeats 400000
def mkInt (n:Int):Int := n
theorem markIntS_p {xs:List Int} {a:Int} (h0:0 ≤ a) (h1:a + 1 * (xs.length:Int) ≤ 1152921504606846976):laws_markIntS_m xs a = some (a + 1 * (xs.length:Int),mkL mkInt 1 a xs.length) := by
  unfold laws_markIntS_m;rw [mark_p mkInt 1 (fun i ys n hi hy hn => ?_) (fun ys n hy => by rw [← hy,if_neg (by simp)]),bd_val,gd_pos rfl];have hg:∀ v:Int,(ys.set i v).getD i default = v := fun v => getD_set (by omega);have hi':(0:Int) ≤ (i:Int) ∧ (i:Int) < ((ys.length:Nat):Int) := by omega
  have h3:(3:Int) ≠ 0 := by decide
  have hlt:decide ((i:Int) < ((ys.length:Nat):Int)) = true := by simp; omega
  have hin:(i:Int) < (xs.length:Int) := by omega
  simp only [hlt,if_true,gd_pos hi',gd_pos h3,Int.toNat_natCast,bd_val,List.set_set,hg];simp (disch := omega) only [wrap_i64,mkInt];refine congrArg some (congrArg Sum.inl (Prod.ext rfl (Prod.ext ?_ ?_))) <;> dsimp only <;> omega
theorem heldIntS_p {m:Nat} {a:Int} (h0:0 ≤ a) (h1:a + 1 * (m:Int) ≤ 1152921504606846976):laws_heldIntS_m (mkL mkInt 1 a m) a = some (a + 1 * (m:Int)) := by
  unfold laws_heldIntS_m;have hl:(mkL mkInt 1 a m).length = m := mkL_len;rw [hl,held_p 1 m (fun i n hi hn => ?_) (fun n => by rw [if_neg (by simp)]),bd_val];have hg:(mkL mkInt 1 a m).getD i default = mkInt n := by rw [hn]; exact mkL_get hi
  have hi':(0:Int) ≤ (i:Int) ∧ (i:Int) < (m:Int) := by omega
  have h3:(3:Int) ≠ 0 := by decide
  have hlt:decide ((i:Int) < (m:Int)) = true := by simp; omega
  simp only [hlt,if_true,gd_pos hi',gd_pos h3,Int.toNat_natCast,hg,mkInt];simp (disch := omega) only [wrap_i64,bne_self_eq_false,beq_self_eq_true,Bool.not_true,Bool.false_eq_true,if_false];refine congrArg some (congrArg Sum.inl (Prod.ext ?_ ?_)) <;> dsimp only <;> omega
def mkTreeLink (n:Int):TreeLink := ⟨n,(n + 1),(n + 1 + 1)⟩
theorem markTreeLinkS_p {xs:List TreeLink} {a:Int} (h0:0 ≤ a) (h1:a + 3 * (xs.length:Int) ≤ 1152921504606846976):laws_markTreeLinkS_m xs a = some (a + 3 * (xs.length:Int),mkL mkTreeLink 3 a xs.length) := by
  unfold laws_markTreeLinkS_m;rw [mark_p mkTreeLink 3 (fun i ys n hi hy hn => ?_) (fun ys n hy => by rw [← hy,if_neg (by simp)]),bd_val,gd_pos rfl];have hg:∀ v:TreeLink,(ys.set i v).getD i default = v := fun v => getD_set (by omega);have hi':(0:Int) ≤ (i:Int) ∧ (i:Int) < ((ys.length:Nat):Int) := by omega
  have h3:(3:Int) ≠ 0 := by decide
  have hlt:decide ((i:Int) < ((ys.length:Nat):Int)) = true := by simp; omega
  have hin:(i:Int) < (xs.length:Int) := by omega
  simp only [hlt,if_true,gd_pos hi',gd_pos h3,Int.toNat_natCast,bd_val,List.set_set,hg];simp (disch := omega) only [wrap_i64,mkTreeLink];refine congrArg some (congrArg Sum.inl (Prod.ext rfl (Prod.ext ?_ ?_))) <;> dsimp only <;> omega
theorem heldTreeLinkS_p {m:Nat} {a:Int} (h0:0 ≤ a) (h1:a + 3 * (m:Int) ≤ 1152921504606846976):laws_heldTreeLinkS_m (mkL mkTreeLink 3 a m) a = some (a + 3 * (m:Int)) := by
  unfold laws_heldTreeLinkS_m;have hl:(mkL mkTreeLink 3 a m).length = m := mkL_len;rw [hl,held_p 3 m (fun i n hi hn => ?_) (fun n => by rw [if_neg (by simp)]),bd_val];have hg:(mkL mkTreeLink 3 a m).getD i default = mkTreeLink n := by rw [hn]; exact mkL_get hi
  have hi':(0:Int) ≤ (i:Int) ∧ (i:Int) < (m:Int) := by omega
  have h3:(3:Int) ≠ 0 := by decide
  have hlt:decide ((i:Int) < (m:Int)) = true := by simp; omega
  simp only [hlt,if_true,gd_pos hi',gd_pos h3,Int.toNat_natCast,hg,mkTreeLink];simp (disch := omega) only [wrap_i64,bne_self_eq_false,beq_self_eq_true,Bool.not_true,Bool.false_eq_true,if_false];refine congrArg some (congrArg Sum.inl (Prod.ext ?_ ?_)) <;> dsimp only <;> omega
def mkTreeBridge (n:Int):TreeBridge := ⟨n,(n + 1).tmod 3 == 0,⟨⟨(n + 1 + 1),(n + 1 + 1 + 1),(n + 1 + 1 + 1 + 1)⟩,(n + 1 + 1 + 1 + 1 + 1)⟩⟩
theorem markTreeBridgeS_p {xs:List TreeBridge} {a:Int} (h0:0 ≤ a) (h1:a + 6 * (xs.length:Int) ≤ 1152921504606846976):laws_markTreeBridgeS_m xs a = some (a + 6 * (xs.length:Int),mkL mkTreeBridge 6 a xs.length) := by
  unfold laws_markTreeBridgeS_m;rw [mark_p mkTreeBridge 6 (fun i ys n hi hy hn => ?_) (fun ys n hy => by rw [← hy,if_neg (by simp)]),bd_val,gd_pos rfl];have hg:∀ v:TreeBridge,(ys.set i v).getD i default = v := fun v => getD_set (by omega);have hi':(0:Int) ≤ (i:Int) ∧ (i:Int) < ((ys.length:Nat):Int) := by omega
  have h3:(3:Int) ≠ 0 := by decide
  have hlt:decide ((i:Int) < ((ys.length:Nat):Int)) = true := by simp; omega
  have hin:(i:Int) < (xs.length:Int) := by omega
  simp only [hlt,if_true,gd_pos hi',gd_pos h3,Int.toNat_natCast,bd_val,List.set_set,hg];simp (disch := omega) only [wrap_i64,mkTreeBridge];refine congrArg some (congrArg Sum.inl (Prod.ext rfl (Prod.ext ?_ ?_))) <;> dsimp only <;> omega
theorem heldTreeBridgeS_p {m:Nat} {a:Int} (h0:0 ≤ a) (h1:a + 6 * (m:Int) ≤ 1152921504606846976):laws_heldTreeBridgeS_m (mkL mkTreeBridge 6 a m) a = some (a + 6 * (m:Int)) := by
  unfold laws_heldTreeBridgeS_m;have hl:(mkL mkTreeBridge 6 a m).length = m := mkL_len;rw [hl,held_p 6 m (fun i n hi hn => ?_) (fun n => by rw [if_neg (by simp)]),bd_val];have hg:(mkL mkTreeBridge 6 a m).getD i default = mkTreeBridge n := by rw [hn]; exact mkL_get hi
  have hi':(0:Int) ≤ (i:Int) ∧ (i:Int) < (m:Int) := by omega
  have h3:(3:Int) ≠ 0 := by decide
  have hlt:decide ((i:Int) < (m:Int)) = true := by simp; omega
  simp only [hlt,if_true,gd_pos hi',gd_pos h3,Int.toNat_natCast,hg,mkTreeBridge];simp (disch := omega) only [wrap_i64,bne_self_eq_false,beq_self_eq_true,Bool.not_true,Bool.false_eq_true,if_false];refine congrArg some (congrArg Sum.inl (Prod.ext ?_ ?_)) <;> dsimp only <;> omega
def mkTreeSlot (n:Int):TreeSlot := ⟨⟨n,(n + 1),(n + 1 + 1)⟩,(n + 1 + 1 + 1)⟩
theorem markTreeSlotS_p {xs:List TreeSlot} {a:Int} (h0:0 ≤ a) (h1:a + 4 * (xs.length:Int) ≤ 1152921504606846976):laws_markTreeSlotS_m xs a = some (a + 4 * (xs.length:Int),mkL mkTreeSlot 4 a xs.length) := by
  unfold laws_markTreeSlotS_m;rw [mark_p mkTreeSlot 4 (fun i ys n hi hy hn => ?_) (fun ys n hy => by rw [← hy,if_neg (by simp)]),bd_val,gd_pos rfl];have hg:∀ v:TreeSlot,(ys.set i v).getD i default = v := fun v => getD_set (by omega);have hi':(0:Int) ≤ (i:Int) ∧ (i:Int) < ((ys.length:Nat):Int) := by omega
  have h3:(3:Int) ≠ 0 := by decide
  have hlt:decide ((i:Int) < ((ys.length:Nat):Int)) = true := by simp; omega
  have hin:(i:Int) < (xs.length:Int) := by omega
  simp only [hlt,if_true,gd_pos hi',gd_pos h3,Int.toNat_natCast,bd_val,List.set_set,hg];simp (disch := omega) only [wrap_i64,mkTreeSlot];refine congrArg some (congrArg Sum.inl (Prod.ext rfl (Prod.ext ?_ ?_))) <;> dsimp only <;> omega
theorem heldTreeSlotS_p {m:Nat} {a:Int} (h0:0 ≤ a) (h1:a + 4 * (m:Int) ≤ 1152921504606846976):laws_heldTreeSlotS_m (mkL mkTreeSlot 4 a m) a = some (a + 4 * (m:Int)) := by
  unfold laws_heldTreeSlotS_m;have hl:(mkL mkTreeSlot 4 a m).length = m := mkL_len;rw [hl,held_p 4 m (fun i n hi hn => ?_) (fun n => by rw [if_neg (by simp)]),bd_val];have hg:(mkL mkTreeSlot 4 a m).getD i default = mkTreeSlot n := by rw [hn]; exact mkL_get hi
  have hi':(0:Int) ≤ (i:Int) ∧ (i:Int) < (m:Int) := by omega
  have h3:(3:Int) ≠ 0 := by decide
  have hlt:decide ((i:Int) < (m:Int)) = true := by simp; omega
  simp only [hlt,if_true,gd_pos hi',gd_pos h3,Int.toNat_natCast,hg,mkTreeSlot];simp (disch := omega) only [wrap_i64,bne_self_eq_false,beq_self_eq_true,Bool.not_true,Bool.false_eq_true,if_false];refine congrArg some (congrArg Sum.inl (Prod.ext ?_ ?_)) <;> dsimp only <;> omega
def mkTreeWord (n:Int):TreeWord := ⟨n,(n + 1),⟨(n + 1 + 1),(n + 1 + 1 + 1),(n + 1 + 1 + 1 + 1)⟩⟩
theorem markTreeWordS_p {xs:List TreeWord} {a:Int} (h0:0 ≤ a) (h1:a + 5 * (xs.length:Int) ≤ 1152921504606846976):laws_markTreeWordS_m xs a = some (a + 5 * (xs.length:Int),mkL mkTreeWord 5 a xs.length) := by
  unfold laws_markTreeWordS_m;rw [mark_p mkTreeWord 5 (fun i ys n hi hy hn => ?_) (fun ys n hy => by rw [← hy,if_neg (by simp)]),bd_val,gd_pos rfl];have hg:∀ v:TreeWord,(ys.set i v).getD i default = v := fun v => getD_set (by omega);have hi':(0:Int) ≤ (i:Int) ∧ (i:Int) < ((ys.length:Nat):Int) := by omega
  have h3:(3:Int) ≠ 0 := by decide
  have hlt:decide ((i:Int) < ((ys.length:Nat):Int)) = true := by simp; omega
  have hin:(i:Int) < (xs.length:Int) := by omega
  simp only [hlt,if_true,gd_pos hi',gd_pos h3,Int.toNat_natCast,bd_val,List.set_set,hg];simp (disch := omega) only [wrap_i64,mkTreeWord];refine congrArg some (congrArg Sum.inl (Prod.ext rfl (Prod.ext ?_ ?_))) <;> dsimp only <;> omega
theorem heldTreeWordS_p {m:Nat} {a:Int} (h0:0 ≤ a) (h1:a + 5 * (m:Int) ≤ 1152921504606846976):laws_heldTreeWordS_m (mkL mkTreeWord 5 a m) a = some (a + 5 * (m:Int)) := by
  unfold laws_heldTreeWordS_m;have hl:(mkL mkTreeWord 5 a m).length = m := mkL_len;rw [hl,held_p 5 m (fun i n hi hn => ?_) (fun n => by rw [if_neg (by simp)]),bd_val];have hg:(mkL mkTreeWord 5 a m).getD i default = mkTreeWord n := by rw [hn]; exact mkL_get hi
  have hi':(0:Int) ≤ (i:Int) ∧ (i:Int) < (m:Int) := by omega
  have h3:(3:Int) ≠ 0 := by decide
  have hlt:decide ((i:Int) < (m:Int)) = true := by simp; omega
  simp only [hlt,if_true,gd_pos hi',gd_pos h3,Int.toNat_natCast,hg,mkTreeWord];simp (disch := omega) only [wrap_i64,bne_self_eq_false,beq_self_eq_true,Bool.not_true,Bool.false_eq_true,if_false];refine congrArg some (congrArg Sum.inl (Prod.ext ?_ ?_)) <;> dsimp only <;> omega
def TreeWorld.marks (w:TreeWorld):Int := 1 + 6 * (w.Bridges.length:Int) + 3 * (w.Links.length:Int) + 1 * (w.Down.length:Int) + 4 * (w.AtA.length:Int) + 4 * (w.AtB.length:Int) + 5 * (w.Radio.length:Int)
def TreeWorld.marked (w:TreeWorld):TreeWorld :=
  ⟨mkL mkTreeBridge 6 1 w.Bridges.length,mkL mkTreeLink 3 (1 + 6 * (w.Bridges.length:Int)) w.Links.length,mkL mkInt 1 (1 + 6 * (w.Bridges.length:Int) + 3 * (w.Links.length:Int)) w.Down.length,
   mkL mkTreeSlot 4 (1 + 6 * (w.Bridges.length:Int) + 3 * (w.Links.length:Int) + 1 * (w.Down.length:Int)) w.AtA.length,
   mkL mkTreeSlot 4 (1 + 6 * (w.Bridges.length:Int) + 3 * (w.Links.length:Int) + 1 * (w.Down.length:Int) + 4 * (w.AtA.length:Int)) w.AtB.length,
   mkL mkTreeWord 5 (1 + 6 * (w.Bridges.length:Int) + 3 * (w.Links.length:Int) + 1 * (w.Down.length:Int) + 4 * (w.AtA.length:Int) + 4 * (w.AtB.length:Int)) w.Radio.length⟩
theorem markTreeWorld_p {w:TreeWorld} (h:w.Len 1048576):laws_markTreeWorld_m w 1 = some (w.marks,w.marked) := by
  obtain ⟨h1,h2,h3,h4,h5,h6⟩ := h;unfold laws_markTreeWorld_m;rw [markTreeBridgeS_p (by omega) (by omega),bd_val,gd_pos mkL_len,markTreeLinkS_p (by omega) (by omega),bd_val,gd_pos mkL_len,markIntS_p (by omega) (by omega),bd_val,gd_pos mkL_len,
    markTreeSlotS_p (by omega) (by omega),bd_val,gd_pos mkL_len,markTreeSlotS_p (by omega) (by omega),bd_val,gd_pos mkL_len,markTreeWordS_p (by omega) (by omega),bd_val,gd_pos mkL_len]
  rfl
theorem heldTreeWorld_p {w:TreeWorld} (h:w.Len 1048576):laws_heldTreeWorld_m w.marked 1 = some w.marks := by
  obtain ⟨h1,h2,h3,h4,h5,h6⟩ := h;unfold laws_heldTreeWorld_m TreeWorld.marked;dsimp only;rw [heldTreeBridgeS_p (by omega) (by omega),bd_val,if_neg (by simp; omega),heldTreeLinkS_p (by omega) (by omega),bd_val,if_neg (by simp; omega),heldIntS_p (by omega) (by omega),bd_val,if_neg (by simp; omega),
    heldTreeSlotS_p (by omega) (by omega),bd_val,if_neg (by simp; omega),heldTreeSlotS_p (by omega) (by omega),bd_val,if_neg (by simp; omega),heldTreeWordS_p (by omega) (by omega),bd_val,if_neg (by simp; omega)]
  rfl
theorem marked_len {w:TreeWorld}:w.marked.Bridges.length = w.Bridges.length ∧ w.marked.Links.length = w.Links.length ∧ w.marked.Down.length = w.Down.length ∧ w.marked.AtA.length = w.AtA.length ∧ w.marked.AtB.length = w.AtB.length ∧ w.marked.Radio.length = w.Radio.length :=
  ⟨mkL_len,mkL_len,mkL_len,mkL_len,mkL_len,mkL_len⟩
end Go.Proofs.YtfgmolljcgnafaaGreat
