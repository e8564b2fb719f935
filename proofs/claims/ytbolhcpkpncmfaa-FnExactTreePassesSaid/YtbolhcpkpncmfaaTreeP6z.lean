/-
  Plain Lean: TreeOpenWorld says what the reference says, and hands out rows of its own; the row FnExactTreeOpenWorld.
-/
import Derived.Test.YtbolhcpkpncmfaaKz5
import Derived.Test.YtbolhcpkpncmfaaTreeP5z
import Derived.Test.YtbolhcpkpncmfaaMkz
set_option linter.all false
namespace Go.Proofs.Ytbolhcpkpncmfaa
open Go Go.Ab
set_option maxHeartbeats 400000


def mkInt (n : Int) : Int := n
theorem markIntS_p {xs : List Int} {a : Int} (h0 : 0 ≤ a) (h1 : a + 1 * (xs.length : Int) ≤ 1152921504606846976) : laws_markIntS_m xs a = some (a + 1 * (xs.length : Int), mkL mkInt 1 a xs.length) := by
  unfold laws_markIntS_m
  rw [mark_p mkInt 1 (fun i ys n hi hy hn => ?_) (fun ys n hy => by rw [← hy, if_neg (by simp)]), bd_val, gd_pos rfl]
  have hg : ∀ v : Int, (ys.set i v).getD i default = v := fun v => getD_set (by omega)
  have hi' : (0 : Int) ≤ (i : Int) ∧ (i : Int) < ((ys.length : Nat) : Int) := by omega
  have h3 : (3 : Int) ≠ 0 := by decide
  have hlt : decide ((i : Int) < ((ys.length : Nat) : Int)) = true := by simp; omega
  have hin : (i : Int) < (xs.length : Int) := by omega
  simp only [hlt, if_true, gd_pos hi', gd_pos h3, Int.toNat_natCast, bd_val, List.set_set, hg]
  simp (disch := omega) only [wrap_i64, mkInt]
  refine congrArg some (congrArg Sum.inl (Prod.ext rfl (Prod.ext ?_ ?_))) <;> dsimp only <;> omega
theorem heldIntS_p {m : Nat} {a : Int} (h0 : 0 ≤ a) (h1 : a + 1 * (m : Int) ≤ 1152921504606846976) : laws_heldIntS_m (mkL mkInt 1 a m) a = some (a + 1 * (m : Int)) := by
  unfold laws_heldIntS_m
  have hl : (mkL mkInt 1 a m).length = m := mkL_len
  rw [hl, held_p 1 m (fun i n hi hn => ?_) (fun n => by rw [if_neg (by simp)]), bd_val]
  have hg : (mkL mkInt 1 a m).getD i default = mkInt n := by rw [hn]; exact mkL_get hi
  have hi' : (0 : Int) ≤ (i : Int) ∧ (i : Int) < (m : Int) := by omega
  have h3 : (3 : Int) ≠ 0 := by decide
  have hlt : decide ((i : Int) < (m : Int)) = true := by simp; omega
  simp only [hlt, if_true, gd_pos hi', gd_pos h3, Int.toNat_natCast, hg, mkInt]
  simp (disch := omega) only [wrap_i64, bne_self_eq_false, beq_self_eq_true, Bool.not_true, Bool.false_eq_true, if_false]
  refine congrArg some (congrArg Sum.inl (Prod.ext ?_ ?_)) <;> dsimp only <;> omega


def mkTreeLink (n : Int) : TreeLink := ⟨n, (n + 1), (n + 1 + 1)⟩
theorem markTreeLinkS_p {xs : List TreeLink} {a : Int} (h0 : 0 ≤ a) (h1 : a + 3 * (xs.length : Int) ≤ 1152921504606846976) : laws_markTreeLinkS_m xs a = some (a + 3 * (xs.length : Int), mkL mkTreeLink 3 a xs.length) := by
  unfold laws_markTreeLinkS_m
  rw [mark_p mkTreeLink 3 (fun i ys n hi hy hn => ?_) (fun ys n hy => by rw [← hy, if_neg (by simp)]), bd_val, gd_pos rfl]
  have hg : ∀ v : TreeLink, (ys.set i v).getD i default = v := fun v => getD_set (by omega)
  have hi' : (0 : Int) ≤ (i : Int) ∧ (i : Int) < ((ys.length : Nat) : Int) := by omega
  have h3 : (3 : Int) ≠ 0 := by decide
  have hlt : decide ((i : Int) < ((ys.length : Nat) : Int)) = true := by simp; omega
  have hin : (i : Int) < (xs.length : Int) := by omega
  simp only [hlt, if_true, gd_pos hi', gd_pos h3, Int.toNat_natCast, bd_val, List.set_set, hg]
  simp (disch := omega) only [wrap_i64, mkTreeLink]
  refine congrArg some (congrArg Sum.inl (Prod.ext rfl (Prod.ext ?_ ?_))) <;> dsimp only <;> omega
theorem heldTreeLinkS_p {m : Nat} {a : Int} (h0 : 0 ≤ a) (h1 : a + 3 * (m : Int) ≤ 1152921504606846976) : laws_heldTreeLinkS_m (mkL mkTreeLink 3 a m) a = some (a + 3 * (m : Int)) := by
  unfold laws_heldTreeLinkS_m
  have hl : (mkL mkTreeLink 3 a m).length = m := mkL_len
  rw [hl, held_p 3 m (fun i n hi hn => ?_) (fun n => by rw [if_neg (by simp)]), bd_val]
  have hg : (mkL mkTreeLink 3 a m).getD i default = mkTreeLink n := by rw [hn]; exact mkL_get hi
  have hi' : (0 : Int) ≤ (i : Int) ∧ (i : Int) < (m : Int) := by omega
  have h3 : (3 : Int) ≠ 0 := by decide
  have hlt : decide ((i : Int) < (m : Int)) = true := by simp; omega
  simp only [hlt, if_true, gd_pos hi', gd_pos h3, Int.toNat_natCast, hg, mkTreeLink]
  simp (disch := omega) only [wrap_i64, bne_self_eq_false, beq_self_eq_true, Bool.not_true, Bool.false_eq_true, if_false]
  refine congrArg some (congrArg Sum.inl (Prod.ext ?_ ?_)) <;> dsimp only <;> omega


def mkTreeBridge (n : Int) : TreeBridge := ⟨n, (n + 1).tmod 3 == 0, ⟨⟨(n + 1 + 1), (n + 1 + 1 + 1), (n + 1 + 1 + 1 + 1)⟩, (n + 1 + 1 + 1 + 1 + 1)⟩⟩
theorem markTreeBridgeS_p {xs : List TreeBridge} {a : Int} (h0 : 0 ≤ a) (h1 : a + 6 * (xs.length : Int) ≤ 1152921504606846976) : laws_markTreeBridgeS_m xs a = some (a + 6 * (xs.length : Int), mkL mkTreeBridge 6 a xs.length) := by
  unfold laws_markTreeBridgeS_m
  rw [mark_p mkTreeBridge 6 (fun i ys n hi hy hn => ?_) (fun ys n hy => by rw [← hy, if_neg (by simp)]), bd_val, gd_pos rfl]
  have hg : ∀ v : TreeBridge, (ys.set i v).getD i default = v := fun v => getD_set (by omega)
  have hi' : (0 : Int) ≤ (i : Int) ∧ (i : Int) < ((ys.length : Nat) : Int) := by omega
  have h3 : (3 : Int) ≠ 0 := by decide
  have hlt : decide ((i : Int) < ((ys.length : Nat) : Int)) = true := by simp; omega
  have hin : (i : Int) < (xs.length : Int) := by omega
  simp only [hlt, if_true, gd_pos hi', gd_pos h3, Int.toNat_natCast, bd_val, List.set_set, hg]
  simp (disch := omega) only [wrap_i64, mkTreeBridge]
  refine congrArg some (congrArg Sum.inl (Prod.ext rfl (Prod.ext ?_ ?_))) <;> dsimp only <;> omega
theorem heldTreeBridgeS_p {m : Nat} {a : Int} (h0 : 0 ≤ a) (h1 : a + 6 * (m : Int) ≤ 1152921504606846976) : laws_heldTreeBridgeS_m (mkL mkTreeBridge 6 a m) a = some (a + 6 * (m : Int)) := by
  unfold laws_heldTreeBridgeS_m
  have hl : (mkL mkTreeBridge 6 a m).length = m := mkL_len
  rw [hl, held_p 6 m (fun i n hi hn => ?_) (fun n => by rw [if_neg (by simp)]), bd_val]
  have hg : (mkL mkTreeBridge 6 a m).getD i default = mkTreeBridge n := by rw [hn]; exact mkL_get hi
  have hi' : (0 : Int) ≤ (i : Int) ∧ (i : Int) < (m : Int) := by omega
  have h3 : (3 : Int) ≠ 0 := by decide
  have hlt : decide ((i : Int) < (m : Int)) = true := by simp; omega
  simp only [hlt, if_true, gd_pos hi', gd_pos h3, Int.toNat_natCast, hg, mkTreeBridge]
  simp (disch := omega) only [wrap_i64, bne_self_eq_false, beq_self_eq_true, Bool.not_true, Bool.false_eq_true, if_false]
  refine congrArg some (congrArg Sum.inl (Prod.ext ?_ ?_)) <;> dsimp only <;> omega


def mkTreeSlot (n : Int) : TreeSlot := ⟨⟨n, (n + 1), (n + 1 + 1)⟩, (n + 1 + 1 + 1)⟩
theorem markTreeSlotS_p {xs : List TreeSlot} {a : Int} (h0 : 0 ≤ a) (h1 : a + 4 * (xs.length : Int) ≤ 1152921504606846976) : laws_markTreeSlotS_m xs a = some (a + 4 * (xs.length : Int), mkL mkTreeSlot 4 a xs.length) := by
  unfold laws_markTreeSlotS_m
  rw [mark_p mkTreeSlot 4 (fun i ys n hi hy hn => ?_) (fun ys n hy => by rw [← hy, if_neg (by simp)]), bd_val, gd_pos rfl]
  have hg : ∀ v : TreeSlot, (ys.set i v).getD i default = v := fun v => getD_set (by omega)
  have hi' : (0 : Int) ≤ (i : Int) ∧ (i : Int) < ((ys.length : Nat) : Int) := by omega
  have h3 : (3 : Int) ≠ 0 := by decide
  have hlt : decide ((i : Int) < ((ys.length : Nat) : Int)) = true := by simp; omega
  have hin : (i : Int) < (xs.length : Int) := by omega
  simp only [hlt, if_true, gd_pos hi', gd_pos h3, Int.toNat_natCast, bd_val, List.set_set, hg]
  simp (disch := omega) only [wrap_i64, mkTreeSlot]
  refine congrArg some (congrArg Sum.inl (Prod.ext rfl (Prod.ext ?_ ?_))) <;> dsimp only <;> omega
theorem heldTreeSlotS_p {m : Nat} {a : Int} (h0 : 0 ≤ a) (h1 : a + 4 * (m : Int) ≤ 1152921504606846976) : laws_heldTreeSlotS_m (mkL mkTreeSlot 4 a m) a = some (a + 4 * (m : Int)) := by
  unfold laws_heldTreeSlotS_m
  have hl : (mkL mkTreeSlot 4 a m).length = m := mkL_len
  rw [hl, held_p 4 m (fun i n hi hn => ?_) (fun n => by rw [if_neg (by simp)]), bd_val]
  have hg : (mkL mkTreeSlot 4 a m).getD i default = mkTreeSlot n := by rw [hn]; exact mkL_get hi
  have hi' : (0 : Int) ≤ (i : Int) ∧ (i : Int) < (m : Int) := by omega
  have h3 : (3 : Int) ≠ 0 := by decide
  have hlt : decide ((i : Int) < (m : Int)) = true := by simp; omega
  simp only [hlt, if_true, gd_pos hi', gd_pos h3, Int.toNat_natCast, hg, mkTreeSlot]
  simp (disch := omega) only [wrap_i64, bne_self_eq_false, beq_self_eq_true, Bool.not_true, Bool.false_eq_true, if_false]
  refine congrArg some (congrArg Sum.inl (Prod.ext ?_ ?_)) <;> dsimp only <;> omega


def mkTreeWord (n : Int) : TreeWord := ⟨n, (n + 1), ⟨(n + 1 + 1), (n + 1 + 1 + 1), (n + 1 + 1 + 1 + 1)⟩⟩
theorem markTreeWordS_p {xs : List TreeWord} {a : Int} (h0 : 0 ≤ a) (h1 : a + 5 * (xs.length : Int) ≤ 1152921504606846976) : laws_markTreeWordS_m xs a = some (a + 5 * (xs.length : Int), mkL mkTreeWord 5 a xs.length) := by
  unfold laws_markTreeWordS_m
  rw [mark_p mkTreeWord 5 (fun i ys n hi hy hn => ?_) (fun ys n hy => by rw [← hy, if_neg (by simp)]), bd_val, gd_pos rfl]
  have hg : ∀ v : TreeWord, (ys.set i v).getD i default = v := fun v => getD_set (by omega)
  have hi' : (0 : Int) ≤ (i : Int) ∧ (i : Int) < ((ys.length : Nat) : Int) := by omega
  have h3 : (3 : Int) ≠ 0 := by decide
  have hlt : decide ((i : Int) < ((ys.length : Nat) : Int)) = true := by simp; omega
  have hin : (i : Int) < (xs.length : Int) := by omega
  simp only [hlt, if_true, gd_pos hi', gd_pos h3, Int.toNat_natCast, bd_val, List.set_set, hg]
  simp (disch := omega) only [wrap_i64, mkTreeWord]
  refine congrArg some (congrArg Sum.inl (Prod.ext rfl (Prod.ext ?_ ?_))) <;> dsimp only <;> omega
theorem heldTreeWordS_p {m : Nat} {a : Int} (h0 : 0 ≤ a) (h1 : a + 5 * (m : Int) ≤ 1152921504606846976) : laws_heldTreeWordS_m (mkL mkTreeWord 5 a m) a = some (a + 5 * (m : Int)) := by
  unfold laws_heldTreeWordS_m
  have hl : (mkL mkTreeWord 5 a m).length = m := mkL_len
  rw [hl, held_p 5 m (fun i n hi hn => ?_) (fun n => by rw [if_neg (by simp)]), bd_val]
  have hg : (mkL mkTreeWord 5 a m).getD i default = mkTreeWord n := by rw [hn]; exact mkL_get hi
  have hi' : (0 : Int) ≤ (i : Int) ∧ (i : Int) < (m : Int) := by omega
  have h3 : (3 : Int) ≠ 0 := by decide
  have hlt : decide ((i : Int) < (m : Int)) = true := by simp; omega
  simp only [hlt, if_true, gd_pos hi', gd_pos h3, Int.toNat_natCast, hg, mkTreeWord]
  simp (disch := omega) only [wrap_i64, bne_self_eq_false, beq_self_eq_true, Bool.not_true, Bool.false_eq_true, if_false]
  refine congrArg some (congrArg Sum.inl (Prod.ext ?_ ?_)) <;> dsimp only <;> omega

def TreeWorld.marks (w : TreeWorld) : Int := 1 + 6 * (w.Bridges.length : Int) + 3 * (w.Links.length : Int) + 1 * (w.Down.length : Int) + 4 * (w.AtA.length : Int) + 4 * (w.AtB.length : Int) + 5 * (w.Radio.length : Int)
def TreeWorld.marked (w : TreeWorld) : TreeWorld :=
  ⟨mkL mkTreeBridge 6 1 w.Bridges.length, mkL mkTreeLink 3 (1 + 6 * (w.Bridges.length : Int)) w.Links.length, mkL mkInt 1 (1 + 6 * (w.Bridges.length : Int) + 3 * (w.Links.length : Int)) w.Down.length,
   mkL mkTreeSlot 4 (1 + 6 * (w.Bridges.length : Int) + 3 * (w.Links.length : Int) + 1 * (w.Down.length : Int)) w.AtA.length,
   mkL mkTreeSlot 4 (1 + 6 * (w.Bridges.length : Int) + 3 * (w.Links.length : Int) + 1 * (w.Down.length : Int) + 4 * (w.AtA.length : Int)) w.AtB.length,
   mkL mkTreeWord 5 (1 + 6 * (w.Bridges.length : Int) + 3 * (w.Links.length : Int) + 1 * (w.Down.length : Int) + 4 * (w.AtA.length : Int) + 4 * (w.AtB.length : Int)) w.Radio.length⟩
theorem markTreeWorld_p {w : TreeWorld} (h : w.Len 1048576) : laws_markTreeWorld_m w 1 = some (w.marks, w.marked) := by
  obtain ⟨h1, h2, h3, h4, h5, h6⟩ := h
  unfold laws_markTreeWorld_m
  rw [markTreeBridgeS_p (by omega) (by omega), bd_val, gd_pos mkL_len, markTreeLinkS_p (by omega) (by omega), bd_val, gd_pos mkL_len, markIntS_p (by omega) (by omega), bd_val, gd_pos mkL_len,
    markTreeSlotS_p (by omega) (by omega), bd_val, gd_pos mkL_len, markTreeSlotS_p (by omega) (by omega), bd_val, gd_pos mkL_len, markTreeWordS_p (by omega) (by omega), bd_val, gd_pos mkL_len]
  rfl
theorem heldTreeWorld_p {w : TreeWorld} (h : w.Len 1048576) : laws_heldTreeWorld_m w.marked 1 = some w.marks := by
  obtain ⟨h1, h2, h3, h4, h5, h6⟩ := h
  unfold laws_heldTreeWorld_m TreeWorld.marked
  dsimp only
  rw [heldTreeBridgeS_p (by omega) (by omega), bd_val, if_neg (by simp; omega), heldTreeLinkS_p (by omega) (by omega), bd_val, if_neg (by simp; omega), heldIntS_p (by omega) (by omega), bd_val, if_neg (by simp; omega),
    heldTreeSlotS_p (by omega) (by omega), bd_val, if_neg (by simp; omega), heldTreeSlotS_p (by omega) (by omega), bd_val, if_neg (by simp; omega), heldTreeWordS_p (by omega) (by omega), bd_val, if_neg (by simp; omega)]
  rfl
theorem marked_len {w : TreeWorld} : w.marked.Bridges.length = w.Bridges.length ∧ w.marked.Links.length = w.Links.length ∧ w.marked.Down.length = w.Down.length ∧ w.marked.AtA.length = w.AtA.length ∧ w.marked.AtB.length = w.AtB.length ∧ w.marked.Radio.length = w.Radio.length :=
  ⟨mkL_len, mkL_len, mkL_len, mkL_len, mkL_len, mkL_len⟩

def newBridge (id : Int) : TreeBridge := ⟨id, true, ⟨⟨id, 0, 0⟩, -1⟩⟩
def newWorld (ids : List Int) (ls : List TreeLink) : TreeWorld := ⟨ids.map newBridge, ls, [], List.replicate ls.length default, List.replicate ls.length default, []⟩
def noWorld : TreeWorld := ⟨[], [], [], [], [], []⟩
def openWorld (ids : List Int) (ls : List TreeLink) : TreeWorld × Bool := if linksOk ids.length ls = true ∧ worldOk (newWorld ids ls) = true then (newWorld ids ls, true) else (noWorld, false)
theorem linksOk_len {n : Int} {ls : List TreeLink} (h : linksOk n ls = true) : n ≤ 8 ∧ ls.length ≤ 12 := by
  simp only [linksOk, Bool.and_eq_true, inR_iff, decide_eq_true_eq] at h
  omega
theorem newWorld_len {ids : List Int} {ls : List TreeLink} (h : linksOk ids.length ls = true) : (newWorld ids ls).Len 12 := by
  have := linksOk_len h
  refine ⟨?_, ?_, ?_, ?_, ?_, ?_⟩ <;> simp [newWorld] <;> omega
theorem Len.mono {w : TreeWorld} {n m : Nat} (h : w.Len n) (hm : n ≤ m) : w.Len m := ⟨Nat.le_trans h.b hm, Nat.le_trans h.l hm, Nat.le_trans h.d hm, Nat.le_trans h.a hm, Nat.le_trans h.z hm, Nat.le_trans h.r hm⟩
theorem openWorld_len (ids : List Int) (ls : List TreeLink) : (openWorld ids ls).1.Len 12 := by
  unfold openWorld
  split
  · rename_i h; exact newWorld_len h.1
  · exact ⟨by decide, by decide, by decide, by decide, by decide, by decide⟩
theorem bridges_p {ids : List Int} {k : List TreeBridge × Nat → Option (TreeWorld × Bool)} {step : List TreeBridge × Int → Option ((List TreeBridge × Int) ⊕ (List TreeBridge × Nat))}
    (h1 : ∀ (i : Nat) (bs : List TreeBridge), i < ids.length → bs.length = i → step (bs, (i : Int)) = some (.inl (bs ++ [newBridge (ids.getD i default)], ((i + 1 : Nat) : Int)))) (h2 : ∀ bs : List TreeBridge, bs.length = ids.length → step (bs, (ids.length : Int)) = some (.inr (bs, bs.length))) :
    bd (lp step ([], 0)) k = k (ids.map newBridge, ids.length) := by
  have := lp_at (step := step) ids.length (fun i => ((ids.take i).map newBridge, (i : Int))) (ids.map newBridge, ids.length) (fun i hi => by
    rw [h1 i _ hi (by simp; omega)]
    rw [List.take_succ, List.map_append]
    simp [List.getD_eq_getElem?_getD, hi]) (by
    rw [h2 _ (by simp)]
    simp)
  have e : lp step ([], 0) = some (ids.map newBridge, ids.length) := by simpa using this
  rw [e, bd_val]
theorem clone_p {ls : List TreeLink} (h : ls.length ≤ 1048576) : impl_clone_TreeLink_m ls = some ls := by
  unfold impl_clone_TreeLink_m
  rw [gd_pos (by omega), gd_pos (by simp; omega)]
  simp
theorem copy_p {w : TreeWorld} (h : w.Len 1048576) : spec_l82Copy_m w = some w := by
  obtain ⟨h1, h2, h3, h4, h5, h6⟩ := h
  unfold spec_l82Copy_m
  rw [gd_pos (by omega), gd_pos (by omega), gd_pos (by omega), gd_pos (by omega), gd_pos (by omega), gd_pos (by omega)]
theorem implOpen_p {ids : List Int} {ls : List TreeLink} (h0 : ids.length ≤ 1048576) (hl : ls.length ≤ 1048576) : impl_TreeOpenWorld_m ids ls = some (openWorld ids ls) := by
  unfold impl_TreeOpenWorld_m openWorld
  rw [implLinksOk_p _ (by omega), bd_val]
  cases h : linksOk ids.length ls
  · simp [noWorld]
  · have hlen := linksOk_len h
    have hw := newWorld_len h
    rw [if_neg (by decide), clone_p hl, bd_val, gd_pos (by omega), gd_pos (by omega)]
    refine (bridges_p (ids := ids) (fun i bs hi hb => ?_) (fun bs hb => by rw [if_neg (by simp)])).trans ?_
    · rw [if_pos (by simp; omega), gd_pos (by dsimp only; omega)]
      simp only [selfMind_p, bd_val, Int.toNat_natCast]
      rw [gd_pos (by simp; omega), wrap_succ hi (by omega)]
      rfl
    · dsimp only
      have := implWorldOk_p (w := newWorld ids ls) (by have := hw.b; omega) (by have := hw.l; omega) (by have := hw.d; omega) (by have := hw.r; omega)
      unfold newWorld at this ⊢
      rw [Int.toNat_natCast, this, bd_val]
      cases worldOk ⟨ids.map newBridge, ls, [], List.replicate ls.length default, List.replicate ls.length default, []⟩ <;> simp [noWorld]
theorem specOpen_p {ids : List Int} {ls : List TreeLink} (h0 : ids.length ≤ 1048576) (hl : ls.length ≤ 1048576) : spec_TreeOpenWorld_m ids ls = some (openWorld ids ls) := by
  unfold spec_TreeOpenWorld_m openWorld
  rw [specLinksOk_p _ (by omega), bd_val]
  cases h : linksOk ids.length ls
  · simp [noWorld]
  · have hlen := linksOk_len h
    have hw := newWorld_len h
    rw [if_neg (by decide), gd_pos (by omega), gd_pos (by omega)]
    refine (bridges_p (ids := ids) (fun i bs hi hb => ?_) (fun bs hb => by rw [if_neg (by simp)])).trans ?_
    · rw [if_pos (by simp; omega), gd_pos (by dsimp only; omega), gd_pos (by dsimp only; omega), show ∀ a, spec_l82Self_m a = some ⟨⟨a, 0, 0⟩, -1⟩ from fun _ => rfl]
      simp only [bd_val, Int.toNat_natCast]
      rw [gd_pos (by simp; omega), wrap_succ hi (by omega)]
      rfl
    · dsimp only
      have := specWorldOk_p (w := newWorld ids ls) (by have := hw.b; omega) (by have := hw.l; omega) (by have := hw.d; omega) (by have := hw.r; omega)
      have hc := copy_p (w := newWorld ids ls) (Len.mono hw (by omega))
      unfold newWorld at this hc ⊢
      rw [Int.toNat_natCast, this, bd_val, hc]
      cases worldOk ⟨ids.map newBridge, ls, [], List.replicate ls.length default, List.replicate ls.length default, []⟩ <;> simp [noWorld]


end Go.Proofs.Ytbolhcpkpncmfaa
