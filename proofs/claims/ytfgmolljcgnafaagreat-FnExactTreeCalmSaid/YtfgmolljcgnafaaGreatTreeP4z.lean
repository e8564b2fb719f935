/-
  Plain Lean: the laws' own helpers on worlds; the row FnExactTreeWorldOk in plain Lean.
-/
import Derived.Test.YtfgmolljcgnafaaGreatKz4
import Derived.Test.YtfgmolljcgnafaaGreatTreePz
set_option linter.all false
namespace Go.Proofs.YtfgmolljcgnafaaGreat
open Go Go.Ab
set_option maxHeartbeats 400000
def szI (l:Nat) (n:Int):Int := if n - (l:Int) < 0 then -1 else n - l
theorem toIntS_p {xs:List Int} (h:xs.length ≤ 1048576):laws_toIntS_m xs = some xs := by
  unfold laws_toIntS_m;rw [gd_pos (by omega),lp_copy (fun i ys hi hy => ?_) (fun ys hy => by rw [if_neg (by simp)])]
  · rfl
  · dsimp only;rw [if_pos (by simp; omega),gd_pos (by omega),gd_pos (by omega),wrap_succ hi (by omega),Int.toNat_natCast]
theorem eqIntS_p {xs ys:List Int} (h:xs.length ≤ 1048576):laws_eqIntS_m xs ys = some (decide (xs = ys)) := by
  unfold laws_eqIntS_m
  by_cases hl:xs.length = ys.length
  · rw [if_neg (by simp; omega),lp_all xs.length (fun i => decide (xs.getD i default = ys.getD i default)) (.inl ()) (.inr ()) (fun i hi _ => ?_) (fun _ => by rw [if_neg (by simp)]),list_eq hl]
    · cases decide (xs = ys) <;> rfl
    · rw [if_pos (by simp; omega),gd_pos (by omega),gd_pos (by omega),Int.toNat_natCast,wrap_succ hi (by omega)]
      by_cases hh:xs.getD i default = ys.getD i default
      · rw [if_neg (by simp only [bne_iff_ne]; exact fun h => h hh),decide_eq_true hh]; rfl
      · rw [if_pos (by simp only [bne_iff_ne]; exact hh),decide_eq_false hh]; rfl
  · rw [if_pos (by simp; omega)];have:xs ≠ ys := fun e => hl (by rw [e]);simp [this]
theorem szIntS_p {xs:List Int} {n:Int} (h:xs.length ≤ 9223372036854775807) (h0:0 ≤ n) (h1:n ≤ 1048576):laws_szIntS_m xs n = some (szI xs.length n) := by
  unfold laws_szIntS_m szI;rw [wrap_i64 (by omega) (by omega)]
  by_cases hh:n - (xs.length:Int) < 0
  · rw [if_pos (by simpa using hh),if_pos hh]
  · rw [if_neg (by simpa using hh),if_neg hh]
theorem eqTreeVector_p (a b:TreeVector):laws_eqTreeVector_m a b = some (decide (a = b)) := by
  unfold laws_eqTreeVector_m
  cases a; cases b
  simp only [bne_iff_ne,ne_eq,TreeVector.mk.injEq,bd_val]
  repeat' split
  all_goals simp_all
@[simp] theorem toTreeLink_p (a:TreeLink):laws_toTreeLink_m a = some a := rfl
theorem eqTreeLink_p (a b:TreeLink):laws_eqTreeLink_m a b = some (decide (a = b)) := by
  unfold laws_eqTreeLink_m
  cases a; cases b
  simp only [bne_iff_ne,ne_eq,TreeLink.mk.injEq,bd_val]
  repeat' split
  all_goals simp_all
theorem toTreeLinkS_p {xs:List TreeLink} (h:xs.length ≤ 1048576):laws_toTreeLinkS_m xs = some xs := by
  unfold laws_toTreeLinkS_m;rw [gd_pos (by omega),lp_copy (fun i ys hi hy => ?_) (fun ys hy => by rw [if_neg (by simp)])]
  · rfl
  · dsimp only;rw [if_pos (by simp; omega),gd_pos (by omega),toTreeLink_p,bd_val,gd_pos (by omega),wrap_succ hi (by omega),Int.toNat_natCast]
theorem eqTreeLinkS_p {xs ys:List TreeLink} (h:xs.length ≤ 1048576):laws_eqTreeLinkS_m xs ys = some (decide (xs = ys)) := by
  unfold laws_eqTreeLinkS_m
  by_cases hl:xs.length = ys.length
  · rw [if_neg (by simp; omega),lp_all xs.length (fun i => decide (xs.getD i default = ys.getD i default)) (.inl ()) (.inr ()) (fun i hi _ => ?_) (fun _ => by rw [if_neg (by simp)]),list_eq hl]
    · cases decide (xs = ys) <;> rfl
    · rw [if_pos (by simp; omega),gd_pos (by omega),gd_pos (by omega),eqTreeLink_p,bd_val,Int.toNat_natCast,wrap_succ hi (by omega)]
      cases decide (xs.getD i default = ys.getD i default) <;> rfl
  · rw [if_pos (by simp; omega)];have:xs ≠ ys := fun e => hl (by rw [e]);simp [this]
theorem szTreeLinkS_p {xs:List TreeLink} {n:Int} (h:xs.length ≤ 9223372036854775807) (h0:0 ≤ n) (h1:n ≤ 1048576):laws_szTreeLinkS_m xs n = some (szI xs.length n) := by
  unfold laws_szTreeLinkS_m szI;rw [wrap_i64 (by omega) (by omega)]
  by_cases hh:n - (xs.length:Int) < 0
  · rw [if_pos (by simpa using hh),if_pos hh]
  · rw [if_neg (by simpa using hh),if_neg hh]
theorem eqTreeMind_p (a b:TreeMind):laws_eqTreeMind_m a b = some (decide (a = b)) := by
  unfold laws_eqTreeMind_m
  cases a; cases b
  simp only [bne_iff_ne,ne_eq,TreeMind.mk.injEq,eqTreeVector_p,bd_val]
  repeat' split
  all_goals simp_all
@[simp] theorem toTreeBridge_p (a:TreeBridge):laws_toTreeBridge_m a = some a := rfl
theorem eqTreeBridge_p (a b:TreeBridge):laws_eqTreeBridge_m a b = some (decide (a = b)) := by
  unfold laws_eqTreeBridge_m
  cases a; cases b
  simp only [bne_iff_ne,ne_eq,TreeBridge.mk.injEq,eqTreeMind_p,bd_val]
  repeat' split
  all_goals simp_all
theorem toTreeBridgeS_p {xs:List TreeBridge} (h:xs.length ≤ 1048576):laws_toTreeBridgeS_m xs = some xs := by
  unfold laws_toTreeBridgeS_m;rw [gd_pos (by omega),lp_copy (fun i ys hi hy => ?_) (fun ys hy => by rw [if_neg (by simp)])]
  · rfl
  · dsimp only;rw [if_pos (by simp; omega),gd_pos (by omega),toTreeBridge_p,bd_val,gd_pos (by omega),wrap_succ hi (by omega),Int.toNat_natCast]
theorem eqTreeBridgeS_p {xs ys:List TreeBridge} (h:xs.length ≤ 1048576):laws_eqTreeBridgeS_m xs ys = some (decide (xs = ys)) := by
  unfold laws_eqTreeBridgeS_m
  by_cases hl:xs.length = ys.length
  · rw [if_neg (by simp; omega),lp_all xs.length (fun i => decide (xs.getD i default = ys.getD i default)) (.inl ()) (.inr ()) (fun i hi _ => ?_) (fun _ => by rw [if_neg (by simp)]),list_eq hl]
    · cases decide (xs = ys) <;> rfl
    · rw [if_pos (by simp; omega),gd_pos (by omega),gd_pos (by omega),eqTreeBridge_p,bd_val,Int.toNat_natCast,wrap_succ hi (by omega)]
      cases decide (xs.getD i default = ys.getD i default) <;> rfl
  · rw [if_pos (by simp; omega)];have:xs ≠ ys := fun e => hl (by rw [e]);simp [this]
theorem szTreeBridgeS_p {xs:List TreeBridge} {n:Int} (h:xs.length ≤ 9223372036854775807) (h0:0 ≤ n) (h1:n ≤ 1048576):laws_szTreeBridgeS_m xs n = some (szI xs.length n) := by
  unfold laws_szTreeBridgeS_m szI;rw [wrap_i64 (by omega) (by omega)]
  by_cases hh:n - (xs.length:Int) < 0
  · rw [if_pos (by simpa using hh),if_pos hh]
  · rw [if_neg (by simpa using hh),if_neg hh]
@[simp] theorem toTreeSlot_p (a:TreeSlot):laws_toTreeSlot_m a = some a := rfl
theorem eqTreeSlot_p (a b:TreeSlot):laws_eqTreeSlot_m a b = some (decide (a = b)) := by
  unfold laws_eqTreeSlot_m
  cases a; cases b
  simp only [bne_iff_ne,ne_eq,TreeSlot.mk.injEq,eqTreeVector_p,bd_val]
  repeat' split
  all_goals simp_all
theorem toTreeSlotS_p {xs:List TreeSlot} (h:xs.length ≤ 1048576):laws_toTreeSlotS_m xs = some xs := by
  unfold laws_toTreeSlotS_m;rw [gd_pos (by omega),lp_copy (fun i ys hi hy => ?_) (fun ys hy => by rw [if_neg (by simp)])]
  · rfl
  · dsimp only;rw [if_pos (by simp; omega),gd_pos (by omega),toTreeSlot_p,bd_val,gd_pos (by omega),wrap_succ hi (by omega),Int.toNat_natCast]
theorem eqTreeSlotS_p {xs ys:List TreeSlot} (h:xs.length ≤ 1048576):laws_eqTreeSlotS_m xs ys = some (decide (xs = ys)) := by
  unfold laws_eqTreeSlotS_m
  by_cases hl:xs.length = ys.length
  · rw [if_neg (by simp; omega),lp_all xs.length (fun i => decide (xs.getD i default = ys.getD i default)) (.inl ()) (.inr ()) (fun i hi _ => ?_) (fun _ => by rw [if_neg (by simp)]),list_eq hl]
    · cases decide (xs = ys) <;> rfl
    · rw [if_pos (by simp; omega),gd_pos (by omega),gd_pos (by omega),eqTreeSlot_p,bd_val,Int.toNat_natCast,wrap_succ hi (by omega)]
      cases decide (xs.getD i default = ys.getD i default) <;> rfl
  · rw [if_pos (by simp; omega)];have:xs ≠ ys := fun e => hl (by rw [e]);simp [this]
theorem szTreeSlotS_p {xs:List TreeSlot} {n:Int} (h:xs.length ≤ 9223372036854775807) (h0:0 ≤ n) (h1:n ≤ 1048576):laws_szTreeSlotS_m xs n = some (szI xs.length n) := by
  unfold laws_szTreeSlotS_m szI;rw [wrap_i64 (by omega) (by omega)]
  by_cases hh:n - (xs.length:Int) < 0
  · rw [if_pos (by simpa using hh),if_pos hh]
  · rw [if_neg (by simpa using hh),if_neg hh]
@[simp] theorem toTreeWord_p (a:TreeWord):laws_toTreeWord_m a = some a := rfl
theorem eqTreeWord_p (a b:TreeWord):laws_eqTreeWord_m a b = some (decide (a = b)) := by
  unfold laws_eqTreeWord_m
  cases a; cases b
  simp only [bne_iff_ne,ne_eq,TreeWord.mk.injEq,eqTreeVector_p,bd_val]
  repeat' split
  all_goals simp_all
theorem toTreeWordS_p {xs:List TreeWord} (h:xs.length ≤ 1048576):laws_toTreeWordS_m xs = some xs := by
  unfold laws_toTreeWordS_m;rw [gd_pos (by omega),lp_copy (fun i ys hi hy => ?_) (fun ys hy => by rw [if_neg (by simp)])]
  · rfl
  · dsimp only;rw [if_pos (by simp; omega),gd_pos (by omega),toTreeWord_p,bd_val,gd_pos (by omega),wrap_succ hi (by omega),Int.toNat_natCast]
theorem eqTreeWordS_p {xs ys:List TreeWord} (h:xs.length ≤ 1048576):laws_eqTreeWordS_m xs ys = some (decide (xs = ys)) := by
  unfold laws_eqTreeWordS_m
  by_cases hl:xs.length = ys.length
  · rw [if_neg (by simp; omega),lp_all xs.length (fun i => decide (xs.getD i default = ys.getD i default)) (.inl ()) (.inr ()) (fun i hi _ => ?_) (fun _ => by rw [if_neg (by simp)]),list_eq hl]
    · cases decide (xs = ys) <;> rfl
    · rw [if_pos (by simp; omega),gd_pos (by omega),gd_pos (by omega),eqTreeWord_p,bd_val,Int.toNat_natCast,wrap_succ hi (by omega)]
      cases decide (xs.getD i default = ys.getD i default) <;> rfl
  · rw [if_pos (by simp; omega)];have:xs ≠ ys := fun e => hl (by rw [e]);simp [this]
theorem szTreeWordS_p {xs:List TreeWord} {n:Int} (h:xs.length ≤ 9223372036854775807) (h0:0 ≤ n) (h1:n ≤ 1048576):laws_szTreeWordS_m xs n = some (szI xs.length n) := by
  unfold laws_szTreeWordS_m szI;rw [wrap_i64 (by omega) (by omega)]
  by_cases hh:n - (xs.length:Int) < 0
  · rw [if_pos (by simpa using hh),if_pos hh]
  · rw [if_neg (by simpa using hh),if_neg hh]
structure TreeWorld.Len (w:TreeWorld) (n:Nat):Prop where
  b:w.Bridges.length ≤ n
  l:w.Links.length ≤ n
  d:w.Down.length ≤ n
  a:w.AtA.length ≤ n
  z:w.AtB.length ≤ n
  r:w.Radio.length ≤ n
theorem szTreeWorld_p {w:TreeWorld} (h:w.Len 9223372036854775807):∃ x,laws_szTreeWorld_m w 1048576 = some x ∧ (¬ x < 0 → w.Len 1048576) := by
  obtain ⟨h1,h2,h3,h4,h5,h6⟩ := h;unfold laws_szTreeWorld_m;have key:∀ (l:Nat) (n:Int),0 ≤ n → n ≤ 1048576 → (szI l n < 0 ∧ ∀ f:Option Int,(if decide (szI l n < 0) = true then some (-1) else f) = some (-1)) ∨ (szI l n = n - l ∧ 0 ≤ n - l ∧ ∀ f:Option Int,(if decide (szI l n < 0) = true then some (-1) else f) = f) := by
    intro l n h0 h1;unfold szI
    by_cases hh:n - (l:Int) < 0
    · exact .inl ⟨by rw [if_pos hh]; omega,fun f => by rw [if_pos (by simp [hh])]⟩
    · exact .inr ⟨by rw [if_neg hh],by omega,fun f => by rw [if_neg (by simp [hh])]⟩
  have bad:∀ {x:Int},x = -1 → (¬ x < 0 → w.Len 1048576) := fun e h => absurd (by omega) h;rw [szTreeBridgeS_p h1 (by omega) (by omega),bd_val];rcases key w.Bridges.length 1048576 (by omega) (by omega) with ⟨_,e⟩ | ⟨e1,g1,e⟩
  · exact ⟨-1,e _,bad rfl⟩
  rw [e,e1,szTreeLinkS_p h2 g1 (by omega),bd_val];rcases key w.Links.length _ g1 (by omega) with ⟨_,e⟩ | ⟨e2,g2,e⟩
  · exact ⟨-1,e _,bad rfl⟩
  rw [e,e2,szIntS_p h3 g2 (by omega),bd_val];rcases key w.Down.length _ g2 (by omega) with ⟨_,e⟩ | ⟨e3,g3,e⟩
  · exact ⟨-1,e _,bad rfl⟩
  rw [e,e3,szTreeSlotS_p h4 g3 (by omega),bd_val];rcases key w.AtA.length _ g3 (by omega) with ⟨_,e⟩ | ⟨e4,g4,e⟩
  · exact ⟨-1,e _,bad rfl⟩
  rw [e,e4,szTreeSlotS_p h5 g4 (by omega),bd_val];rcases key w.AtB.length _ g4 (by omega) with ⟨_,e⟩ | ⟨e5,g5,e⟩
  · exact ⟨-1,e _,bad rfl⟩
  rw [e,e5,szTreeWordS_p h6 g5 (by omega),bd_val];rcases key w.Radio.length _ g5 (by omega) with ⟨_,e⟩ | ⟨e6,g6,e⟩
  · exact ⟨-1,e _,bad rfl⟩
  exact ⟨_,by rw [e],fun _ => ⟨by omega,by omega,by omega,by omega,by omega,by omega⟩⟩
theorem toTreeWorld_p {w:TreeWorld} (h:w.Len 1048576):laws_toTreeWorld_m w = some w := by
  unfold laws_toTreeWorld_m;rw [toTreeBridgeS_p h.b,bd_val,toTreeLinkS_p h.l,bd_val,toIntS_p h.d,bd_val,toTreeSlotS_p h.a,bd_val,toTreeSlotS_p h.z,bd_val,toTreeWordS_p h.r,bd_val]
theorem eqTreeWorld_p {a b:TreeWorld} (h:a.Len 1048576):laws_eqTreeWorld_m a b = some (decide (a = b)) := by
  unfold laws_eqTreeWorld_m;rw [eqTreeBridgeS_p h.b,eqTreeLinkS_p h.l,eqIntS_p h.d,eqTreeSlotS_p h.a,eqTreeSlotS_p h.z,eqTreeWordS_p h.r]
  cases a; cases b
  simp only [TreeWorld.mk.injEq,bd_val]
  repeat' split
  all_goals simp_all
end Go.Proofs.YtfgmolljcgnafaaGreat
