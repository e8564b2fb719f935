/-
  Plain Lean: a calm whose rows stay the caller's own.
-/
import Derived.Test.YtfgmolljcgnafaaGreatKz4
import Derived.Test.YtfgmolljcgnafaaGreatTreeRoz
set_option linter.all false
namespace Go.Proofs.YtfgmolljcgnafaaGreat
open Go Go.Ab
set_option maxHeartbeats 400000
theorem iDrainO_p {w:TreeWorld} (h:Good w) (hr:0 < w.Radio.length):impl_TreeWorld_onWord_r01_02_k00_01_02_03_04_05_m w 2 0 = some (words w ⟨2,0,0⟩) := by
  have hr' := h.rl;unfold impl_TreeWorld_onWord_r01_02_k00_01_02_03_04_05_m words;have hi:inR 0 0 ((w.Radio.length:Int) - 1) = true := inR_iff.2 ⟨Int.le_refl _,by omega⟩;have hx:wordOk w (w.Radio.getD 0 default) = true := h.radio _ hr;rw [wrap_i64 (by omega) (by omega),within_p,bd_val,hi,if_neg (by decide),gd_pos (by omega),if_pos rfl,if_neg (by decide),if_pos rfl];unfold slices_Delete_TreeWord_TreeWord_m;rw [wrap_i64 (by omega) (by omega),gd_pos (by omega),bd_val,if_pos (by decide)];exact (bd_of (iHearO_p (good_out h (a := 0) hr) hx)).trans rfl
theorem iCopyO_p (w:TreeWorld):impl_copyTree_o00_01_02_03_04_05_m w = impl_copyTree_m w := rfl
theorem iCalmO_p {w:TreeWorld} (h:Good w) (r a:Int):impl_TreeCalm_pu_o00_01_02_03_04_05_m w r a = some (itN (roundR (off w a)) (rnds r) w) := by
  have hl := h.len;have h12 := h.l12;unfold impl_TreeCalm_pu_o00_01_02_03_04_05_m;rw [implWorldOk_p (by have := hl.b; omega) (by have := hl.l; omega) (by have := hl.d; omega) (by have := hl.r; omega),bd_val,good_iff.2 h,if_neg (by decide),iCopyO_p,iCopy_p (Len.mono hl (by omega)),bd_val];have hr60:rnds r ≤ 60 := by unfold rnds; omega
  refine (bd_fold (fun (v:TreeWorld) i => (v.Bridges,v.Links,v.Down,v.AtA,v.AtB,v.Radio,(i:Int))) (rnds r) (fun v _ => roundR (off w a) v) (fun v => (v.Bridges.length,v.Links.length,v.Down.length,v.AtA.length,v.AtB.length,v.Radio.length,v.Bridges,v.Links,v.Down,v.AtA,v.AtB,v.Radio)) w (fun _ v => Kp w v) rfl (.refl h) (fun i v hi hv => hv.trans (kp_round hv.g)) ?_ ?_).trans ?_
  · intro i u hi hu;dsimp only;rw [rnds_p,if_pos (by simp; omega),wrap_i64 (n := (i:Int) + 1) (by omega) (by omega)];refine (bd_fold (fun (v:TreeWorld) _ => (v.Bridges,v.Links,v.Down,v.AtA,v.AtB,v.Radio)) u.Radio.length drainStep (fun v => (v.Bridges.length,v.Links.length,v.Down.length,v.AtA.length,v.AtB.length,v.Radio.length,v.Bridges,v.Links,v.Down,v.AtA,v.AtB,v.Radio)) u (DrI u u.Radio.length) rfl ⟨.refl hu.g,by simp⟩ (fun i v hi hv => dri_step hi hv) ?_ ?_).trans ?_
    · intro i v hi hv;have := hv.2;dsimp only;rw [if_pos (decide_eq_true (by omega))];exact (bd_of (iDrainO_p hv.1.g (by omega))).trans rfl
    · intro v hv;have := hv.2;dsimp only;rw [if_neg (fun hh => by have := of_decide_eq_true hh; omega)]
    · change bd (lp _ ((drain u).Bridges,(drain u).Links,(drain u).Down,(drain u).AtA,(drain u).AtB,(drain u).Radio,0)) _ = _
      have kd := hu.trans (kp_drain hu.g);have hul:u.Links.length = w.Links.length := congrArg List.length hu.s.links;refine (bd_fold (fun (v:TreeWorld) i => (v.Bridges,v.Links,v.Down,v.AtA,v.AtB,v.Radio,(i:Int))) w.Links.length (linkR (off w a)) (fun v => (v.Bridges.length,v.Links.length,v.Down.length,v.AtA.length,v.AtB.length,v.Radio.length,v.Bridges,v.Links,v.Down,v.AtA,v.AtB,v.Radio)) (drain u) (fun _ v => Kp w v) rfl kd (fun i v hi hv => hv.trans (kp_linkR hv.g (by rw [hv.s.links]; omega))) ?_ ?_).trans ?_
      · intro i v hi hv;have hvl:v.Links.length = w.Links.length := congrArg List.length hv.s.links;have eo:(if 0 > a then 0 else a).tmod ((w.Links.length:Nat):Int) = ((off w a:Nat):Int) := by
          have e0:(if 0 > a then 0 else a) = ((a.toNat:Nat):Int) := by split <;> omega
          unfold off;rw [e0,if_neg (show ¬ w.Links.length = 0 by omega),Int.ofNat_tmod]
        have hoff := off_le h a;dsimp only;rw [if_pos (by simp; omega),gd_pos (by omega),gd_pos (by omega),eo,wrap_i64 (n := ((off w a:Nat):Int) + (i:Int)) (by omega) (by omega),modI,Nat.add_comm (off w a) i];have hk:(i + off w a) % w.Links.length < v.Links.length := by rw [hvl]; exact Nat.mod_lt _ (by omega)
        rw [implOpenL_p hv.g.wok (by have := hv.g.len.d; omega) hk,bd_val];unfold linkR;rw [hvl]
        by_cases ho:isOpen v ((i + off w a) % w.Links.length) = true
        · obtain ⟨a1,b,c,d⟩ := linkR_ok hv.g hk ho;rw [if_pos ho,if_pos ho,wrap_succ hi (by omega)];refine (bd_of (told_p hv.g hk (.inl rfl))).trans ?_;refine (bd_of (iHearO_p hv.g a1)).trans ?_;refine (bd_of (told_p b c (.inr rfl))).trans ?_;exact (bd_of (iHearO_p b d)).trans rfl
        · rw [if_neg ho,if_neg ho,wrap_succ hi (by omega)]
      · intro v hv;dsimp only;rw [if_neg (by simp)]
      · have k := hu.trans (kp_links (t := off w a) (kp_drain hu.g) _ (Nat.le_refl _));rw [hul] at k;have er:roundR (off w a) u = ticked ((List.range w.Links.length).foldl (linkR (off w a)) (drain u)) := by unfold roundR; rw [hul]
        rw [er];generalize (List.range w.Links.length).foldl (linkR (off w a)) (drain u) = v at *;exact (bd_of (iTickO_p k.g)).trans rfl
  · intro v hv;dsimp only;rw [rnds_p,if_neg (by simp)]
  · rw [itN_fold]
theorem iCalmO_no {w:TreeWorld} (hl:w.Len 9223372036854775807) (h:worldOk w = false) (r a:Int):impl_TreeCalm_pu_o00_01_02_03_04_05_m w r a = some ⟨[],[],[],[],[],[]⟩ := by
  unfold impl_TreeCalm_pu_o00_01_02_03_04_05_m;rw [implWorldOk_p hl.b hl.l hl.d hl.r,bd_val,h]; rfl
end Go.Proofs.YtfgmolljcgnafaaGreat
