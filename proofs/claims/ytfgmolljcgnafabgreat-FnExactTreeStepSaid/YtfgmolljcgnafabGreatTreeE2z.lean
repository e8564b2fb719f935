/-
  Plain Lean: a step in any world, ok or not; the row FnExactTreeStep.
-/
import Derived.Test.YtfgmolljcgnafabGreatKz4
import Derived.Test.YtfgmolljcgnafabGreatTreeRo3z
import Derived.Test.YtfgmolljcgnafabGreatTreeMz
set_option linter.all false
namespace Go.Proofs.YtfgmolljcgnafabGreat
open Go Go.Ab
set_option maxHeartbeats 400000
def stepV (w:TreeWorld) (e:TreeEvent):TreeWorld := if worldOk w = true then doEv w e else ⟨[],[],[],[],[],[]⟩
theorem stepV_len (w:TreeWorld) (e:TreeEvent):(stepV w e).Len 1048576 := by
  unfold stepV;split
  · rename_i h;exact Len.mono (do_good (good_iff.1 h) e).1.len (by omega)
  · exact ⟨by simp,by simp,by simp,by simp,by simp,by simp⟩
theorem iStepV_p {w:TreeWorld} (h:w.Len 9223372036854775807) (e:TreeEvent):impl_TreeStep_pu_o00_01_02_03_04_05_m w e = some (stepV w e) := by
  unfold stepV
  cases hw:worldOk w
  · rw [iStepO_no h hw]; rfl
  · rw [iStepO_p (good_iff.1 hw)]; rfl
theorem sStepV_p {w:TreeWorld} (h:w.Len 9223372036854775807) (e:TreeEvent):spec_TreeStep_m w e = some (stepV w e) := by
  unfold stepV
  cases hw:worldOk w
  · unfold spec_TreeStep_m;rw [specWorldOk_p h.b h.l h.d h.r,bd_val,hw]; rfl
  · rw [sStep_p (good_iff.1 hw)]; rfl
theorem toTreeEvent_p (e:TreeEvent):laws_toTreeEvent_m e = some e := rfl
theorem fnExactTreeStep_p {a0:TreeWorld} {a1:TreeEvent} (h:a0.Fit) (_:a1.Fit):laws_FnExactTreeStep_m a0 a1 = some true := by
  have h := fit_lens h;unfold laws_FnExactTreeStep_m;obtain ⟨x,hx,hl⟩ := szTreeWorld_p h;rw [hx,bd_val]
  by_cases h0:x < 0
  · rw [if_pos (by simpa using h0)]
  · have h1 := hl h0;have hp := stepV_len a0 a1;have is := iStepV_p h a1;have ss := sStepV_p h a1;generalize stepV a0 a1 = v at *;obtain ⟨m1,m2,m3,m4,m5,m6⟩ := marked_len (w := a0);obtain ⟨n1,n2,n3,n4,n5,n6⟩ := marked_len (w := v);rw [if_neg (by simpa using h0)];simp only [toTreeWorld_p h1,toTreeEvent_p,ss,is,eqTreeWorld_p hp,eqTreeWorld_p h1,bd_val,decide_true,Bool.not_true,Bool.false_eq_true,if_false];rw [markTreeWorld_p h1,bd_val];dsimp only;have hm:¬ a0.marks < 0 := by unfold TreeWorld.marks; omega
    have hv:¬ v.marks < 0 := by unfold TreeWorld.marks; omega
    rw [gd_pos m1,gd_pos m2,gd_pos m3,gd_pos m4,gd_pos m5,gd_pos m6,gcall_pos (by simpa using hm),bd_val,if_neg (by simp [hm]),markTreeWorld_p hp,bd_val];dsimp only;rw [gd_pos n1,gd_pos n2,gd_pos n3,gd_pos n4,gd_pos n5,gd_pos n6];simp only [heldTreeWorld_p hp,bd_val];simp [hv]
end Go.Proofs.YtfgmolljcgnafabGreat
