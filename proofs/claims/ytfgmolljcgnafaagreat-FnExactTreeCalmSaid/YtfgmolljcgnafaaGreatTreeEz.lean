/-
  Plain Lean: a calm of any world, ok or not; the row FnExactTreeCalm.
-/
import Derived.Test.YtfgmolljcgnafaaGreatKz4
import Derived.Test.YtfgmolljcgnafaaGreatTreeRo2z
import Derived.Test.YtfgmolljcgnafaaGreatTreeMz
set_option linter.all false
namespace Go.Proofs.YtfgmolljcgnafaaGreat
open Go Go.Ab
set_option maxHeartbeats 400000
def calmV (w:TreeWorld) (r a:Int):TreeWorld := if worldOk w = true then itN (roundR (off w a)) (rnds r) w else ⟨[],[],[],[],[],[]⟩
theorem calmV_len (w:TreeWorld) (r a:Int):(calmV w r a).Len 1048576 := by
  unfold calmV;split
  · rename_i h;exact Len.mono (kp_it (good_iff.1 h) _).g.len (by omega)
  · exact ⟨by simp,by simp,by simp,by simp,by simp,by simp⟩
theorem iCalmV_p {w:TreeWorld} (h:w.Len 9223372036854775807) (r a:Int):impl_TreeCalm_pu_o00_01_02_03_04_05_m w r a = some (calmV w r a) := by
  unfold calmV
  cases hw:worldOk w
  · rw [iCalmO_no h hw]; rfl
  · rw [iCalmO_p (good_iff.1 hw)]; rfl
theorem sCalmV_p {w:TreeWorld} (h:w.Len 9223372036854775807) (r a:Int):spec_TreeCalm_m w r a = some (calmV w r a) := by
  unfold calmV
  cases hw:worldOk w
  · rw [sCalm_no h hw]; rfl
  · rw [sCalm_p (good_iff.1 hw)]; rfl
theorem fnExactTreeCalm_p {a0:TreeWorld} {a1 a2:Int} (h:a0.Fit) (_:Fits a1) (_:Fits a2):laws_FnExactTreeCalm_m a0 a1 a2 = some true := by
  have h := fit_lens h;unfold laws_FnExactTreeCalm_m;obtain ⟨x,hx,hl⟩ := szTreeWorld_p h;rw [hx,bd_val]
  by_cases h0:x < 0
  · rw [if_pos (by simpa using h0)]
  · have h1 := hl h0;have hp := calmV_len a0 a1 a2;have is := iCalmV_p h a1 a2;have ss := sCalmV_p h a1 a2;generalize calmV a0 a1 a2 = v at *;obtain ⟨m1,m2,m3,m4,m5,m6⟩ := marked_len (w := a0);obtain ⟨n1,n2,n3,n4,n5,n6⟩ := marked_len (w := v);rw [if_neg (by simpa using h0)];simp only [toTreeWorld_p h1,ss,is,eqTreeWorld_p hp,eqTreeWorld_p h1,bd_val,decide_true,Bool.not_true,Bool.false_eq_true,if_false];rw [markTreeWorld_p h1,bd_val];dsimp only;have hm:¬ a0.marks < 0 := by unfold TreeWorld.marks; omega
    have hv:¬ v.marks < 0 := by unfold TreeWorld.marks; omega
    rw [gd_pos m1,gd_pos m2,gd_pos m3,gd_pos m4,gd_pos m5,gd_pos m6,gcall_pos (by simpa using hm),bd_val,if_neg (by simp [hm]),markTreeWorld_p hp,bd_val];dsimp only;rw [gd_pos n1,gd_pos n2,gd_pos n3,gd_pos n4,gd_pos n5,gd_pos n6];simp only [heldTreeWorld_p hp,bd_val];simp [hv]
end Go.Proofs.YtfgmolljcgnafaaGreat
