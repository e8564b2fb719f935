/-
  Plain Lean: what is known of a world that is ok.
-/
import Derived.Test.YtejhbiefhpgjeaaGreatKz5
import Derived.Test.YtejhbiefhpgjeaaGreatTreeP4z
import Derived.Test.YtejhbiefhpgjeaaGreatArgz
set_option linter.all false
namespace Go.Proofs.YtejhbiefhpgjeaaGreat
open Go Go.Ab
set_option maxHeartbeats 400000
structure WOk (w:TreeWorld):Prop where
  l:w.Links.length≤9223372036854775807
  link:linksOk w.Bridges.length w.Links=true
  a:w.AtA.length=w.Links.length
  b:w.AtB.length=w.Links.length
  slots:∀ i,i < w.Links.length→slotOk (w.AtA.getD i default)=true∧slotOk (w.AtB.getD i default)=true
  br:∀ i,i < w.Bridges.length→bridgeOk w i=true
theorem wOk {w:TreeWorld} (h:w.Len 9223372036854775807) (h1:worldOk w=true):WOk w:=by
  simp only [worldOk,Bool.and_eq_true,decide_eq_true_eq] at h1;obtain ⟨⟨⟨⟨⟨a1,a2⟩,⟨a3,a4⟩,a5⟩,a6⟩,a7⟩,a8⟩:=h1;refine ⟨h.l,a1,a3,a4,fun i hi=>?_,fun i hi=>allR_get a2 hi⟩;have:=allR_get a8 hi;simp only [endsOk,endOk,Bool.and_eq_true] at this;exact ⟨this.1.1,this.2.1⟩
theorem WOk.slot {w:TreeWorld} (h:WOk w) {i:Nat} (hi:i < w.Links.length) (e:Int):slotOk (slotAt w i e)=true:=by
  have:=h.slots i hi;unfold slotAt;split
  · exact this.1
  · exact this.2
theorem WOk.vec {w:TreeWorld} (h:WOk w) {i:Nat} (hi:i < w.Links.length) (e:Int):vecOk (slotAt w i e).Vector=true:=by
  have:=h.slot hi e;simp only [slotOk,Bool.and_eq_true] at this;exact this.1.1
theorem vec_in {v:TreeVector} (h:vecOk v=true):0≤v.Root∧v.Root≤1000∧0≤v.Cost∧v.Cost≤1000∧0≤v.Age∧v.Age≤10∧(v.Root=0→nothing v=true)∧(nothing v=true→v.Root=0):=by
  have:=vecOk_root h;unfold vecOk at h;simp only [Bool.or_eq_true,Bool.and_eq_true,inR_iff] at h;rcases h with h | h
  · have h':=h;simp [nothing] at h';refine ⟨by omega,by omega,by omega,by omega,by omega,by omega,fun _=>h,fun _=>by omega⟩
  · refine ⟨by omega,by omega,by omega,by omega,by omega,by omega,fun e=>by rw [this,e]; rfl,fun e=>by simpa [this] using e⟩
theorem compare_lt {r c a r' c' a':Int} (h:0≤r∧r≤1000∧0≤c∧c≤1000) (h':0≤r'∧r'≤1000∧0≤c'∧c'≤1000):impl_TreeVector_compare_m ⟨r,c,a⟩ ⟨r',c',a'⟩=some (if r=r' then c - c' else r - r'):=by
  unfold impl_TreeVector_compare_m;dsimp only;rw [wrap_i64 (by omega) (by omega),wrap_i64 (by omega) (by omega)]
  by_cases e:r=r'
  · rw [if_neg (by simp [e]),if_pos e]
  · rw [if_pos (by simp [e]),if_neg e]
theorem better_p {r c a r' c' a' o o':Int}:spec_l82Better_m ⟨r,c,a⟩ o ⟨r',c',a'⟩ o'=some (decide (r < r' ∨ (r=r'∧(c < c' ∨ (c=c'∧o < o'))))):=by
  unfold spec_l82Better_m;dsimp only
  by_cases e:r=r'
  · by_cases e2:c=c'
    · simp [e,e2]
    · simp [e,e2]
  · simp [e]
theorem linksOk_len {n:Int} {ls:List TreeLink} (h:linksOk n ls=true):n≤8∧ls.length≤12:=by
  simp only [linksOk,Bool.and_eq_true,inR_iff,decide_eq_true_eq] at h;omega
theorem Len.mono {w:TreeWorld} {n m:Nat} (h:w.Len n) (hm:n≤m):w.Len m:=⟨Nat.le_trans h.b hm,Nat.le_trans h.l hm,Nat.le_trans h.d hm,Nat.le_trans h.a hm,Nat.le_trans h.z hm,Nat.le_trans h.r hm⟩
end Go.Proofs.YtejhbiefhpgjeaaGreat
