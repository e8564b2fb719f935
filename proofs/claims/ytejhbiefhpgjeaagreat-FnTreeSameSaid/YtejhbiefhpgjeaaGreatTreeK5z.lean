/-
  Plain Lean: in a calm bridges have no loop, and all that is joined is reached; the row FnTreeTop.
-/
import Derived.Test.YtejhbiefhpgjeaaGreatKz5
import Derived.Test.YtejhbiefhpgjeaaGreatTreeK4z
import Derived.Test.YtejhbiefhpgjeaaGreatTreeB3z
import Derived.Test.YtejhbiefhpgjeaaGreatTreeD3z
set_option linter.all false
namespace Go.Proofs.YtejhbiefhpgjeaaGreat
open Go Go.Ab
set_option maxHeartbeats 400000
structure Rt (w:TreeWorld):Prop where
  g:Good w
  r:∀ B,Good B→Nt B w→Right B w
theorem Good.dn {w:TreeWorld} (h:Good w):w.Down.length≤9223372036854775807:=by have:=h.len.d; omega
theorem rt_calm {w:TreeWorld} (h:Good w) (t:Nat) {n:Nat} (hn:22≤n):Rt (itN (roundR t) n w):=by
  have R:=calm_right h.wok h.dn (.refl h) t hn;have nt:=R.calm.nt;exact ⟨nt.k.g,fun B gB hB=>calm_right gB.wok gB.dn (hB.trans (nt.symm h)) t hn⟩
theorem Rt.self {w:TreeWorld} (h:Rt w):Right w w:=h.r w h.g (.refl h.g)
theorem rt_right {w:TreeWorld} (h:Rt w):∀ i,i < w.Bridges.length→(w.Bridges.getD i default).Mind=(treeBest w).getD i default:=by
  intro i hi;have hw:=h.g.wok;have hd:=h.g.dn;have e1:(treeBest w).getD i default=mindFor w i:=by
    unfold treeBest;rw [if_pos (good_iff.2 h.g)];simp [List.getD_eq_getElem?_getD,hi]
  rw [e1];unfold mindFor
  by_cases hu:(w.Bridges.getD i default).Up=true
  · rw [if_pos hu,best_eq hw hd hi];exact h.self.mind hw hd hi hu
  · rw [if_neg hu];have:=(bridge_iff.1 (hw.br i hi)).2.2;rw [if_neg hu] at this;unfold mindZero at this;generalize (w.Bridges.getD i default).Mind=m at *;obtain ⟨⟨a,b,c⟩,d⟩:=m;simp only [Bool.and_eq_true,beq_iff_eq,and_true] at this;obtain ⟨⟨rfl,rfl,rfl⟩,rfl⟩:=this
    rfl
theorem rt_treeRight {w:TreeWorld} (h:Rt w):treeRight w=true:=by
  unfold treeRight;rw [good_iff.2 h.g,Bool.true_and];exact allR_of fun i hi=>decide_eq_true (rt_right h i hi)
theorem wtInts_self {xs:List Int} (h:xs.length≤1048576):laws_wtInts_m xs xs=some true:=by
  unfold laws_wtInts_m;rw [if_neg (by simp),lp_all xs.length (fun _=>true) (.inl ()) (.inr ()) (fun i hi _=>?_) (fun _=>by rw [if_neg (by simp)]),if_pos (allR_of fun _ _=>rfl),bd_val];rw [if_pos (by simp; omega),gd_pos (by omega),gd_pos (by omega),if_neg (by simp),wrap_succ hi (by omega),if_pos rfl]
end Go.Proofs.YtejhbiefhpgjeaaGreat
