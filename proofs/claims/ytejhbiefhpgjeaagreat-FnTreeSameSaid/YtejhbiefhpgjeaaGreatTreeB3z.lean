/-
  Plain Lean: the rows FnExactTreeBest and FnExactTreeRight.
-/
import Derived.Test.YtejhbiefhpgjeaaGreatKz5
import Derived.Test.YtejhbiefhpgjeaaGreatTreeB2iz
import Derived.Test.YtejhbiefhpgjeaaGreatTreeMz
set_option linter.all false
namespace Go.Proofs.YtejhbiefhpgjeaaGreat
open Go Go.Ab
set_option maxHeartbeats 400000
theorem mindsEq (a b:TreeMind):(((a.Vector.Root == b.Vector.Root) && ((a.Vector.Cost == b.Vector.Cost) && ((a.Vector.Age == b.Vector.Age) && true))) && ((a.Link == b.Link) && true))=decide (a=b):=by
  rw [Bool.eq_iff_iff];obtain ⟨⟨r,c,g⟩,l⟩:=a;obtain ⟨⟨r',c',g'⟩,l'⟩:=b;simp only [Bool.and_eq_true,beq_iff_eq,and_true,decide_eq_true_eq,TreeMind.mk.injEq,TreeVector.mk.injEq]
def sameMind (w:TreeWorld) (ms:List TreeMind) (i:Nat):Bool:=decide ((w.Bridges.getD i default).Mind=ms.getD i default)
noncomputable def treeRight (w:TreeWorld):Bool:=worldOk w && allR w.Bridges.length (sameMind w (treeBest w))
theorem treeBest_lenOk {w:TreeWorld} (h:worldOk w=true):(treeBest w).length=w.Bridges.length:=by unfold treeBest; rw [if_pos h]; simp
theorem equal_p {w:TreeWorld} {ms:List TreeMind} (h:ms.length=w.Bridges.length) (hb:w.Bridges.length≤8):slices_EqualFunc_TreeBridge_TreeMind_TreeBridge_TreeMind_impl_TreeRight_1_m w.Bridges ms=some (allR w.Bridges.length (sameMind w ms)):=by
  unfold slices_EqualFunc_TreeBridge_TreeMind_TreeBridge_TreeMind_impl_TreeRight_1_m;rw [if_neg (by simp; omega),lp_all w.Bridges.length (sameMind w ms) (.inl ()) (.inr ()) (fun i hi _=>?_) (fun _=>by rw [if_neg (by simp)]),bd_val]
  · cases allR w.Bridges.length (sameMind w ms) <;> rfl
  · rw [if_pos (by simp; omega),gd_pos (by omega),gd_pos (by omega),Int.toNat_natCast,wrap_succ hi (by omega)];unfold impl_TreeRight_1_m;rw [bd_val];have:=mindsEq (w.Bridges.getD i default).Mind (ms.getD i default);rw [show (sameMind w ms i)=decide ((w.Bridges.getD i default).Mind=ms.getD i default) from rfl,← this];dsimp only
    cases (((w.Bridges.getD i default).Mind.Vector.Root == (ms.getD i default).Vector.Root && ((w.Bridges.getD i default).Mind.Vector.Cost == (ms.getD i default).Vector.Cost && ((w.Bridges.getD i default).Mind.Vector.Age == (ms.getD i default).Vector.Age && true))) && ((w.Bridges.getD i default).Mind.Link == (ms.getD i default).Link && true)) <;> rfl
theorem implTreeRight_p {w:TreeWorld} (h:w.Len 9223372036854775807):impl_TreeRight_m w=some (treeRight w):=by
  unfold impl_TreeRight_m treeRight;rw [implWorldOk_p h.b h.l h.d h.r,bd_val]
  cases hw:worldOk w
  · rfl
  · rw [if_neg (by decide),implBests_p (wOk h hw) h.d,bd_val,show (List.range w.Bridges.length).map (mindFor w)=treeBest w from (if_pos hw).symm,equal_p (treeBest_lenOk hw) (bridgesLen (wOk h hw)),bd_val];simp
end Go.Proofs.YtejhbiefhpgjeaaGreat
