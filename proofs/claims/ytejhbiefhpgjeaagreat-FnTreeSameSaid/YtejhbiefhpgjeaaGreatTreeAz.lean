/-
  Plain Lean: which links let frames pass, impl's and the reference's alike; the row FnExactTreePasses.
-/
import Derived.Test.YtejhbiefhpgjeaaGreatKz5
import Derived.Test.YtejhbiefhpgjeaaGreatTreeP6z
import Derived.Test.YtejhbiefhpgjeaaGreatTreeWz
import Derived.Test.YtejhbiefhpgjeaaGreatTreeMz
import Derived.Test.YtejhbiefhpgjeaaGreatMkz
set_option linter.all false
namespace Go.Proofs.YtejhbiefhpgjeaaGreat
open Go Go.Ab
set_option maxHeartbeats 400000
def isOpen (w:TreeWorld) (i:Nat):Bool:=(!hasI w.Down i && (w.Bridges.getD (w.Links.getD i default).A.toNat default).Up) && (w.Bridges.getD (w.Links.getD i default).B.toNat default).Up
theorem implOpenL_p {w:TreeWorld} (hw:WOk w) (hd:w.Down.length≤9223372036854775807) {i:Nat} (hi:i < w.Links.length):impl_TreeWorld_open_m w (i:Int)=some (isOpen w i):=by
  unfold impl_TreeWorld_open_m isOpen;have hl:=linkAt hw.link hi;rw [gd_pos (by omega),isDown_p hd,bd_val,Int.toNat_natCast,gd_pos (fun _=>by omega),gd_pos (fun _=>by omega)]
theorem specOpenL_p {w:TreeWorld} (hw:WOk w) (hd:w.Down.length≤9223372036854775807) {i:Nat} (hi:i < w.Links.length):spec_l83Open_m w (i:Int)=some (isOpen w i):=by
  unfold spec_l83Open_m isOpen;have hl:=linkAt hw.link hi;rw [l82Has_p hd,bd_val,Int.toNat_natCast,gd_pos (fun _=>by omega),gd_pos (fun _=>by omega),gd_pos (fun _=>by omega),gd_pos (fun _=>by omega)]
def letsOf (w:TreeWorld) (i:Nat) (b o:Int) (v:TreeVector):Bool :=
  ((w.Bridges.getD b.toNat default).Mind.Link == (i:Int)) || (nothing v ||
    decide ((w.Bridges.getD b.toNat default).Mind.Vector.Root < v.Root ∨ ((w.Bridges.getD b.toNat default).Mind.Vector.Root=v.Root∧((w.Bridges.getD b.toNat default).Mind.Vector.Cost < v.Cost ∨ ((w.Bridges.getD b.toNat default).Mind.Vector.Cost=v.Cost∧(w.Bridges.getD b.toNat default).Id < (w.Bridges.getD o.toNat default).Id)))))
theorem mind_in {w:TreeWorld} (hw:WOk w) {i:Nat} (hi:i < w.Bridges.length):0≤(w.Bridges.getD i default).Mind.Vector.Root∧(w.Bridges.getD i default).Mind.Vector.Root≤1000∧0≤(w.Bridges.getD i default).Mind.Vector.Cost∧(w.Bridges.getD i default).Mind.Vector.Cost≤1000:=by
  have:=hw.br i hi;simp only [bridgeOk,Bool.and_eq_true] at this;have:=this.2;split at this
  · rw [Bool.and_eq_true,Bool.and_eq_true] at this;have:=vec_in this.1.1;omega
  · simp only [mindZero,Bool.and_eq_true,beq_iff_eq,and_true] at this;omega
theorem implLets_p {w:TreeWorld} (hw:WOk w) {i:Nat} (hi:i < w.Links.length) (e:Int) (he:e=0 ∨ e=1):impl_TreeWorld_lets_m w (i:Int) e=some (letsOf w i (brAt w i e) (brAt w i (1 - e)) (slotAt w i e).Vector):=by
  have hl:=linkAt hw.link hi;have ha:=hw.a;have hb:=hw.b;have hbr:∀ e,0≤brAt w i e∧brAt w i e < w.Bridges.length:=fun e=>by unfold brAt; split <;> omega
  unfold impl_TreeWorld_lets_m letsOf;rw [bridgeAt_p hi,bd_val,gd_pos (hbr e),wrap_i64 (n:=1 - e) (by omega) (by omega),bridgeAt_p hi,bd_val,gd_pos (hbr _),slot_p (by omega) (by omega),bd_val,nothing_p,gcall_val,bd_val];have m1:=mind_in hw (i:=(brAt w i e).toNat) (by have:=hbr e; omega);have v1:=vec_in (hw.vec hi e);have hc:∀ a b:TreeVector,0≤a.Root∧a.Root≤1000∧0≤a.Cost∧a.Cost≤1000→0≤b.Root∧b.Root≤1000∧0≤b.Cost∧b.Cost≤1000→impl_TreeVector_compare_m a b=some (if a.Root=b.Root then a.Cost - b.Cost else a.Root - b.Root):=fun a b h1 h2=>compare_lt h1 h2
  by_cases h1:((w.Bridges.getD (brAt w i e).toNat default).Mind.Link == (i:Int))=true
  · rw [h1]; rfl
  · have h1:((w.Bridges.getD (brAt w i e).toNat default).Mind.Link == (i:Int))=false:=by simpa using h1
    rw [h1]
    cases h2:nothing (slotAt w i e).Vector
    · simp only [decide_true,if_true,Bool.or_self,Bool.false_eq_true,if_false,Bool.false_or];rw [hc _ _ m1 (by omega),bd_val];refine congrArg some ?_;rw [Bool.eq_iff_iff];simp only [Bool.or_eq_true,Bool.and_eq_true,decide_eq_true_eq,beq_iff_eq];split <;> omega
    · rfl
def passAt (w:TreeWorld) (i:Nat):Bool:=(isOpen w i && letsOf w i (brAt w i 0) (brAt w i 1) (slotAt w i 0).Vector) && letsOf w i (brAt w i 1) (brAt w i 0) (slotAt w i 1).Vector
def passL (w:TreeWorld) (n:Nat):List Int:=((List.range n).filter (passAt w)).map (fun i:Nat=>(i:Int))
theorem passL_succ (w:TreeWorld) (n:Nat):passL w (n+1)=if passAt w n=true then passL w n ++ [(n:Int)] else passL w n:=by
  unfold passL;rw [List.range_succ,List.filter_append,List.map_append]
  cases h:passAt w n <;> simp [h]
theorem passL_len (w:TreeWorld) (n:Nat):(passL w n).length≤n:=by
  unfold passL;rw [List.length_map];exact Nat.le_trans (List.length_filter_le _ _) (by simp)
theorem linksLen {w:TreeWorld} (hw:WOk w):w.Links.length≤12:=(linksOk_len hw.link).2
theorem passLoop {w:TreeWorld} {n:Nat} {step:List Int × Int→Option ((List Int × Int) ⊕ (Nat × List Int))}
    (h1:∀ (i:Nat) (xs:List Int),i < n→xs.length≤i→step (xs,(i:Int))=some (.inl (if passAt w i=true then xs ++ [(i:Int)] else xs,((i+1:Nat):Int)))) (h2:∀ xs:List Int,step (xs,(n:Int))=some (.inr (xs.length,xs))) :
    lp step ([],0)=some ((passL w n).length,passL w n) :=
  lp_at (step:=step) n (fun i=>(passL w i,(i:Int))) ((passL w n).length,passL w n) (fun i hi=>by
    rw [h1 i _ hi (passL_len w i),passL_succ]) (h2 _)
theorem implPasses_p {w:TreeWorld} (hw:WOk w) (hd:w.Down.length≤9223372036854775807):impl_TreeWorld_passes_m w=some (passL w w.Links.length):=by
  have h12:=linksLen hw;unfold impl_TreeWorld_passes_m;rw [passLoop (w:=w) (n:=w.Links.length) (fun i xs hi hx=>?_) (fun xs=>by rw [if_neg (by simp)]),bd_val];have h0:=implLets_p hw hi 0 (.inl rfl);have h1:=implLets_p hw hi 1 (.inr rfl);rw [if_pos (by simp; omega)];dsimp only;rw [implOpenL_p hw hd hi,bd_val,h0,gcall_val,bd_val,h1,gcall_val,bd_val,wrap_succ hi (by omega),show passAt w i=((isOpen w i && letsOf w i (brAt w i 0) (brAt w i (1 - 0)) (slotAt w i 0).Vector) && letsOf w i (brAt w i 1) (brAt w i (1 - 1)) (slotAt w i 1).Vector) from rfl]
  cases isOpen w i
  · rfl
  · cases letsOf w i (brAt w i 0) (brAt w i (1 - 0)) (slotAt w i 0).Vector
    · rfl
    · cases letsOf w i (brAt w i 1) (brAt w i (1 - 1)) (slotAt w i 1).Vector
      · rfl
      · simp only [Bool.and_self,if_true];rw [gd_pos (by simp; omega)]
def treePasses (w:TreeWorld):List Int:=if worldOk w=true then passL w w.Links.length else []
theorem implTreePasses_p {w:TreeWorld} (h:w.Len 9223372036854775807):impl_TreePasses_m w=some (treePasses w):=by
  unfold impl_TreePasses_m treePasses;rw [implWorldOk_p h.b h.l h.d h.r,bd_val]
  cases hw:worldOk w
  · rfl
  · simp only [Bool.not_true,Bool.false_eq_true,if_false,if_true];rw [implPasses_p (wOk h hw) h.d,bd_val]
end Go.Proofs.YtejhbiefhpgjeaaGreat
