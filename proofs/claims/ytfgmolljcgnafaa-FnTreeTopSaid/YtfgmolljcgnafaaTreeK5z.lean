/-
  Plain Lean: in a calm bridges have no loop, and all that is joined is reached; the row FnTreeTop.
-/
import Derived.Test.YtfgmolljcgnafaaKz5
import Derived.Test.YtfgmolljcgnafaaTreeK4z
import Derived.Test.YtfgmolljcgnafaaTreeB3z
import Derived.Test.YtfgmolljcgnafaaTreeD3z
set_option linter.all false
namespace Go.Proofs.Ytfgmolljcgnafaa
open Go Go.Ab
set_option maxHeartbeats 400000
structure Rt (w:TreeWorld):Prop where
  g:Good w
  r:∀ B,Good B → Nt B w → Right B w
theorem Good.dn {w:TreeWorld} (h:Good w):w.Down.length ≤ 9223372036854775807 := by have := h.len.d; omega
theorem rt_calm {w:TreeWorld} (h:Good w) (t:Nat) {n:Nat} (hn:22 ≤ n):Rt (itN (roundR t) n w) := by
  have R := calm_right h.wok h.dn (.refl h) t hn;have nt := R.calm.nt;exact ⟨nt.k.g,fun B gB hB => calm_right gB.wok gB.dn (hB.trans (nt.symm h)) t hn⟩
theorem Rt.self {w:TreeWorld} (h:Rt w):Right w w := h.r w h.g (.refl h.g)
theorem Rt.round {w:TreeWorld} (h:Rt w) (t:Nat):Rt (roundR t w) := by
  have R := h.self.round h.g.wok h.g.dn t;have nt := R.calm.nt;exact ⟨nt.k.g,fun B gB hB => (h.r B gB (hB.trans (nt.symm h.g))).round gB.wok gB.dn t⟩
theorem rt_right {w:TreeWorld} (h:Rt w):∀ i,i < w.Bridges.length → (w.Bridges.getD i default).Mind = (treeBest w).getD i default := by
  intro i hi;have hw := h.g.wok;have hd := h.g.dn;have e1:(treeBest w).getD i default = mindFor w i := by
    unfold treeBest;rw [if_pos (good_iff.2 h.g)];simp [List.getD_eq_getElem?_getD,hi]
  rw [e1];unfold mindFor
  by_cases hu:(w.Bridges.getD i default).Up = true
  · rw [if_pos hu,best_eq hw hd hi];exact h.self.mind hw hd hi hu
  · rw [if_neg hu];have := (bridge_iff.1 (hw.br i hi)).2.2;rw [if_neg hu] at this;unfold mindZero at this;generalize (w.Bridges.getD i default).Mind = m at *;obtain ⟨⟨a,b,c⟩,d⟩ := m;simp only [Bool.and_eq_true,beq_iff_eq,and_true] at this;obtain ⟨⟨rfl,rfl,rfl⟩,rfl⟩ := this
    rfl
theorem rt_treeRight {w:TreeWorld} (h:Rt w):treeRight w = true := by
  unfold treeRight;rw [good_iff.2 h.g,Bool.true_and];exact allR_of fun i hi => decide_eq_true (rt_right h i hi)
theorem wtInts_self {xs:List Int} (h:xs.length ≤ 1048576):laws_wtInts_m xs xs = some true := by
  unfold laws_wtInts_m;rw [if_neg (by simp),lp_all xs.length (fun _ => true) (.inl ()) (.inr ()) (fun i hi _ => ?_) (fun _ => by rw [if_neg (by simp)]),if_pos (allR_of fun _ _ => rfl),bd_val];rw [if_pos (by simp; omega),gd_pos (by omega),gd_pos (by omega),if_neg (by simp),wrap_succ hi (by omega),if_pos rfl]
theorem fnTreeTop_p {a0 a1:List Int} (h:a0.length ≤ 9223372036854775807 ∧ ∀ x ∈ a0,FitsB x) (_:a1.length ≤ 9223372036854775807 ∧ ∀ x ∈ a1,FitsB x):laws_FnTreeTop_m a0 a1 = some true := by
  have key:Post (laws_FnTreeTop_m a0 a1) fun x => x = true := by
    unfold laws_FnTreeTop_m;refine .ite (fun _ => .ret rfl) fun _ => .bd (any_good h.1 h.2) fun w g => .gd (by decide) ?_;rw [iCalm_p g,bd_val,show rnds 32 = 32 from rfl];have rt := rt_calm g (off w (((a1.length:Nat):Int).tmod 12)) (n := 32) (by omega);generalize itN (roundR (off w (((a1.length:Nat):Int).tmod 12))) 32 w = v at *;have hl:∀ {v:TreeWorld},Rt v → v.Len 9223372036854775807 := fun h => Len.mono h.g.len (by omega);rw [implTreeRight_p (hl rt),bd_val,rt_treeRight rt];have n1 := rt.g.n1;have nz:(((v.Bridges.length:Nat):Int) == 0) = false := beq_eq_false_iff_ne.2 (by omega);rw [nz,if_neg (by decide)];refine .bd (Q := fun x => ∃ d,x = .inr d ∧ Rt ⟨d.2.2.2.2.2.2.1,d.2.1,d.2.2.1,d.2.2.2.2.2.2.2.1,d.2.2.2.2.2.2.2.2.1,d.2.2.2.2.2.2.2.2.2⟩) (.lp (fun s => Rt ⟨s.1,s.2.2.2.2.1,s.2.2.2.2.2.1,s.2.1,s.2.2.1,s.2.2.2.1⟩ ∧ 0 ≤ s.2.2.2.2.2.2 ∧ s.2.2.2.2.2.2 ≤ 3) (fun s => (3 - s.2.2.2.2.2.2).toNat) ⟨rt,Int.le_refl _,by dsimp only; omega⟩ fun s ⟨i1,i2,i3⟩ => .ite (fun c => ?_) fun _ => .ret ⟨_,rfl,i1⟩) fun x8 ⟨d,e,r8⟩ => ?_
    · have c := of_decide_eq_true c;have wn:IntKind.i64.wrap (s.2.2.2.2.2.2 + 1) = s.2.2.2.2.2.2 + 1 := wrap_i64 (by omega) (by omega);obtain ⟨sb,sA,sB,sR,sL,sD,sn⟩ := s;dsimp only at i1 i2 i3 c wn ⊢;rw [implTreeBest_p (hl i1),bd_val];have gu := i1.g;have hw := gu.wok;have hd := gu.dn;have rr := rt_right i1;have tl := treeBest_lenOk (good_iff.2 gu);have PH := pass_heads hw hd i1.self;have tp:impl_TreePasses_m _ = some _ := implTreePasses_p (hl i1);unfold treePasses at tp;rw [if_pos (good_iff.2 gu)] at tp;have po:OpenL _ _ := passL_open (w := ⟨sb,sL,sD,sA,sB,sR⟩);have oo := openL_open ⟨sb,sL,sD,sA,sB,sR⟩;have pn := passL_len ⟨sb,sL,sD,sA,sB,sR⟩ sL.length;have on := openL_len ⟨sb,sL,sD,sA,sB,sR⟩ sL.length;have l12:sL.length ≤ 12 := gu.l12;have b8:sb.length ≤ 8 := gu.n8;refine .bd (Q := fun x => x = .inr ()) (.lp (fun q => 0 ≤ q ∧ q ≤ sb.length) (fun q => (sb.length - q).toNat) ⟨Int.le_refl _,by omega⟩ fun q ⟨q1,q2⟩ => .ite (fun d => ?_) fun _ => .ret rfl) fun x16 e16 => ?_
      · have d := of_decide_eq_true d;have wq:IntKind.i64.wrap (q + 1) = q + 1 := wrap_i64 (by omega) (by omega);have re := rr q.toNat (show q.toNat < sb.length by omega);dsimp only at re tl;refine .gd (by omega) (.gd (by omega) ?_);rw [mindsEq,if_neg (by rw [decide_eq_true re]; decide),wq];exact .ret ⟨⟨by omega,by omega⟩,by omega⟩
      · rw [e16];dsimp only;rw [tp,bd_val,wtHeads_p hw po.ins (by dsimp only; omega),bd_val,wtAll_p hw hd,bd_val,wtHeads_p hw oo.ins (by dsimp only; omega),bd_val,PH];have hlen:(headsOf ⟨sb,sL,sD,sA,sB,sR⟩ (openL ⟨sb,sL,sD,sA,sB,sR⟩ sL.length)).1.length = sb.length := (hd_of hw oo.ins).len;dsimp only;generalize (headsOf ⟨sb,sL,sD,sA,sB,sR⟩ (openL ⟨sb,sL,sD,sA,sB,sR⟩ sL.length)).1 = H at *;rw [gcall_pos (show (!true) = false from rfl),wtInts_self (by omega),bd_val,if_neg (by decide),iCalm_p gu,bd_val,show rnds 1 = 1 from rfl,wn];exact .ret ⟨⟨i1.round _,by dsimp only; omega,by dsimp only; omega⟩,by dsimp only; omega⟩
    · rw [e];dsimp only;rw [implTreeRight_p (hl r8),bd_val,rt_treeRight r8];exact .ret rfl
  obtain ⟨x,e,hx⟩ := key;rw [e,hx]
end Go.Proofs.Ytfgmolljcgnafaa
