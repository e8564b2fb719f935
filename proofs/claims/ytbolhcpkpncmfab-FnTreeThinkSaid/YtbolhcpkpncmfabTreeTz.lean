/-
  Plain Lean: what a bridge thinks is the best of what it has heard; the row FnTreeThink.
-/
import Derived.Test.YtbolhcpkpncmfabKz8
import Derived.Test.YtbolhcpkpncmfabTreeD2z
set_option linter.all false
namespace Go.Proofs.Ytbolhcpkpncmfab
open Go Go.Ab
set_option maxHeartbeats 400000
def heardAt (w:TreeWorld) (i0:Int) (i:Nat):TreeVector := if i0 = (w.Links.getD i default).A then (w.AtA.getD i default).Vector else if i0 = (w.Links.getD i default).B then (w.AtB.getD i default).Vector else ⟨0,0,0⟩
def costOf (w:TreeWorld) (i0:Int) (i:Nat):Int := (heardAt w i0 i).Cost + (w.Links.getD i default).Cost
structure BestSo (w:TreeWorld) (i0:Int) (j:Nat) (s:TSt):Prop where
  le:s.root ≤ (w.Bridges.getD i0.toNat default).Id
  self:s.link < 0 → s.root = (w.Bridges.getD i0.toNat default).Id ∧ s.cost = 0 ∧ s.age = 0
  age:0 ≤ s.link → 1 ≤ s.age
  of:∀ i:Nat,s.link = (i:Int) → (heardAt w i0 i).Root = s.root ∧ costOf w i0 i = s.cost ∧ (heardAt w i0 i).Age + 1 = s.age
  none:∀ i,i < j → 0 < (heardAt w i0 i).Root → (heardAt w i0 i).Age < 10 → costOf w i0 i ≤ 1000 → ¬ ((heardAt w i0 i).Root < s.root ∨ ((heardAt w i0 i).Root = s.root ∧ costOf w i0 i < s.cost))
theorem heard_vec {w:TreeWorld} (hw:WOk w) {i0:Int} {i:Nat} (hi:i < w.Links.length):vecOk (heardAt w i0 i) = true := by
  unfold heardAt;split
  · exact hw.vec hi 0
  · split
    · exact hw.vec hi 1
    · rfl
theorem best_step {w:TreeWorld} (hw:WOk w) {i0:Int} {j:Nat} (hj:j < w.Links.length) {s:TSt} (h:BestSo w i0 j s):BestSo w i0 (j + 1) (linkStep w i0 s j) := by
  have hv := vec_in (heard_vec hw (i0 := i0) hj);have hl := linkAt hw.link hj;have key:∀ o:Int,BestSo w i0 (j + 1) (cand w j s (heardAt w i0 j) o) := fun o => by
    unfold cand;split
    · rename_i h1;simp only [Bool.or_eq_true,decide_eq_true_eq] at h1;refine ⟨h.le,h.self,h.age,h.of,fun i hi g1 g2 g3 => ?_⟩
      by_cases e:i = j
      · subst e;exfalso;rcases h1 with (h1 | h1) | h1
        · have := hv.2.2.2.2.2.2.2 h1; omega
        · omega
        · unfold costOf at g3; omega
      · exact h.none i (by omega) g1 g2 g3
    · split
      · rename_i h1 h2;simp only [Bool.or_eq_true,decide_eq_true_eq] at h1;refine ⟨?_,fun hn => ?_,fun _ => ?_,fun i hi => ?_,fun i hi g1 g2 g3 hh => ?_⟩
        · have := h.le; dsimp only; omega
        · dsimp only at hn; omega
        · dsimp only; omega
        · dsimp only at hi ⊢;have:i = j := by omega
          subst this;exact ⟨rfl,rfl,rfl⟩
        · dsimp only at hh
          by_cases e:i = j
          · subst e; unfold costOf at hh; omega
          · have := h.none i (by omega) g1 g2 g3;omega
      · rename_i h1 h2;refine ⟨h.le,h.self,h.age,h.of,fun i hi g1 g2 g3 hh => ?_⟩
        by_cases e:i = j
        · subst e;unfold costOf at hh;refine h2 ?_;omega
        · exact h.none i (by omega) g1 g2 g3 hh
  rw [link_eq hw hj];unfold heardAt at key hv
  by_cases c1:i0 = (w.Links.getD j default).A
  · rw [if_pos c1];rw [if_pos c1] at key;exact key _
  · rw [if_neg c1];rw [if_neg c1] at key
    by_cases c2:i0 = (w.Links.getD j default).B
    · rw [if_pos c2];rw [if_pos c2] at key;exact key _
    · rw [if_neg c2];refine ⟨h.le,h.self,h.age,h.of,fun i hi g1 g2 g3 => ?_⟩
      by_cases e:i = j
      · subst e;unfold heardAt at g1;rw [if_neg c1,if_neg c2] at g1;exact absurd g1 (by decide)
      · exact h.none i (by omega) g1 g2 g3
theorem best_think {w:TreeWorld} (hw:WOk w) (i0:Int):BestSo w i0 w.Links.length (thinkSt w i0) := by
  have key:∀ j,j ≤ w.Links.length → BestSo w i0 j ((List.range j).foldl (linkStep w i0) ⟨(w.Bridges.getD i0.toNat default).Id,0,0,-1,0⟩) := by
    intro j
    induction j with
    | zero =>
      intro _;exact ⟨Int.le_refl _,fun _ => ⟨rfl,rfl,rfl⟩,fun h => absurd h (show ¬ (0:Int) ≤ -1 by decide),fun i hi => by
        have:(-1:Int) = i := hi;omega,fun i hi => absurd hi (Nat.not_lt_zero _)⟩
    | succ j ih =>
      intro hj;rw [List.range_succ,List.foldl_append];exact best_step hw hj (ih (by omega))
  exact key _ (Nat.le_refl _)
theorem mind_refl (m:TreeMind):(((m.Vector.Root == m.Vector.Root) && ((m.Vector.Cost == m.Vector.Cost) && ((m.Vector.Age == m.Vector.Age) && true))) && ((m.Link == m.Link) && true)) = true := by simp
theorem thinkLaw {w:TreeWorld} {i0:Int} (hd:Drawn w):(bd (impl_TreeThink_m w i0) fun x2 =>
    bd (spec_TreeThink_m w i0) fun x3 =>
    bd (gcall ((!(((x2.Vector.Root == x3.Vector.Root) && ((x2.Vector.Cost == x3.Vector.Cost) && ((x2.Vector.Age == x3.Vector.Age) && true))) && ((x2.Link == x3.Link) && true))) = false) (impl_TreeWorldOk_m w)) fun x4 =>
    bd (gcall ((!(((x2.Vector.Root == x3.Vector.Root) && ((x2.Vector.Cost == x3.Vector.Cost) && ((x2.Vector.Age == x3.Vector.Age) && true))) && ((x2.Link == x3.Link) && true))) = false) (spec_TreeWorldOk_m w)) fun x5 =>
    (if ((!(((x2.Vector.Root == x3.Vector.Root) && ((x2.Vector.Cost == x3.Vector.Cost) && ((x2.Vector.Age == x3.Vector.Age) && true))) && ((x2.Link == x3.Link) && true))) || (!(x4 == x5))) = true then
    some false
    else
    bd (spec_TreeWorldOk_m w) fun x6 =>
    gd ((((!x6) || (decide (i0 < 0))) || (decide (i0 ≥ ((w.Bridges.length:Nat):Int)))) = false → ((0:Int) ≤ i0 ∧ i0 < ((w.Bridges.length:Nat):Int))) <|
    (if ((((!x6) || (decide (i0 < 0))) || (decide (i0 ≥ ((w.Bridges.length:Nat):Int)))) || (!((w.Bridges.getD i0.toNat default).Up))) = true then
    some (((x2.Vector.Root == 0) && ((x2.Vector.Cost == 0) && ((x2.Vector.Age == 0) && true))) && ((x2.Link == 0) && true))
    else
    bd (impl_TreeVectorOk_m x2.Vector) fun x8 =>
    gd ((!x8) = false → ((0:Int) ≤ i0 ∧ i0 < ((w.Bridges.length:Nat):Int))) <|
    gd (((!x8) || (decide (x2.Vector.Root > ((w.Bridges.getD i0.toNat default).Id)))) = false → ((0:Int) ≤ i0 ∧ i0 < ((w.Bridges.length:Nat):Int))) <|
    (if (((!x8) || (decide (x2.Vector.Root > ((w.Bridges.getD i0.toNat default).Id)))) || (!((decide (x2.Link < 0)) == ((x2.Vector.Root == ((w.Bridges.getD i0.toNat default).Id)) && ((x2.Vector.Cost == 0) && ((x2.Vector.Age == 0) && true)))))) = true then
    some false
    else
    bd (lp (σ := Int) (β := (Unit ⊕ Unit)) (fun s11 =>
    (if (decide (s11 < ((w.Links.length:Nat):Int))) = true then
    bd (α := Int × Int × Int) (gd ((0:Int) ≤ s11 ∧ s11 < ((w.Links.length:Nat):Int)) <|
    (if (((w.Links.getD s11.toNat default).A) == i0) = true then
    gd ((0:Int) ≤ s11 ∧ s11 < ((w.AtA.length:Nat):Int)) <|
    some (((w.AtA.getD s11.toNat default).Vector).Root,((w.AtA.getD s11.toNat default).Vector).Cost,((w.AtA.getD s11.toNat default).Vector).Age)
    else
    some (0,0,0))) fun x15 =>
    bd (α := Int × Int × Int) (gd ((0:Int) ≤ s11 ∧ s11 < ((w.Links.length:Nat):Int)) <|
    (if (((w.Links.getD s11.toNat default).B) == i0) = true then
    gd ((0:Int) ≤ s11 ∧ s11 < ((w.AtB.length:Nat):Int)) <|
    some (((w.AtB.getD s11.toNat default).Vector).Root,((w.AtB.getD s11.toNat default).Vector).Cost,((w.AtB.getD s11.toNat default).Vector).Age)
    else
    some (x15.1,x15.2.1,x15.2.2))) fun x20 =>
    gd ((0:Int) ≤ s11 ∧ s11 < ((w.Links.length:Nat):Int)) <|
    (if ((s11 == x2.Link) && (((x20.1 != x2.Vector.Root) || ((IntKind.i64.wrap (x20.2.1 + ((w.Links.getD s11.toNat default).Cost))) != x2.Vector.Cost)) || ((IntKind.i64.wrap (x20.2.2 + 1)) != x2.Vector.Age))) = true then
    some (.inr (.inl ()))
    else
    (if ((((decide (x20.1 > 0)) && (decide (x20.2.2 < 10))) && (decide ((IntKind.i64.wrap (x20.2.1 + ((w.Links.getD s11.toNat default).Cost))) ≤ 1000))) && ((decide (x20.1 < x2.Vector.Root)) || ((x20.1 == x2.Vector.Root) && (decide ((IntKind.i64.wrap (x20.2.1 + ((w.Links.getD s11.toNat default).Cost))) < x2.Vector.Cost))))) = true then
    some (.inr (.inl ()))
    else
    some (.inl (IntKind.i64.wrap (s11 + 1)))))
    else
    some (.inr (.inr ())))) 0) fun x14 =>
    (match x14 with
    | .inl _ =>
    some false
    | .inr _ =>
    some true)))):Option Bool) = some true := by
  have hl:w.Len 9223372036854775807 := Len.mono hd.len (by omega);have hd1 := hd.n;rw [implTreeThink_p hl,bd_val,specTreeThink_p hl,bd_val,implWorldOk_p hl.b hl.l hl.d hl.r,gcall_pos (by rw [mind_refl]; decide),bd_val,specWorldOk_p hl.b hl.l hl.d hl.r,gcall_pos (by rw [mind_refl]; decide),bd_val,mind_refl,if_neg (by simp),bd_val,gd_pos (fun h => by
    simp only [Bool.or_eq_false_iff,decide_eq_false_iff_not] at h;omega)]
  by_cases hc:worldOk w = true ∧ isUp w i0 = true
  · have hw := wOk hl hc.1;have hin := isUp_in hc.2;have hu:(w.Bridges.getD i0.toNat default).Up = true := by
      have := hc.2;simp only [isUp,Bool.and_eq_true] at this;exact this.2
    have e1:treeThink w i0 = think w i0 := if_pos hc;obtain ⟨m1,m2,m3⟩ := think_ok hw hin;have b := best_think hw i0;have h12 := linksLen hw;have hA := hw.a;have hB := hw.b;rw [e1,if_neg (by
      rw [hc.1,hu];simp only [Bool.not_true,Bool.false_or,Bool.or_false,Bool.or_eq_true,decide_eq_true_eq];omega),implVecOk_p,bd_val,gd_pos (fun _ => hin),gd_pos (fun _ => hin),m1]
    have c2:((decide ((think w i0).Link < 0)) == (((think w i0).Vector.Root == ((w.Bridges.getD i0.toNat default).Id)) && (((think w i0).Vector.Cost == 0) && (((think w i0).Vector.Age == 0) && true)))) = true := by
      show ((decide ((thinkSt w i0).link < 0)) == (((thinkSt w i0).root == ((w.Bridges.getD i0.toNat default).Id)) && (((thinkSt w i0).cost == 0) && (((thinkSt w i0).age == 0) && true)))) = true
      by_cases hn:(thinkSt w i0).link < 0
      · obtain ⟨s1,s2,s3⟩ := b.self hn;rw [decide_eq_true hn,s1,s2,s3];simp
      · have := b.age (by omega);rw [decide_eq_false hn];have:((thinkSt w i0).age == 0) = false := by simp; omega
        rw [this];simp
    have c3:decide ((think w i0).Vector.Root > (w.Bridges.getD i0.toNat default).Id) = false := decide_eq_false (by
      have := b.le;show ¬ (thinkSt w i0).root > _;omega)
    rw [c2,c3,if_neg (by decide),lp_all w.Links.length (fun _ => true) (.inl ()) (.inr ()) (fun i hi _ => ?_) (fun _ => by rw [if_neg (by simp)]),if_pos (allR_of fun _ _ => rfl),bd_val];have hlk := linkAt hw.link hi;have hv := vec_in (heard_vec hw (i0 := i0) hi);have q1:(0:Int) ≤ (i:Int) ∧ (i:Int) < ((w.Links.length:Nat):Int) := by omega
    have q2:(0:Int) ≤ (i:Int) ∧ (i:Int) < ((w.AtA.length:Nat):Int) := by omega
    have q3:(0:Int) ≤ (i:Int) ∧ (i:Int) < ((w.AtB.length:Nat):Int) := by omega
    simp only [gd_pos q1,gd_pos q2,gd_pos q3];rw [if_pos (by simp; omega),Int.toNat_natCast,wrap_succ hi (by omega)]
    try rw [if_pos rfl]
    have hx:∀ k:Int × Int × Int → Option (Int ⊕ (Unit ⊕ Unit)),(bd (α := Int × Int × Int) (if ((w.Links.getD i default).A == i0) = true then some ((w.AtA.getD i default).Vector.Root,(w.AtA.getD i default).Vector.Cost,(w.AtA.getD i default).Vector.Age) else some (0,0,0)) fun x15 =>
        bd (α := Int × Int × Int) (if ((w.Links.getD i default).B == i0) = true then some ((w.AtB.getD i default).Vector.Root,(w.AtB.getD i default).Vector.Cost,(w.AtB.getD i default).Vector.Age) else some (x15.1,x15.2.1,x15.2.2)) k) = k ((heardAt w i0 i).Root,(heardAt w i0 i).Cost,(heardAt w i0 i).Age) := fun k => by
      unfold heardAt
      by_cases a1:i0 = (w.Links.getD i default).A
      · rw [if_pos (c := i0 = (w.Links.getD i default).A) a1,if_pos (c := ((w.Links.getD i default).A == i0) = true) (by simpa using a1.symm),bd_val,if_neg (c := ((w.Links.getD i default).B == i0) = true) (by rw [beq_iff_eq]; omega),bd_val]
      · rw [if_neg (c := i0 = (w.Links.getD i default).A) a1,if_neg (c := ((w.Links.getD i default).A == i0) = true) (by rw [beq_iff_eq]; omega),bd_val]
        by_cases a2:i0 = (w.Links.getD i default).B
        · rw [if_pos (c := i0 = (w.Links.getD i default).B) a2,if_pos (c := ((w.Links.getD i default).B == i0) = true) (by simpa using a2.symm),bd_val]
        · rw [if_neg (c := i0 = (w.Links.getD i default).B) a2,if_neg (c := ((w.Links.getD i default).B == i0) = true) (by rw [beq_iff_eq]; omega),bd_val]
    refine (hx _).trans ?_;dsimp only;have w1:IntKind.i64.wrap ((heardAt w i0 i).Cost + (w.Links.getD i default).Cost) = costOf w i0 i := wrap_i64 (by omega) (by omega);have w2:IntKind.i64.wrap ((heardAt w i0 i).Age + 1) = (heardAt w i0 i).Age + 1 := wrap_i64 (by omega) (by omega);rw [w1,w2];refine (if_neg ?_).trans ((if_neg ?_).trans ?_)
    · simp only [Bool.and_eq_true,Bool.or_eq_true,beq_iff_eq,bne_iff_ne];rintro ⟨g1,g2⟩;obtain ⟨o1,o2,o3⟩ := b.of i g1.symm;rcases g2 with (g2 | g2) | g2
      · exact g2 o1
      · exact g2 o2
      · exact g2 o3
    · simp only [Bool.and_eq_true,Bool.or_eq_true,decide_eq_true_eq,beq_iff_eq];rintro ⟨⟨⟨g1,g2⟩,g3⟩,g4⟩;exact b.none i hi g1 g2 g3 g4
    · simp
  · have e1:treeThink w i0 = ⟨⟨0,0,0⟩,0⟩ := if_neg hc;rw [e1,if_pos]
    · rfl
    · cases hk:worldOk w
      · rfl
      · have hn:isUp w i0 = false := Bool.eq_false_iff.2 fun e => hc ⟨hk,e⟩
        by_cases c1:i0 < 0
        · rw [decide_eq_true c1]; simp
        · by_cases c2:i0 ≥ ((w.Bridges.length:Nat):Int)
          · rw [decide_eq_true c2]; simp
          · unfold isUp at hn;rw [inR_iff.2 ⟨by omega,by omega⟩,Bool.true_and] at hn;rw [hn]; simp
theorem fnTreeThink_p {a0:List Int} (h:a0.length ≤ 9223372036854775807 ∧ ∀ x ∈ a0,FitsB x):laws_FnTreeThink_m a0 = some true := by
  unfold laws_FnTreeThink_m
  by_cases hb:a0.length ≤ 1048576
  · rw [if_neg (by simp; omega)];obtain ⟨⟨w,i0⟩,e,hd⟩ := think_draw h.1 h.2;rw [e,bd_val];exact thinkLaw hd
  · rw [if_pos (by simp; omega)]
end Go.Proofs.Ytbolhcpkpncmfab
