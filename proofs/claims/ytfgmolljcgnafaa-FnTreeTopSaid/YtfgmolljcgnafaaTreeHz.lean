/-
  Plain Lean: the laws' classes of bridges that links join: who is of one class is joined.
-/
import Derived.Test.YtfgmolljcgnafaaKz5
import Derived.Test.YtfgmolljcgnafaaTreeCz
import Derived.Test.YtfgmolljcgnafaaPoBz
set_option linter.all false
namespace Go.Proofs.Ytfgmolljcgnafaa
open Go Go.Ab
set_option maxHeartbeats 400000
theorem wtDown_p {w:TreeWorld} (hw:WOk w) (hd:w.Down.length ≤ 9223372036854775807) {i:Nat} (hi:i < w.Links.length):laws_wtDown_m w (i:Int) = some (!isOpen w i) := by
  unfold laws_wtDown_m;have hl := linkAt hw.link hi;have hh:hasI w.Down (i:Int) = !allR w.Down.length (fun k => !(w.Down.getD k default == (i:Int))) := rfl;rw [lp_all w.Down.length (fun k => !(w.Down.getD k default == (i:Int))) (.inl ()) (.inr ()) (fun k hk _ => ?_) (fun _ => by rw [if_neg (by simp)]),bd_val]
  · unfold isOpen;rw [hh]
    cases allR w.Down.length (fun k => !(w.Down.getD k default == (i:Int)))
    · rw [if_neg (by decide)]; rfl
    · rw [if_pos rfl];dsimp only;rw [gd_pos (by omega),Int.toNat_natCast,gd_pos (by omega),gd_pos (fun _ => by omega),gd_pos (fun _ => by omega)]
      cases (w.Bridges.getD (w.Links.getD i default).A.toNat default).Up <;> cases (w.Bridges.getD (w.Links.getD i default).B.toNat default).Up <;> rfl
  · rw [if_pos (by simp; omega),gd_pos (by omega),Int.toNat_natCast,wrap_succ hk hd]
    cases w.Down.getD k default == (i:Int) <;> rfl
def OpenL (w:TreeWorld) (ls:List Int):Prop := ∀ j,j < ls.length → 0 ≤ ls.getD j default ∧ ls.getD j default < w.Links.length ∧ isOpen w (ls.getD j default).toNat = true
def SameJ (w:TreeWorld) (h:List Int):Prop := h.length = w.Bridges.length ∧ ∀ k k',k < w.Bridges.length → k' < w.Bridges.length → h.getD k default = h.getD k' default → J w k k'
theorem wtHeads_post {w:TreeWorld} (hw:WOk w) {ls:List Int} (hls:OpenL w ls) (hn:ls.length ≤ 12):Post (laws_wtHeads_m w ls) fun x => SameJ w x.1 := by
  have h8 := bridgesLen hw;unfold laws_wtHeads_m;refine .gd (by omega) (.bd (Q := fun x => SameJ w x.2) (.lp (fun s => s.1.length = w.Bridges.length ∧ (0 ≤ s.2 ∧ s.2 ≤ w.Bridges.length) ∧ ∀ k:Nat,(k:Int) < s.2 → s.1.getD k default = (k:Int)) (fun s => w.Bridges.length - s.2.toNat) ⟨by simp,by dsimp only; omega,fun k hk => by dsimp only at hk; omega⟩ fun s ⟨i1,i2,i3⟩ => .ite (fun c => ?_) fun c => .ret ⟨i1,fun k k' hk hk' e => ?_⟩) fun x4 h4 => .bd (Q := fun x => SameJ w x.2.2) (.lp (fun s => SameJ w s.1 ∧ 0 ≤ s.2.2 ∧ s.2.2 ≤ ls.length) (fun s => ls.length - s.2.2.toNat) ⟨h4,Int.le_refl _,by dsimp only; omega⟩ fun s ⟨i1,i2,i3⟩ => .ite (fun c => ?_) fun _ => .ret i1) fun x10 h10 => .ret h10)
  · have c := of_decide_eq_true c;have w1:IntKind.i64.wrap (s.2 + 1) = s.2 + 1 := wrap_i64 (by omega) (by omega);rw [w1];refine .gd (by omega) (.ret ⟨⟨by dsimp only; rw [List.length_set]; exact i1,by dsimp only; omega,fun k hk => ?_⟩,by dsimp only; omega⟩);dsimp only at hk ⊢
    by_cases e:k = s.2.toNat
    · subst e;rw [getD_set (by omega)]; omega
    · rw [getD_ne (fun h => e h.symm)];exact i3 k (by omega)
  · have c:¬ s.2 < _ := fun h => c (decide_eq_true h);dsimp only at e;rw [i3 k (by omega),i3 k' (by omega)] at e;have:k = k' := by omega
    subst this;exact J.refl hw hk
  · have c := of_decide_eq_true c;obtain ⟨l1,l2,l3⟩ := hls s.2.2.toNat (by omega);have hl := linkAt hw.link (i := (ls.getD s.2.2.toNat default).toNat) (by omega);have hj := J.link hw (i := (ls.getD s.2.2.toNat default).toNat) (by omega) l3;have w1:IntKind.i64.wrap (s.2.2 + 1) = s.2.2 + 1 := wrap_i64 (by omega) (by omega);rw [w1];obtain ⟨n1,n2⟩ := i1;generalize (w.Links.getD (ls.getD s.2.2.toNat default).toNat default) = lk at *;refine .gd (by omega) (.gd (by omega) (.gd (by omega) (.gd (by omega) (.gd (by omega) (.gd (by omega) (.bd (Q := fun _ => True) (.ite (fun _ => .ret trivial) fun _ => .ret trivial) fun x17 _ => ?_))))));generalize ha:s.1.getD lk.A.toNat default = a;generalize hb:s.1.getD lk.B.toNat default = b;obtain ⟨m,hmd⟩:∃ m:Int,m = if a < b then a else b := ⟨_,rfl⟩;refine .bd (Q := fun x => SameJ w x.2) (.lp (fun q => q.1.length = w.Bridges.length ∧ (0 ≤ q.2 ∧ q.2 ≤ w.Bridges.length) ∧ ∀ k:Nat,k < w.Bridges.length → q.1.getD k default = if (k:Int) < q.2 ∧ (s.1.getD k default = a ∨ s.1.getD k default = b) then m else s.1.getD k default) (fun q => w.Bridges.length - q.2.toNat) ⟨n1,by dsimp only; omega,fun k _ => by dsimp only; rw [if_neg (by omega)]⟩ fun q ⟨j1,j2,j3⟩ => .ite (fun d => ?_) fun d => .ret ⟨j1,fun k k' hk hk' e => ?_⟩) fun x23 h23 => .ret ⟨⟨h23,by dsimp only; omega,by dsimp only; omega⟩,by dsimp only; omega⟩
    · have d := of_decide_eq_true d;have w2:IntKind.i64.wrap (q.2 + 1) = q.2 + 1 := wrap_i64 (by omega) (by omega);have jq := j3 q.2.toNat (by omega);rw [if_neg (by omega)] at jq;rw [w2,jq];have put:∀ v:Int,v = m → (s.1.getD q.2.toNat default = a ∨ s.1.getD q.2.toNat default = b) → ∀ k:Nat,k < w.Bridges.length → (q.1.set q.2.toNat v).getD k default = if (k:Int) < q.2 + 1 ∧ (s.1.getD k default = a ∨ s.1.getD k default = b) then m else s.1.getD k default := fun v hv hc k hk => by
        by_cases e:k = q.2.toNat
        · subst e;rw [getD_set (by omega),if_pos ⟨by omega,hc⟩,hv]
        · rw [getD_ne (fun h => e h.symm),j3 k hk]
          by_cases hk2:(k:Int) < q.2
          · by_cases h3:s.1.getD k default = a ∨ s.1.getD k default = b
            · rw [if_pos ⟨hk2,h3⟩,if_pos ⟨by omega,h3⟩]
            · rw [if_neg (fun h => h3 h.2),if_neg (fun h => h3 h.2)]
          · rw [if_neg (fun h => hk2 h.1),if_neg (fun h => by have := h.1; omega)]
      refine .gd (by omega) (.gd (fun _ => by omega) (.ite (fun u => .ite (fun v => .gd (by omega) ?_) fun v => .gd (by omega) ?_) fun u => .ret ⟨⟨j1,by dsimp only; omega,fun k hk => ?_⟩,by dsimp only; omega⟩))
      · rw [bd_val];refine .ret ⟨⟨by dsimp only; rw [List.length_set]; exact j1,by dsimp only; omega,put a ?_ (by simpa using u)⟩,by dsimp only; omega⟩;rw [hmd,if_pos (of_decide_eq_true v)]
      · rw [bd_val];refine .ret ⟨⟨by dsimp only; rw [List.length_set]; exact j1,by dsimp only; omega,put b ?_ (by simpa using u)⟩,by dsimp only; omega⟩;rw [hmd,if_neg (fun h => v (decide_eq_true h))]
      · have u:¬ (s.1.getD q.2.toNat default = a ∨ s.1.getD q.2.toNat default = b) := fun h => u (by simpa using h);dsimp only;rw [j3 k hk]
        by_cases e:k = q.2.toNat
        · subst e;rw [if_neg (fun h => u h.2),if_neg (fun h => u h.2)]
        · by_cases h3:s.1.getD k default = a ∨ s.1.getD k default = b
          · by_cases hk2:(k:Int) < q.2
            · rw [if_pos ⟨hk2,h3⟩,if_pos ⟨by omega,h3⟩]
            · rw [if_neg (fun h => hk2 h.1),if_neg (fun h => by have := h.1; omega)]
          · rw [if_neg (fun h => h3 h.2),if_neg (fun h => h3 h.2)]
    · have d:¬ q.2 < _ := fun h => d (decide_eq_true h);dsimp only at e;rw [j3 k hk,j3 k' hk'] at e;have hA:lk.A.toNat < w.Bridges.length := by omega
      have hB:lk.B.toNat < w.Bridges.length := by omega
      have toA:∀ {x:Nat},x < w.Bridges.length → s.1.getD x default = a ∨ s.1.getD x default = b → J w x lk.A.toNat := fun {x} hx h => by
        rcases h with h | h
        · exact n2 x _ hx hA (h.trans ha.symm)
        · exact (n2 x _ hx hB (h.trans hb.symm)).trans hw hx hB hA (hj.symm hw hA hB)
      have hm:m = a ∨ m = b := by rw [hmd]; split <;> simp
      by_cases c1:s.1.getD k default = a ∨ s.1.getD k default = b
      · by_cases c2:s.1.getD k' default = a ∨ s.1.getD k' default = b
        · exact (toA hk c1).trans hw hk hA hk' ((toA hk' c2).symm hw hk' hA)
        · rw [if_pos ⟨by omega,c1⟩,if_neg (fun h => c2 h.2)] at e;rw [← e] at c2;exact absurd hm c2
      · by_cases c2:s.1.getD k' default = a ∨ s.1.getD k' default = b
        · rw [if_neg (fun h => c1 h.2),if_pos ⟨by omega,c2⟩] at e;rw [e] at c1;exact absurd hm c1
        · rw [if_neg (fun h => c1 h.2),if_neg (fun h => c2 h.2)] at e;exact n2 k k' hk hk' e
end Go.Proofs.Ytfgmolljcgnafaa
