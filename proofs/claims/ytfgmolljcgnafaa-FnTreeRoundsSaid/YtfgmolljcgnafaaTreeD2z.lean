/-
  Plain Lean: the draws of worlds, spoilt or not, and of bridges always give something.
-/
import Derived.Test.YtfgmolljcgnafaaKz4
import Derived.Test.YtfgmolljcgnafaaTreeDz
set_option linter.all false
namespace Go.Proofs.Ytfgmolljcgnafaa
open Go Go.Ab
set_option maxHeartbeats 400000
theorem spoilV_post {r:l81Rd} {k:Int} (h:RdOk r k) (hk:k ≤ 1099510000000) (v:TreeVector):Post (spec_l85SpoilVector_m r v) fun x => RdOk ⟨r.b,x.2.p⟩ (k + 2) := by
  unfold spec_l85SpoilVector_m;exact .bd (pick_post h (by omega) (by omega)) fun x1 ⟨_,h1⟩ => .ite (fun _ => .bd (pick_post h1 (by omega) (by omega)) fun x2 ⟨g2,h2⟩ => .gd ⟨g2.1,by simpa using g2.2⟩ (.ret (h2.mono (by omega)))) fun _ => .ite (fun _ => .bd (pick_post h1 (by omega) (by omega)) fun x2 ⟨g2,h2⟩ => .gd ⟨g2.1,by simpa using g2.2⟩ (.ret (h2.mono (by omega)))) fun _ => .bd (pick_post h1 (by omega) (by omega)) fun x2 ⟨g2,h2⟩ => .gd ⟨g2.1,by simpa using g2.2⟩ (.ret (h2.mono (by omega)))
theorem drawn_of {w v:TreeWorld} (h:Good w) (s:Shape w v):Drawn v := by
  have h1 := h.n1;have h8 := h.n8;have h12 := h.l12;have hd := h.len.d;have ha := h.a;have hb := h.b;obtain ⟨s1,s2,s3,s4,s5,s6⟩ := s;exact ⟨by omega,by omega,by omega,by omega,by omega,by omega,by omega⟩
theorem Drawn.len {w:TreeWorld} (h:Drawn w):w.Len 1048576 := ⟨by have := h.n; omega,by have := h.l; omega,by have := h.d; omega,by have := h.a; omega,by have := h.b; omega,by have := h.r; omega⟩
theorem spoil_post {r:l81Rd} {k:Int} (h:RdOk r k) (hk:k ≤ 1099508000000) {w v:TreeWorld} (hg:Good w) (s:Shape w v):Post (spec_l85Spoil_m r v) fun x => Drawn x.1 ∧ RdOk ⟨r.b,x.2.p⟩ (k + 100) := by
  have hd := drawn_of hg s;have hd1 := hd;obtain ⟨n1,n2,n3,n4,n5,n6,n7⟩ := hd1;have hr := s.r;have n8:v.Bridges.length ≤ 8 := by rw [s.n]; exact hg.n8
  unfold spec_l85Spoil_m;rw [copy_p hd.len,bd_val];have w1:IntKind.i64.wrap ((v.Links.length:Int) + 1) = v.Links.length + 1 := wrap_i64 (by omega) (by omega);have w2:IntKind.i64.wrap ((v.Links.length:Int) + 2) = v.Links.length + 2 := wrap_i64 (by omega) (by omega);rw [w1,w2];refine .bd (pick_post h (by omega) (by omega)) fun x2 ⟨g2,h2⟩ => .bd (pick_post h2 (by omega) (by omega)) fun x3 ⟨g3,h3⟩ => ?_;refine .bd (Q := fun x => Drawn ⟨x.2.1,x.2.2.1,x.2.2.2.1,x.2.2.2.2.1,x.2.2.2.2.2.1,x.1⟩ ∧ RdOk ⟨r.b,x.2.2.2.2.2.2⟩ (k + 100)) (.bd (pick_post h3 (by omega) (by omega)) fun x7 ⟨_,h7⟩ => ?_) fun x4 ⟨d4,h4⟩ => .ret ⟨d4,h4⟩;have setB:∀ (i:Nat) (x:TreeBridge),Drawn ⟨v.Bridges.set i x,v.Links,v.Down,v.AtA,v.AtB,v.Radio⟩ := fun i x => ⟨by simpa using n1,by simpa using n2,n3,n4,n5,n6,n7⟩;refine .ite (fun _ => .gd (by omega) (.bd (pick_post h7 (by omega) (by omega)) fun x9 ⟨g9,h9⟩ => .gd ⟨g9.1,by simpa using g9.2⟩ (.gd g2 ?_))) fun _ => .ite (fun _ => .gd g2 (.gd g2 ?_)) fun _ => .ite (fun _ => .gd g2 (.bd (spoilV_post h7 (by omega) _) fun x17 h17 => .gd g2 ?_)) fun _ => .ite (fun _ => .bd (pick_post h7 (by omega) (by omega)) fun x20 ⟨g20,h20⟩ => .gd ⟨g20.1,by simpa using g20.2⟩ (.gd g2 ?_)) fun _ => .ite (fun _ => .ite (fun c => ?_) fun _ => .ret ⟨hd,h7.mono (by (try dsimp only); omega)⟩) fun _ => .ite (fun _ => ?_) fun _ => .ite (fun _ => .ite (fun c => ?_) fun _ => .ret ⟨hd,h7.mono (by (try dsimp only); omega)⟩) fun _ => .ite (fun _ => .ite (fun c => ?_) fun _ => .gd (by simp; omega) (.ret ⟨⟨n1,n2,n3,n4,n5,?_,n7⟩,h7.mono (by (try dsimp only); omega)⟩)) fun _ => ?_
  · rw [bd_val]; exact .ret ⟨setB _ _,h9.mono (by (try dsimp only); omega)⟩
  · rw [bd_val]; exact .ret ⟨setB _ _,h7.mono (by (try dsimp only); omega)⟩
  · rw [bd_val]; exact .ret ⟨setB _ _,h17.mono (by (try dsimp only); omega)⟩
  · rw [bd_val]; exact .ret ⟨setB _ _,h20.mono (by (try dsimp only); omega)⟩
  · simp only [decide_eq_true_eq] at c;refine .bd (pick_post h7 (by omega) (by omega)) fun x24 ⟨g24,h24⟩ => .gd ⟨g24.1,by simpa using g24.2⟩ (.gd (by omega) ?_);rw [bd_val];refine .gd (by omega) (.bd (pick_post h24 (by omega) (by omega)) fun x29 ⟨_,h29⟩ => .gd (by omega) ?_);rw [bd_val];refine .ret ⟨⟨n1,n2,?_,n4,n5,n6,n7⟩,h29.mono (by (try dsimp only); omega)⟩;dsimp only;rw [List.length_set,List.length_set]; exact n3
  · refine .bd (pick_post h7 (by omega) (by omega)) fun x32 ⟨g32,h32⟩ => .gd ⟨g32.1,by simpa using g32.2⟩ (.gd (by simp; omega) (.ret ⟨⟨n1,n2,n3,?_,n5,n6,n7⟩,h32.mono (by (try dsimp only); omega)⟩));have hdl:v.Down.length ≤ 12 := by rw [s.d]; exact hg.len.d
    dsimp only;rw [List.length_append,List.length_singleton]; omega
  · simp only [decide_eq_true_eq] at c;refine .gd (by omega) (.bd (spoilV_post h7 (by omega) _) fun x36 h36 => .gd (by omega) (.ret ⟨⟨n1,n2,n3,n4,?_,n6,n7⟩,h36.mono (by (try dsimp only); omega)⟩));dsimp only;rw [List.length_set]; exact n5
  · simp only [decide_eq_true_eq] at c;refine .bd (pick_post h7 (by omega) (by omega)) fun x38 ⟨g38,h38⟩ => .gd ⟨g38.1,by simpa using g38.2⟩ (.gd (by omega) ?_);rw [bd_val];refine .ret ⟨⟨n1,n2,n3,n4,n5,?_,n7⟩,h38.mono (by (try dsimp only); omega)⟩;dsimp only;rw [List.length_set]; exact n6
  · have hbl:v.AtB.length ≤ 12 := by rw [s.b,hg.b]; exact hg.l12
    dsimp only;rw [List.length_append,List.length_singleton]; omega
  · refine .bd (pick_post h7 (by omega) (by omega)) fun x43 ⟨_,h43⟩ => .bd (pick_post h43 (by omega) (by omega)) fun x44 ⟨_,h44⟩ => .bd (vec15_post h44 (by omega) n1) fun x45 ⟨e45,h45⟩ => ?_;rw [e45];refine .gd rfl (.gd (by simp; omega) (.bd (Q := fun x => x.1.length ≤ 100 ∧ RdOk ⟨r.b,x.2.2⟩ (k + 100)) (.lp (fun s => (1 ≤ s.1.length ∧ s.1.length ≤ 13) ∧ RdOk ⟨r.b,s.2⟩ (k + 40 + s.1.length)) (fun s => 14 - s.1.length) ⟨⟨?_,?_⟩,h45.mono (by (try dsimp only); omega)⟩ fun s ⟨⟨z1,z2⟩,i1⟩ => ?_) fun x50 ⟨z,h50⟩ => .ret ⟨⟨n1,n2,n3,n4,n5,n6,z⟩,h50⟩))
    · dsimp only; rw [List.length_append,List.length_singleton]; omega
    · dsimp only; rw [List.length_append,List.length_singleton]; omega
    · refine .bd (pick_post i1 (by omega) (by omega)) fun x51 ⟨_,h51⟩ => .ite (fun c => .gd (by omega) (.gd (by simp; omega) (.ret ⟨⟨⟨?_,?_⟩,?_⟩,?_⟩))) fun _ => .ret ⟨by (try dsimp only); omega,h51.mono (by (try dsimp only); omega)⟩
      all_goals simp only [Bool.and_eq_true,decide_eq_true_eq] at c
      · dsimp only; rw [List.length_append,List.length_singleton]; omega
      · dsimp only; rw [List.length_append,List.length_singleton]; omega
      · dsimp only; rw [List.length_append,List.length_singleton]; exact h51.mono (by omega)
      · dsimp only; rw [List.length_append,List.length_singleton]; omega
theorem any_post {r:l81Rd} {k:Int} (h:RdOk r k) (hk:k ≤ 1099507000000):Post (spec_l85Any_m r) fun x => Drawn x.1 ∧ RdOk ⟨r.b,x.2.p⟩ (k + 3000) := by
  unfold spec_l85Any_m;exact .bd (world_post h (by omega)) fun x1 ⟨⟨w,g,s⟩,h1⟩ => .bd (pick_post h1 (by omega) (by omega)) fun x2 ⟨_,h2⟩ => .ite (fun _ => .bd (spoil_post h2 (by omega) g s) fun x3 ⟨d3,h3⟩ => .ret ⟨d3,h3.mono (by omega)⟩) fun _ => .ret ⟨drawn_of g s,h2.mono (by omega)⟩
end Go.Proofs.Ytfgmolljcgnafaa
