/-
  Plain Lean: the tree is that of least costs from the least number; the row FnTreeBest.
-/
import Derived.Test.YthgcnnkjojemdaaKz5
import Derived.Test.YthgcnnkjojemdaaTreeHz
import Derived.Test.YthgcnnkjojemdaaTreeD2z
import Derived.Test.YthgcnnkjojemdaaTreeB3z
set_option linter.all false
namespace Go.Proofs.Ythgcnnkjojemdaa
open Go Go.Ab
set_option maxHeartbeats 400000
theorem wtMinds_self {xs:List TreeMind} (h:xs.length ≤ 1048576):laws_wtMinds_m xs xs = some true := by
  unfold laws_wtMinds_m;rw [if_neg (by simp),lp_all xs.length (fun _ => true) (.inl ()) (.inr ()) (fun i hi _ => ?_) (fun _ => by rw [if_neg (by simp)]),if_pos (allR_of fun _ _ => rfl),bd_val];rw [if_pos (by simp; omega),gd_pos (by omega),gd_pos (by omega),if_neg (by simp),wrap_succ hi (by omega),if_pos rfl]
theorem best_draw {b:List Int} (hb:b.length ≤ 9223372036854775807) (h:∀ x ∈ b,FitsB x):Post (spec_DrawTreeBest_m b) fun x => Drawn x := by
  unfold spec_DrawTreeBest_m;exact .bd (open_post hb h) fun x1 h1 => .bd (any_post h1 (by omega)) fun x2 ⟨d2,_⟩ => .ret d2
theorem tb_get {w:TreeWorld} (h:worldOk w = true) {i:Nat} (hi:i < w.Bridges.length):(treeBest w).getD i default = mindFor w i := by
  unfold treeBest;rw [if_pos h];simp [List.getD_eq_getElem?_getD,hi]
theorem mindFor_up {w:TreeWorld} (hw:WOk w) (hd:w.Down.length ≤ 9223372036854775807) {i:Nat} (hi:i < w.Bridges.length) (hu:(w.Bridges.getD i default).Up = true):mindFor w i = mindOf w i := by
  unfold mindFor;rw [if_pos hu,best_eq hw hd hi]
theorem open_up2 {w:TreeWorld} {l:Nat} (h:isOpen w l = true):(w.Bridges.getD (w.Links.getD l default).A.toNat default).Up = true ∧ (w.Bridges.getD (w.Links.getD l default).B.toNat default).Up = true := by
  unfold isOpen at h;simp only [Bool.and_eq_true] at h;exact ⟨h.1.2,h.2⟩
theorem steps_le' {w:TreeWorld} (hw:WOk w) (hd:w.Down.length ≤ 9223372036854775807) {r:Nat} (hr:r < w.Bridges.length):∀ (k:Nat) {v:Nat},v < w.Bridges.length → J w r v → (((netOf w).costs r).getD v default).toNat ≤ k → stepsOf w r v ≤ k
  | k,v,hv,hn,hk => by
    by_cases e:v = r
    · subst e; rw [steps_root]; omega
    · obtain ⟨u1,u2,u3,u4,u5,u6⟩ := up_next hw hr hv e hn;have hl':((netOf w).costs r).length = w.Bridges.length := Net.after_len;have bv := bd_get (costs_bd hw hr) (v := v) (by omega);have bu := bd_get (costs_bd hw hr) (v := (upOf w ((netOf w).costs r) v).next.toNat) (by omega);rw [steps_next hw hd hr hv e hn]
      cases k with
      | zero => omega
      | succ k =>
        have := steps_le' hw hd hr k (v := (upOf w ((netOf w).costs r) v).next.toNat) (by omega) (by unfold J at hn ⊢; omega) (by omega);omega
theorem steps_le {w:TreeWorld} (hw:WOk w) (hd:w.Down.length ≤ 9223372036854775807) {i o:Nat} (hi:i < w.Bridges.length) (ho:o < w.Bridges.length) (h:J w i o):stepsOf w (rootOf w o) o ≤ 4800 := by
  obtain ⟨r1,r2⟩ := root_J hw ho;have hn := r2.symm hw ho r1;have hl':((netOf w).costs (rootOf w o)).length = w.Bridges.length := Net.after_len;have bo := bd_get (costs_bd hw r1) (v := o) (by omega);unfold J at hn;exact steps_le' hw hd r1 4800 ho hn (by omega)
theorem link_says {w:TreeWorld} (hw:WOk w) (hd:w.Down.length ≤ 9223372036854775807) {i o l:Nat} (hi:i < w.Bridges.length) (hl:l < w.Links.length) (hop:isOpen w l = true) (ho:othOf w i l = (o:Int)) :
    o < w.Bridges.length ∧ (w.Bridges.getD o default).Up = true ∧ J w i o ∧ ((mindOf w o).Vector.Cost + (w.Links.getD l default).Cost ≥ (mindOf w i).Vector.Cost) ∧ (0 ≤ (mindOf w o).Vector.Cost ∧ (mindOf w o).Vector.Cost < far) ∧ (0 ≤ (mindOf w i).Vector.Cost ∧ (mindOf w i).Vector.Cost < far) ∧
    ((l:Int) = (mindOf w i).Link → (mindOf w o).Vector.Cost + (w.Links.getD l default).Cost = (mindOf w i).Vector.Cost ∧ (mindOf w o).Vector.Age + 1 = (mindOf w i).Vector.Age) := by
  have hk := linkAt hw.link hl;have hJ := J.link hw hl hop;have hup := open_up2 hop;have hA:(w.Links.getD l default).A.toNat < w.Bridges.length := by omega
  have hB:(w.Links.getD l default).B.toNat < w.Bridges.length := by omega
  have key:(i = (w.Links.getD l default).A.toNat ∧ o = (w.Links.getD l default).B.toNat) ∨ (i = (w.Links.getD l default).B.toNat ∧ o = (w.Links.getD l default).A.toNat) := by
    unfold othOf at ho;split at ho
    · left; omega
    · split at ho
      · right; omega
      · omega
  have ho1:o < w.Bridges.length := by omega
  have hio:J w i o := by
    rcases key with ⟨e1,e2⟩ | ⟨e1,e2⟩
    · rw [e1,e2]; exact hJ
    · rw [e1,e2]; exact hJ.symm hw hA hB
  have hou:(w.Bridges.getD o default).Up = true := by
    rcases key with ⟨_,e2⟩ | ⟨_,e2⟩
    · rw [e2]; exact hup.2
    · rw [e2]; exact hup.1
  obtain ⟨r1,r2⟩ := root_J hw hi;have hr := root_eq hw hi ho1 hio;have hni := r2.symm hw hi r1;have hno := hni.trans hw r1 hi ho1 hio;have hl':((netOf w).costs (rootOf w i)).length = w.Bridges.length := Net.after_len;have bi := bd_get (costs_bd hw r1) (v := i) (by omega);have bo := bd_get (costs_bd hw r1) (v := o) (by omega);have st := (netOf w).stable_ab (netOk hw) Net.after_len ((netOf w).final (netOk hw) (r := rootOf w i) r1) (i := l) hl hop;have st':((netOf w).costs (rootOf w i)).getD (w.Links.getD l default).A.toNat default ≤ ((netOf w).costs (rootOf w i)).getD (w.Links.getD l default).B.toNat default + (w.Links.getD l default).Cost ∧ ((netOf w).costs (rootOf w i)).getD (w.Links.getD l default).B.toNat default ≤ ((netOf w).costs (rootOf w i)).getD (w.Links.getD l default).A.toNat default + (w.Links.getD l default).Cost := st;unfold J at hni hno;have ec:∀ x,(mindOf w x).Vector.Cost = ((netOf w).costs (rootOf w x)).getD x default := fun _ => rfl;have ea:∀ x,(mindOf w x).Vector.Age = stepsOf w (rootOf w x) x := fun _ => rfl;rw [ec,ec,ea,ea,← hr];refine ⟨ho1,hou,hio,?_,⟨bo.1,hno⟩,⟨bi.1,hni⟩,fun e => ?_⟩
  · rcases key with ⟨e1,e2⟩ | ⟨e1,e2⟩
    · rw [← e1,← e2] at st'; exact st'.1
    · rw [← e1,← e2] at st'; exact st'.2
  · have el:(mindOf w i).Link = if i = rootOf w i then -1 else (upOf w ((netOf w).costs (rootOf w i)) i).link := rfl;rw [el] at e
    by_cases c:i = rootOf w i
    · rw [if_pos c] at e; omega
    · rw [if_neg c] at e;obtain ⟨u1,u2,u3,u4,u5,u6⟩ := up_next hw r1 hi c hni;obtain ⟨t1,t2⟩ := upOf_tight (w := w) ((netOf w).costs (rootOf w i)) i u1;have sn := steps_next hw hd r1 hi c hni;have e2:(upOf w ((netOf w).costs (rootOf w i)) i).link.toNat = l := by omega
      rw [e2] at u6 t2;have e3:(upOf w ((netOf w).costs (rootOf w i)) i).next.toNat = o := by omega
      rw [e3] at sn t2;exact ⟨t2,by omega⟩
theorem fnTreeBest_p {a0:List Int} (h:a0.length ≤ 9223372036854775807 ∧ ∀ x ∈ a0,FitsB x):laws_FnTreeBest_m a0 = some true := by
  unfold laws_FnTreeBest_m
  by_cases hb:a0.length ≤ 1048576
  rotate_left
  · rw [if_pos (by simp; omega)]
  rw [if_neg (by simp; omega)];obtain ⟨w,e,hdr⟩ := best_draw h.1 h.2;rw [e,bd_val];clear e;have L:w.Len 9223372036854775807 := by
    have := hdr.len;exact ⟨by have := this.b; omega,by have := this.l; omega,by have := this.d; omega,by have := this.a; omega,by have := this.z; omega,by have := this.r; omega⟩
  rw [implTreeBest_p L,bd_val,specTreeBest_p L,bd_val,wtMinds_self (treeBest_len hdr.len),bd_val,if_neg (by decide),specWorldOk_p L.b L.l L.d L.r,bd_val]
  cases hok:worldOk w
  · rw [if_pos (by decide)];unfold treeBest;rw [if_neg (by simp [hok])]
    rfl
  have hw := wOk L hok;have h8 := bridgesLen hw;have h12 := linksLen hw;have tl := treeBest_lenOk hok;have hd := L.d;obtain ⟨ls,el,hl1,hl2⟩ := wtAll_post hw hd;obtain ⟨x7,eh,hsj1,hsj2⟩ := wtHeads_post hw hl1 hl2;rw [if_neg (by decide),el,bd_val,eh,bd_val,lp_all w.Bridges.length (fun _ => true) (.inl ()) (.inr ()) (fun i hi _ => ?_) (fun _ => by rw [if_neg (by simp)]),if_pos (allR_of fun _ _ => rfl),bd_val]
  · dsimp only;rw [implTreeRight_p L,bd_val,specTreeRight_p L,bd_val];simp
  rw [if_pos (by simp; omega),gd_pos (by omega),gd_pos (by omega),Int.toNat_natCast,tb_get hok hi,wrap_succ hi (by omega),if_pos rfl]
  cases hu:(w.Bridges.getD i default).Up
  · have e0:mindFor w i = noMind := by unfold mindFor; rw [if_neg (by rw [hu]; decide)]
    rw [if_pos (by decide),e0,if_neg (by decide)]
  rw [if_neg (by decide),mindFor_up hw hd hi hu];obtain ⟨r1,r2⟩ := root_J hw hi;rw [lp_all w.Bridges.length (fun _ => true) (.inl ()) (.inr ()) (fun k hk _ => ?_) (fun _ => by rw [if_neg (by simp)]),if_pos (allR_of fun _ _ => rfl),bd_val]
  rotate_left
  · rw [if_pos (by simp; omega),Int.toNat_natCast,wrap_succ hk (by omega),gd_pos (by omega),gd_pos (fun _ => by omega),gd_pos (fun _ => by omega),gd_pos (fun _ => by omega),gd_pos (fun _ _ => by omega),tb_get hok hk,if_pos rfl,if_neg];simp only [Bool.and_eq_true,Bool.or_eq_true,decide_eq_true_eq,beq_iff_eq,bne_iff_ne];rintro ⟨⟨c1,c2⟩,c3⟩;have hj := hsj2 k i hk hi c2;rw [mindFor_up hw hd hk c1] at c3;have hr := root_eq hw hk hi hj;have hle := root_least hk (hj.symm hw hk hi);have er:∀ x,(mindOf w x).Vector.Root = idAt w (rootOf w x) := fun _ => rfl;rw [er,er,hr] at c3;rcases c3 with c3 | c3
    · exact absurd hle (Int.not_le.2 c3)
    · exact c3 rfl
  dsimp only;have c2:¬ ((!((decide ((mindOf w i).Link < 0)) == ((mindOf w i).Vector.Root == (w.Bridges.getD i default).Id))) || ((decide ((mindOf w i).Link < 0)) && ((mindOf w i).Vector.Cost != 0))) = true := by
    have el:(mindOf w i).Link = if i = rootOf w i then -1 else (upOf w ((netOf w).costs (rootOf w i)) i).link := rfl;have er:(mindOf w i).Vector.Root = idAt w (rootOf w i) := rfl;have ec:(mindOf w i).Vector.Cost = ((netOf w).costs (rootOf w i)).getD i default := rfl;rw [el,er,ec]
    by_cases c:i = rootOf w i
    · rw [if_pos c,← c,cost_root hw hi];simp [idAt]
    · obtain ⟨u1,_⟩ := up_next hw r1 hi c (r2.symm hw hi r1);have hne:¬ idAt w (rootOf w i) = (w.Bridges.getD i default).Id := fun e => c (ids_inj hw hi r1 e.symm);rw [if_neg c,decide_eq_false (by omega),(by simpa using hne:(idAt w (rootOf w i) == (w.Bridges.getD i default).Id) = false)];simp
  rw [gd_pos (by omega),if_neg c2,lp_all w.Links.length (fun _ => true) (.inl ()) (.inr ()) (fun l hl _ => ?_) (fun _ => by rw [if_neg (by simp)]),if_pos (allR_of fun _ _ => rfl),bd_val];have hk := linkAt hw.link hl;rw [if_pos (by simp; omega),wtDown_p hw hd hl,bd_val,Int.toNat_natCast,wrap_succ hl (by omega),gd_pos (fun _ => by omega),gd_pos (fun _ _ => by omega),if_pos rfl]
  cases hop:isOpen w l
  · rw [if_pos (by simp)]
  by_cases c:(w.Links.getD l default).A = (i:Int) ∨ (w.Links.getD l default).B = (i:Int)
  rotate_left
  · rw [if_pos (by simp only [Bool.or_eq_true,Bool.and_eq_true,bne_iff_ne]; right; exact ⟨fun e => c (.inl e),fun e => c (.inr e)⟩)]
  rw [if_neg (by simp only [Bool.or_eq_true,Bool.and_eq_true,bne_iff_ne,Bool.not_true,Bool.false_eq_true,false_or]; exact fun x => c.elim x.1 x.2)];have w1:IntKind.i64.wrap ((w.Links.getD l default).A + (w.Links.getD l default).B) = (w.Links.getD l default).A + (w.Links.getD l default).B := wrap_i64 (by omega) (by omega);have w2:IntKind.i64.wrap ((w.Links.getD l default).A + (w.Links.getD l default).B - i) = (w.Links.getD l default).A + (w.Links.getD l default).B - i := wrap_i64 (by omega) (by omega);rw [w1,w2];have ho:othOf w i l = ((((w.Links.getD l default).A + (w.Links.getD l default).B - i).toNat:Nat):Int) := by
    unfold othOf;split
    · omega
    · rw [if_pos (by omega)]; omega
  generalize hO:(w.Links.getD l default).A + (w.Links.getD l default).B - i = O at ho;obtain ⟨o1,o2,o3,o4,o5,o6,o7⟩ := link_says hw hd hi hl hop ho;have hfar:far = 1073741824 := rfl;have w3:IntKind.i64.wrap ((mindOf w O.toNat).Vector.Cost + (w.Links.getD l default).Cost) = (mindOf w O.toNat).Vector.Cost + (w.Links.getD l default).Cost := wrap_i64 (by omega) (by omega);rw [tb_get hok o1,mindFor_up hw hd o1 o2,w3];have hge:decide ((mindOf w O.toNat).Vector.Cost + (w.Links.getD l default).Cost < (mindOf w i).Vector.Cost) = false := decide_eq_false (by omega);rw [hge];have q:0 ≤ O ∧ O < (((treeBest w).length:Nat):Int) := by omega
  rw [gd_pos (by omega),gd_pos (by omega),gd_pos q,gd_pos (by omega),gd_pos (fun _ _ => q),gd_pos (fun _ _ => by omega),gd_pos (fun _ _ _ => q),if_neg];simp only [Bool.or_eq_true,Bool.and_eq_true,bne_iff_ne,beq_iff_eq,Bool.false_eq_true,false_or];rintro ⟨x1,x2⟩;obtain ⟨y1,y2⟩ := o7 x1;have ha:(mindOf w i).Vector.Age = stepsOf w (rootOf w i) i := rfl;have hb':(mindOf w O.toNat).Vector.Age = stepsOf w (rootOf w O.toNat) O.toNat := rfl;have hs := steps_le hw hd hi o1 o3;have w4:IntKind.i64.wrap ((mindOf w O.toNat).Vector.Age + 1) = (mindOf w O.toNat).Vector.Age + 1 := wrap_i64 (by omega) (by omega);rw [w4] at x2;rcases x2 with x2 | x2
  · exact x2 y1
  · exact x2 y2
end Go.Proofs.Ythgcnnkjojemdaa
