/-
  Plain Lean: a step leaves every bridge with what it thinks; the row FnTreeStep.
-/
import Derived.Test.YthgcnnkjojemdaaKz4
import Derived.Test.YthgcnnkjojemdaaTreeI3z
import Derived.Test.YthgcnnkjojemdaaTreeOz
import Derived.Test.YthgcnnkjojemdaaTreeDz
set_option linter.all false
namespace Go.Proofs.Ythgcnnkjojemdaa
open Go Go.Ab
set_option maxHeartbeats 400000
theorem th_words {w:TreeWorld} (h:Good w) (ht:Th w) (e:TreeEvent):Th (words w e) := by
  unfold words;split
  · rename_i hi;rw [inR_iff] at hi;have ha:e.At.toNat < w.Radio.length := by omega
    have hx:wordOk w (w.Radio.getD e.At.toNat default) = true := h.radio _ ha;split
    · exact th_hear (good_out h ha) (th_radio ht) hx
    · split
      · exact th_put ht
      · exact th_radio ht
  · exact ht
theorem th_tick {w:TreeWorld} (h:Good w):Th (ticked w) := by
  have g := aged_good h;have key:∀ j,j ≤ w.Bridges.length → ∀ c,c < j → (((List.range j).foldl thinks (aged w)).Bridges.getD c default).Up = true → (((List.range j).foldl thinks (aged w)).Bridges.getD c default).Mind = think ((List.range j).foldl thinks (aged w)) (c:Int) := by
    intro j
    induction j with
    | zero => intro _ c hc; exact absurd hc (Nat.not_lt_zero _)
    | succ j ih =>
      intro hj c hc;obtain ⟨i1,i2⟩ := ticked_in h j (by omega);rw [List.range_succ,List.foldl_append];show ((thinks ((List.range j).foldl thinks (aged w)) j).Bridges.getD c default).Up = true → ((thinks ((List.range j).foldl thinks (aged w)) j).Bridges.getD c default).Mind = think (thinks ((List.range j).foldl thinks (aged w)) j) c;have ih := ih (by omega);generalize (List.range j).foldl thinks (aged w) = v at *;have hb:j < v.Bridges.length := by rw [i2.n]; omega
      intro hu;rw [wok_thinks i1.wok hb];have up := up_thinks (w := v) hb (c:Int);unfold upAt at up;rw [Int.toNat_natCast] at up;rw [up] at hu
      by_cases e:c = j
      · subst e;unfold thinks;rw [if_pos hu,getD_setB hb,if_pos rfl]
      · rw [← ih c (by omega) hu];unfold thinks;split
        · rw [getD_setB hb,if_neg e]
        · rfl
  intro c hc hu;exact key _ (Nat.le_refl _) c (by rw [(same_ticked h).n] at hc; exact hc) hu
theorem wiped_keep {w:TreeWorld} (h:Good w) (b:Int):∀ j,j ≤ w.Links.length → ∀ k,((w.Links.getD k default).A ≠ b → ((List.range j).foldl (wipeStep b) w).AtA.getD k default = w.AtA.getD k default) ∧ ((w.Links.getD k default).B ≠ b → ((List.range j).foldl (wipeStep b) w).AtB.getD k default = w.AtB.getD k default) := by
  intro j
  induction j with
  | zero => exact fun _ k => ⟨fun _ => rfl,fun _ => rfl⟩
  | succ j ih =>
    intro hj k;obtain ⟨i1,i2,_⟩ := wiped_in h b j (by omega);have hl:((List.range j).foldl (wipeStep b) w).Links = w.Links := i2.links;obtain ⟨k1,k2⟩ := ih (by omega) k;rw [List.range_succ,List.foldl_append];show (_ → (wipeStep b ((List.range j).foldl (wipeStep b) w) j).AtA.getD k default = _) ∧ (_ → (wipeStep b ((List.range j).foldl (wipeStep b) w) j).AtB.getD k default = _);rw [wipe_A i1 (by rw [hl]; exact hj),wipe_B i1 (by rw [hl]; exact hj),hl];refine ⟨fun hn => ?_,fun hn => ?_⟩
    · rw [if_neg (fun hh => by obtain ⟨e,e2⟩ := hh; subst e; exact hn e2)];exact k1 hn
    · rw [if_neg (fun hh => by obtain ⟨e,e2⟩ := hh; subst e; exact hn e2)];exact k2 hn
theorem end_none {w:TreeWorld} {i:Nat} {s:TreeSlot} {b:Int} (h:endOk w i s b = true) (hu:(w.Bridges.getD b.toNat default).Up = false):nothing s.Vector = true := by
  unfold endOk at h;rw [hu,Bool.and_false,Bool.or_false,Bool.and_eq_true] at h;exact h.2
theorem th_bridge {w:TreeWorld} (h:Good w) (ht:Th w) (e:TreeEvent):Th (bridgeEv w e) := by
  have gb := good_bridgeEv h e;unfold bridgeEv at gb ⊢;split
  · rename_i hi;rw [if_pos hi] at gb;rw [inR_iff] at hi;have ha:e.At.toNat < w.Bridges.length := by omega
    have ea:((e.At.toNat:Nat):Int) = e.At := by omega
    split
    · rename_i h7;rw [if_pos h7] at gb;split
      · exact ht
      · rename_i hu;rw [if_neg hu] at gb;have hu:(w.Bridges.getD e.At.toNat default).Up = false := by simpa using hu
        generalize hv:setBr w e.At.toNat ⟨(w.Bridges.getD e.At.toNat default).Id,true,⟨⟨(w.Bridges.getD e.At.toNat default).Id,0,0⟩,-1⟩⟩ = v at *;have gB:∀ k,v.Bridges.getD k default = if k = e.At.toNat then ⟨(w.Bridges.getD e.At.toNat default).Id,true,⟨⟨(w.Bridges.getD e.At.toNat default).Id,0,0⟩,-1⟩⟩ else w.Bridges.getD k default := fun k => by rw [← hv]; exact getD_setB ha k
        have hid:∀ k,(v.Bridges.getD k default).Id = (w.Bridges.getD k default).Id := fun k => by
          rw [gB]; split
          · rename_i e; rw [e]
          · rfl
        have hn:v.Bridges.length = w.Bridges.length := by rw [← hv]; simp [setBr]
        have hvl:v.Links = w.Links := by rw [← hv]; rfl
        have hva:v.AtA = w.AtA := by rw [← hv]; rfl
        have hvb:v.AtB = w.AtB := by rw [← hv]; rfl
        intro c hc hcu;rw [hn] at hc;rw [think_congr (w := w) h.wok gb.wok hvl hid (fun i _ _ => by rw [hva]) (fun i _ _ => by rw [hvb])]
        by_cases ec:c = e.At.toNat
        · have te := think_empty h.wok (b := (c:Int)) (fun i hi' hA => by
            have he := h.ends i hi';unfold endsOk at he;rw [Bool.and_eq_true] at he;exact end_none he.1 (by rw [hA,Int.toNat_natCast,ec]; exact hu)) (fun i hi' hB => by
            have he := h.ends i hi';unfold endsOk at he;rw [Bool.and_eq_true] at he;exact end_none he.2 (by rw [hB,Int.toNat_natCast,ec]; exact hu))
          rw [te,gB,if_pos ec,Int.toNat_natCast,ec]
        · rw [gB,if_neg ec] at hcu ⊢;exact ht c hc hcu
    · rename_i h7;rw [if_neg h7] at gb;obtain ⟨i1,i2,i3⟩ := wiped_in h e.At _ (Nat.le_refl _);have kp := wiped_keep h e.At _ (Nat.le_refl _);have i1:Good (wiped w e.At) := i1;have hb:(wiped w e.At).Bridges = w.Bridges := i2.br;have hl:(wiped w e.At).Links = w.Links := i2.links;have kA:∀ k,(w.Links.getD k default).A ≠ e.At → (wiped w e.At).AtA.getD k default = w.AtA.getD k default := fun k => (kp k).1;have kB:∀ k,(w.Links.getD k default).B ≠ e.At → (wiped w e.At).AtB.getD k default = w.AtB.getD k default := fun k => (kp k).2;generalize wiped w e.At = u at *;generalize hv:setBr u e.At.toNat ⟨(w.Bridges.getD e.At.toNat default).Id,false,⟨⟨0,0,0⟩,0⟩⟩ = v at *;have gB:∀ k,v.Bridges.getD k default = if k = e.At.toNat then ⟨(w.Bridges.getD e.At.toNat default).Id,false,⟨⟨0,0,0⟩,0⟩⟩ else w.Bridges.getD k default := fun k => by rw [← hv,← hb]; exact getD_setB (by rw [hb]; exact ha) k
      have hid:∀ k,(v.Bridges.getD k default).Id = (w.Bridges.getD k default).Id := fun k => by
        rw [gB]; split
        · rename_i e; rw [e]
        · rfl
      have hn:v.Bridges.length = w.Bridges.length := by rw [← hv,← hb]; simp [setBr]
      have hvl:v.Links = w.Links := by rw [← hv,← hl]; rfl
      have hva:v.AtA = u.AtA := by rw [← hv]; rfl
      have hvb:v.AtB = u.AtB := by rw [← hv]; rfl
      intro c hc hcu;rw [hn] at hc
      by_cases ec:c = e.At.toNat
      · rw [gB,if_pos ec] at hcu;exact absurd hcu (show ¬ (false = true) by decide)
      · rw [think_congr (w := w) h.wok gb.wok hvl hid (fun i _ hA => by rw [hva]; exact kA i (by omega)) (fun i _ hB => by rw [hvb]; exact kB i (by omega))];rw [gB,if_neg ec] at hcu ⊢;exact ht c hc hcu
  · exact ht
theorem th_link {w:TreeWorld} (h:Good w) (ht:Th w) (e:TreeEvent):Th (linkEv w e) := by
  unfold linkEv;split
  · rename_i hi;rw [inR_iff] at hi;have ha:e.At.toNat < w.Links.length := by omega
    have ea:((e.At.toNat:Nat):Int) = e.At := by omega
    split
    · obtain ⟨p1,p2⟩ := downs_pw h.down;have n1 := downN_pw (a := e.At) (k := e.Kind) p1;have n2:∀ x ∈ downN w.Down e.At e.Kind,0 ≤ x ∧ x ≤ (w.Links.length:Int) - 1 := fun x hx => by
        rcases downN_mem hx with ⟨_,rfl⟩ | ⟨hx,_⟩
        · exact hi
        · exact p2 x hx
      obtain ⟨c1,c2⟩ := cut_good h ha n1 n2 (fun x hx => by
        rcases downN_mem hx with ⟨_,rfl⟩ | ⟨hx,_⟩
        · exact .inl ea.symm
        · exact .inr hx)
      have wk:WOk (setDown w (downN w.Down e.At e.Kind)) := ⟨h.wok.l,h.link,h.a,h.b,h.wok.slots,h.br⟩;have t1 := th_forget wk ha (e := 0) (th_down ht);have s0:Same w (setDown w (downN w.Down e.At e.Kind)) := ⟨rfl,rfl⟩;have s1:Same w (forget (setDown w (downN w.Down e.At e.Kind)) e.At.toNat 0) := (s0.trans same_setSlot).trans same_thinks;have wv:WOk (forget (setDown w (downN w.Down e.At e.Kind)) e.At.toNat 0) := by
        unfold forget;have gb := c2.br;refine ⟨by rw [same_thinks.links]; exact c1.l,by rw [same_thinks.n,same_thinks.links]; exact c1.link,?_,?_,?_,fun i hi => ?_⟩
        · rw [same_thinks.links];unfold thinks; split <;> exact c1.a
        · rw [same_thinks.links];unfold thinks; split <;> exact c1.b
        · intro i hi;rw [same_thinks.links] at hi;unfold thinks; split <;> exact c1.slots i hi
        · have := gb i (by rw [same_setSlot.n]; exact hi);exact this
      exact th_forget wv (by rw [s1.links]; exact ha) t1
    · exact th_down ht
  · exact ht
theorem th_do {w:TreeWorld} (h:Good w) (ht:Th w) (e:TreeEvent):Th (doEv w e) := by
  unfold doEv;split
  · unfold sayEv;split
    · exact th_put ht
    · exact ht
  · split
    · exact th_words h ht e
    · split
      · exact th_tick h
      · split
        · exact th_bridge h ht e
        · split
          · exact th_link h ht e
          · exact ht
theorem still_do {w:TreeWorld} {e:TreeEvent} (h:e.Kind = 1 ∨ e.Kind = 3 ∨ e.Kind = 4 ∨ e.Kind = 9):(doEv w e).Bridges = w.Bridges := by
  have pb:∀ x,(putR w x).Bridges = w.Bridges := fun x => by rw [put_sh]
  unfold doEv;split
  · unfold sayEv;split
    · exact pb _
    · rfl
  · split
    · unfold words;split
      · rw [if_neg (show ¬ e.Kind = 2 by omega)];split
        · exact pb _
        · rfl
      · rfl
    · rw [if_neg (show ¬ e.Kind = 5 by omega),if_neg (show ¬ (e.Kind = 6 ∨ e.Kind = 7) by omega)];split
      · unfold linkEv;split
        · rw [if_neg (show ¬ e.Kind = 8 by omega)]; rfl
        · rfl
      · rfl
theorem th_new {ids:List Int} {ls:List TreeLink} (h:Good (newWorld ids ls)):Th (newWorld ids ls) := by
  intro c hc hu;have hc':c < ids.length := by simpa [newWorld] using hc
  have z:∀ i e,nothing (slotAt (newWorld ids ls) i e).Vector = true := fun i e => by rw [slotDef]; rfl
  rw [think_empty h.wok (fun i _ _ => z i 0) (fun i _ _ => z i 1),Int.toNat_natCast,newBridge_get hc']
  rfl
theorem th_start {ids:List Int} {ls:List TreeLink} (h1:IdsDrawn ids) (h2:LinksDrawn (ids.length:Int) ls) (h3:1 ≤ ids.length ∧ ids.length ≤ 8):Th (openWorld ids ls).1 := by
  have g := (good_start h1 h2 h3);unfold openWorld at g ⊢;split
  · rename_i c;rw [if_pos c] at g;exact th_new g.1
  · rename_i c;rw [if_neg c] at g;have:([]:List TreeBridge).length = ids.length := g.2;simp at this;omega
theorem start_th {r:l81Rd} {k:Int} (h:RdOk r k) (hk:k ≤ 1099510000000):Post (spec_l85Start_m r) fun x => (Good x.1 ∧ Th x.1) ∧ RdOk ⟨r.b,x.2.p⟩ (k + 100) := by
  unfold spec_l85Start_m;refine .bd (pick_post h (by omega) (by omega)) fun x1 ⟨g1,h1⟩ => .gd ⟨g1.1,by simpa using g1.2⟩ ?_;have hn:1 ≤ ([2,3,4,5,6,8,1]:List Int).getD x1.1.toNat default ∧ ([2,3,4,5,6,8,1]:List Int).getD x1.1.toNat default ≤ 8 := by
    have:x1.1 = 0 ∨ x1.1 = 1 ∨ x1.1 = 2 ∨ x1.1 = 3 ∨ x1.1 = 4 ∨ x1.1 = 5 ∨ x1.1 = 6 := by omega
    rcases this with e | e | e | e | e | e | e <;> rw [e] <;> decide
  generalize ([2,3,4,5,6,8,1]:List Int).getD x1.1.toNat default = n at *;refine .bd (ids_post h1 (by omega) (by omega) (by omega)) fun x3 ⟨⟨l3,g3⟩,h3⟩ => .bd (links_post h3 (by omega) (by omega) (by omega)) fun x4 ⟨g4,h4⟩ => ?_;have hl4 := g4.1;rw [← l3] at g4;obtain ⟨g,_⟩ := good_start g3 g4 (by omega);have t := th_start g3 g4 (by omega);rw [specOpen_p (by omega) (by omega),bd_val];exact .ret ⟨⟨g,t⟩,h4.mono (by omega)⟩
theorem events_post {b:List Int} (hb:b.length ≤ 9223372036854775807) (h:∀ x ∈ b,FitsB x):Post (spec_DrawTreeEvents_m b) fun x => (Good x.1 ∧ Th x.1) ∧ x.2.length ≤ 1000 := by
  unfold spec_DrawTreeEvents_m;refine .bd (open_post hb h) fun r hr => .bd (start_th hr (by omega)) fun x2 ⟨g2,h2⟩ => .bd (pick_post h2 (by omega) (by omega)) fun x3 ⟨g3,h3⟩ => ?_;have wn:IntKind.i64.wrap (4 + x3.1) = 4 + x3.1 := wrap_i64 (by omega) (by omega);rw [wn];refine .bd (Q := fun x => x.2.length ≤ 1000) (.lp (fun s => Good ⟨s.2.1,s.2.2.1,s.2.2.2.1,s.2.2.2.2.1,s.2.2.2.2.2.1,s.2.2.2.2.2.2.1⟩ ∧ (∃ k,RdOk ⟨r.b,s.2.2.2.2.2.2.2.1⟩ k ∧ k ≤ 1000 + 4 * (s.1.length:Int)) ∧ (s.1.length:Int) + s.2.2.2.2.2.2.2.2 ≤ 100 ∧ 0 ≤ s.2.2.2.2.2.2.2.2) (fun s => s.2.2.2.2.2.2.2.2.toNat) ⟨g2.1,⟨_,h3,by simp⟩,by simp; omega,by dsimp only; omega⟩ fun s ⟨g,⟨k,hk,hkl⟩,hl,h0⟩ => ?_) fun x7 h7 => .ret ⟨g2,h7⟩;refine .ite (fun c => ?_) fun c => .ret (by dsimp only; omega);simp only [decide_eq_true_eq] at c;refine .bd (event_post hk (by omega) g) fun x8 h8 => ?_;obtain ⟨gd,_⟩ := do_good g x8.1;rw [sStep_p g,bd_val];have w1:IntKind.i64.wrap (s.2.2.2.2.2.2.2.2 - 1) = s.2.2.2.2.2.2.2.2 - 1 := wrap_i64 (by omega) (by omega);rw [w1];refine .gd (by simp; omega) (.ret ⟨⟨gd,⟨_,h8,by simp; omega⟩,by simp; omega,by dsimp only; omega⟩,by dsimp only; omega⟩)
theorem same_mind (m:TreeMind):(((((m.Vector).Root) == ((m.Vector).Root)) && ((((m.Vector).Cost) == ((m.Vector).Cost)) && ((((m.Vector).Age) == ((m.Vector).Age)) && true))) && (((m.Link) == (m.Link)) && true)) = true := by simp
theorem post_true {m:Option Bool} (h:Post m fun x => x = true):m = some true := by
  obtain ⟨x,e,hx⟩ := h;rw [e,hx]
theorem fnTreeStep_p {a0:List Int} (h:a0.length ≤ 9223372036854775807 ∧ ∀ x ∈ a0,FitsB x):laws_FnTreeStep_m a0 = some true := by
  unfold laws_FnTreeStep_m
  by_cases hb:a0.length ≤ 1048576
  · rw [if_neg (by simp; omega)];obtain ⟨x1,e1,⟨g1,t1⟩,hl1⟩ := events_post h.1 h.2;rw [e1,bd_val];refine post_true (.bd (Q := fun x => ∃ d:(List TreeBridge) × (List TreeLink) × (List Int) × (List TreeSlot) × (List TreeSlot) × (List TreeWord),x = .inr d ∧ 0 < d.1.length) (.lp (fun s => (Good ⟨s.1,s.2.1,s.2.2.1,s.2.2.2.1,s.2.2.2.2.1,s.2.2.2.2.2.1⟩ ∧ Th ⟨s.1,s.2.1,s.2.2.1,s.2.2.2.1,s.2.2.2.2.1,s.2.2.2.2.2.1⟩) ∧ 0 ≤ s.2.2.2.2.2.2 ∧ s.2.2.2.2.2.2 ≤ (x1.2.length:Int)) (fun s => ((x1.2.length:Int) - s.2.2.2.2.2.2).toNat) ⟨⟨g1,t1⟩,Int.le_refl _,by dsimp only; omega⟩ fun s ⟨⟨g,t⟩,i1,i2⟩ => ?_) fun x hx => ?_)
    · refine .ite (fun c => ?_) fun c => .ret ⟨_,rfl,g.n1⟩;simp only [decide_eq_true_eq] at c;refine .gd ⟨i1,c⟩ ?_;rw [iStep_p g,bd_val];refine .gd ⟨i1,c⟩ ?_;rw [sStep_p g,bd_val];generalize x1.2.getD s.2.2.2.2.2.2.toNat default = e at *;obtain ⟨gd',sm⟩ := do_good g e;have td := th_do g t e;have st:(e.Kind = 1 ∨ e.Kind = 3 ∨ e.Kind = 4 ∨ e.Kind = 9) → (doEv ⟨s.1,s.2.1,s.2.2.1,s.2.2.2.1,s.2.2.2.2.1,s.2.2.2.2.2.1⟩ e).Bridges = s.1 := fun h => still_do h;have hn:(doEv ⟨s.1,s.2.1,s.2.2.1,s.2.2.2.1,s.2.2.2.2.1,s.2.2.2.2.2.1⟩ e).Bridges.length = s.1.length := sm.n;generalize doEv ⟨s.1,s.2.1,s.2.2.1,s.2.2.2.1,s.2.2.2.2.1,s.2.2.2.2.2.1⟩ e = v at *;have hlv := gd'.len;have h8 := gd'.n8;rw [wtWorld_p (Len.mono hlv (by omega)),bd_val,implWorldOk_p (by have := hlv.b; omega) (by have := hlv.l; omega) (by have := hlv.d; omega) (by have := hlv.r; omega),gcall_pos (by decide),bd_val,good_iff.2 gd',if_neg (by decide)];refine .gd ⟨i1,c⟩ (.bd (Q := fun x => ∃ d:Unit,x = .inr d) (.lp (fun k => 0 ≤ k ∧ k ≤ (v.Bridges.length:Int)) (fun k => ((v.Bridges.length:Int) - k).toNat) ⟨Int.le_refl _,by omega⟩ fun k ⟨k1,k2⟩ => ?_) fun x hx => ?_)
      · refine .ite (fun ck => ?_) fun ck => .ret ⟨_,rfl⟩;simp only [decide_eq_true_eq] at ck;refine .gd ⟨k1,ck⟩ (.gd ⟨k1,by omega⟩ ?_);refine .ite (fun cc => ?_) fun cc => ?_
        · exfalso;simp only [Bool.and_eq_true,Bool.or_eq_true,beq_iff_eq] at cc;have eb := st (by omega);have := cc.1;rw [eb] at this;simp at this
        · refine .gd ⟨k1,ck⟩ (.gd (fun _ => ⟨k1,ck⟩) ?_);have hw1:IntKind.i64.wrap (k + 1) = k + 1 := wrap_i64 (by omega) (by omega);rw [hw1]
          cases hu:(v.Bridges.getD k.toNat default).Up
          · rw [gcall_neg (by decide),bd_val,if_neg (by simp)];exact .ret ⟨⟨by omega,by omega⟩,by omega⟩
          · have ek:((k.toNat:Nat):Int) = k := by omega
            have tt := td k.toNat (by omega) hu;rw [ek] at tt;have isu:isUp v k = true := by
              unfold isUp;rw [inR_iff.2 ⟨k1,by omega⟩,Bool.true_and];exact hu
            have eth:treeThink v k = think v k := if_pos ⟨good_iff.2 gd',isu⟩;rw [gcall_pos rfl,specTreeThink_p (Len.mono hlv (by omega)),bd_val,eth,← tt,same_mind,if_neg (by simp)];exact .ret ⟨⟨by omega,by omega⟩,by omega⟩
      · obtain ⟨d,rfl⟩ := hx;dsimp only;have hw1:IntKind.i64.wrap (s.2.2.2.2.2.2 + 1) = s.2.2.2.2.2.2 + 1 := wrap_i64 (by omega) (by omega);rw [hw1];exact .ret ⟨⟨⟨gd',td⟩,by dsimp only; omega,by dsimp only; omega⟩,by dsimp only; omega⟩
    · obtain ⟨d,rfl,hd⟩ := hx;exact .ret (by simp; omega)
  · rw [if_pos (by simp; omega)]
end Go.Proofs.Ythgcnnkjojemdaa
