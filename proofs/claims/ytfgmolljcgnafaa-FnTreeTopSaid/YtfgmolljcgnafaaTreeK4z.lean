/-
  Plain Lean: the links that let frames pass have no loop, and join all that is joined.
-/
import Derived.Test.YtfgmolljcgnafaaKz5
import Derived.Test.YtfgmolljcgnafaaTreeK3z
set_option linter.all false
namespace Go.Proofs.Ytfgmolljcgnafaa
open Go Go.Ab
set_option maxHeartbeats 400000
structure Hd (w:TreeWorld) (h:List Int):Prop where
  len:h.length = w.Bridges.length
  lo:∀ k,k < w.Bridges.length → 0 ≤ h.getD k default ∧ h.getD k default ≤ k
  idem:∀ k,k < w.Bridges.length → h.getD (h.getD k default).toNat default = h.getD k default
theorem hd_zero (w:TreeWorld):Hd w (head0 w.Bridges.length) :=
  ⟨by simp [head0],fun k hk => by rw [head0_get hk]; omega,fun k hk => by rw [head0_get hk,Int.toNat_natCast,head0_get hk]⟩
theorem hd_merge {w:TreeWorld} {h:List Int} (H:Hd w h) {x y:Nat} (hx:x < w.Bridges.length) (hy:y < w.Bridges.length):Hd w (mergeL h (h.getD x default) (h.getD y default)) := by
  have hl := H.len;have get:∀ k,k < w.Bridges.length → (mergeL h (h.getD x default) (h.getD y default)).getD k default = if h.getD k default = h.getD x default ∨ h.getD k default = h.getD y default then (if h.getD x default < h.getD y default then h.getD x default else h.getD y default) else h.getD k default := fun k hk => merge_get (by omega);refine ⟨by simp [mergeL,hl],fun k hk => ?_,fun k hk => ?_⟩
  · have a := H.lo k hk;have b := H.lo x hx;have c := H.lo y hy;rw [get k hk];split
    · split <;> omega
    · omega
  · have a := H.lo k hk;have b := H.lo x hx;have c := H.lo y hy;have ix := H.idem x hx;have iy := H.idem y hy;have ik := H.idem k hk;rw [get k hk]
    by_cases c1:h.getD k default = h.getD x default ∨ h.getD k default = h.getD y default
    · rw [if_pos c1]
      by_cases c2:h.getD x default < h.getD y default
      · rw [if_pos c2,get _ (by omega),ix,if_pos (.inl rfl),if_pos c2]
      · rw [if_neg c2,get _ (by omega),iy,if_pos (.inr rfl),if_neg c2]
    · rw [if_neg c1,get _ (by omega),ik,if_neg c1]
theorem heads_eq {w:TreeWorld} {h g:List Int} (H:Hd w h) (G:Hd w g) (ker:∀ k k',k < w.Bridges.length → k' < w.Bridges.length → (h.getD k default = h.getD k' default ↔ g.getD k default = g.getD k' default)):h = g := by
  refine list_ext (H.len.trans G.len.symm) fun k hk => ?_;rw [H.len] at hk;have h1 := H.lo k hk;have g1 := G.lo k hk;have e1 := (ker (h.getD k default).toNat k (by omega) hk).1 (H.idem k hk);have e2 := (ker (g.getD k default).toNat k (by omega) hk).2 (G.idem k hk);have l1 := G.lo (h.getD k default).toNat (by omega);have l2 := H.lo (g.getD k default).toNat (by omega);omega
theorem links_ends {w:TreeWorld} (hw:WOk w) {l:Int} (h:0 ≤ l ∧ l < w.Links.length):(w.Links.getD l.toNat default).A.toNat < w.Bridges.length ∧ (w.Links.getD l.toNat default).B.toNat < w.Bridges.length := by
  have := linkAt hw.link (i := l.toNat) (by omega);omega
theorem hd_take {w:TreeWorld} (hw:WOk w) {ls:List Int} (hls:LinksIn w ls):∀ j,j ≤ ls.length → Hd w (headsOf w (ls.take j)).1 := by
  intro j
  induction j with
  | zero => exact fun _ => hd_zero w
  | succ j ih =>
    intro hj;rw [heads_snoc (by omega)];have := links_ends hw (hls j (by omega));exact hd_merge (ih (by omega)) this.1 this.2
theorem take_all {α:Type} (ls:List α):ls.take ls.length = ls := List.take_of_length_le (Nat.le_refl _)
theorem hd_of {w:TreeWorld} (hw:WOk w) {ls:List Int} (hls:LinksIn w ls):Hd w (headsOf w ls).1 := by
  have := hd_take hw hls _ (Nat.le_refl _);rwa [take_all] at this
theorem merge_m {h:List Int} {a b:Int} {k:Nat} (hk:k < h.length) (hc:h.getD k default = a ∨ h.getD k default = b):(mergeL h a b).getD k default = if a < b then a else b := by rw [merge_get hk,if_pos hc]
theorem joined {w:TreeWorld} (hw:WOk w) {ls:List Int} (hls:LinksIn w ls) {j:Nat} (hj:j < ls.length):hA w (headsOf w ls).1 (ls.getD j default) = hB w (headsOf w ls).1 (ls.getD j default) := by
  have ends := links_ends hw (hls j hj);have key:∀ m,j < m → m ≤ ls.length → hA w (headsOf w (ls.take m)).1 (ls.getD j default) = hB w (headsOf w (ls.take m)).1 (ls.getD j default) := by
    intro m
    induction m with
    | zero => exact fun h => absurd h (Nat.not_lt_zero _)
    | succ m ih =>
      intro h1 h2;have hl := (hd_take hw hls m (by omega)).len;rw [heads_snoc (by omega)];unfold headF;have l := links_ends hw (hls m (by omega))
      by_cases c:j = m
      · subst c;unfold hA hB;dsimp only;exact (merge_m (by omega) (.inl rfl)).trans (merge_m (by omega) (.inr rfl)).symm
      · have i := ih (by omega) (by omega);unfold hA hB at i ⊢;dsimp only;rw [merge_get (by omega),merge_get (by omega),i]
  have := key _ hj (Nat.le_refl _);rwa [take_all] at this
def openL (w:TreeWorld) (n:Nat):List Int := ((List.range n).filter (isOpen w)).map (fun i:Nat => (i:Int))
theorem openL_succ (w:TreeWorld) (n:Nat):openL w (n + 1) = if isOpen w n = true then openL w n ++ [(n:Int)] else openL w n := by
  unfold openL;rw [List.range_succ,List.filter_append]
  by_cases c:isOpen w n = true
  · rw [if_pos c,List.filter_cons_of_pos c]; simp
  · rw [if_neg c,List.filter_cons_of_neg c]; simp
theorem mem_map_filter {p:Nat → Bool} {n:Nat} {x:Int} (h:x ∈ ((List.range n).filter p).map (fun i:Nat => (i:Int))):0 ≤ x ∧ x < n ∧ p x.toNat = true := by
  obtain ⟨i,hi,rfl⟩ := List.mem_map.1 h;rw [List.mem_filter,List.mem_range] at hi;exact ⟨by omega,by omega,by rw [Int.toNat_natCast]; exact hi.2⟩
theorem openL_open (w:TreeWorld):OpenL w (openL w w.Links.length) := fun _ hj => mem_map_filter (getD_mem hj)
theorem passL_open {w:TreeWorld}:OpenL w (passL w w.Links.length) := fun _ hj => by
  obtain ⟨h1,h2,h3⟩ := mem_map_filter (getD_mem hj);refine ⟨h1,h2,?_⟩;unfold passAt at h3;rw [Bool.and_eq_true,Bool.and_eq_true] at h3;exact h3.1.1
theorem OpenL.ins {w:TreeWorld} {ls:List Int} (h:OpenL w ls):LinksIn w ls := fun j hj => ⟨(h j hj).1,(h j hj).2.1⟩
theorem openL_len (w:TreeWorld) (n:Nat):(openL w n).length ≤ n := by
  unfold openL;rw [List.length_map];exact Nat.le_trans (List.length_filter_le _ _) (by simp)
theorem wtAll_p {w:TreeWorld} (hw:WOk w) (hd:w.Down.length ≤ 9223372036854775807):laws_wtAll_m w = some (openL w w.Links.length) := by
  have h12 := linksLen hw;have key:Post (laws_wtAll_m w) fun x => x = openL w w.Links.length := by
    unfold laws_wtAll_m;refine .bd (Q := fun x => x.2 = openL w w.Links.length) (.lp (fun s => s.1 = openL w s.2.toNat ∧ 0 ≤ s.2 ∧ s.2 ≤ w.Links.length) (fun s => w.Links.length - s.2.toNat) ⟨rfl,Int.le_refl _,by omega⟩ fun s ⟨i1,i2,i3⟩ => .ite (fun c => ?_) fun c => .ret (by
      have c:¬ s.2 < _ := fun h => c (decide_eq_true h);have:s.2.toNat = w.Links.length := by omega
      dsimp only;rw [i1,this])) fun x hx => .ret hx
    have c := of_decide_eq_true c;have e:((s.2.toNat:Nat):Int) = s.2 := by omega
    have hp := wtDown_p hw hd (i := s.2.toNat) (by omega);rw [e] at hp;have w1:IntKind.i64.wrap (s.2 + 1) = s.2 + 1 := wrap_i64 (by omega) (by omega);have hlen := openL_len w s.2.toNat
    have nx := openL_succ w s.2.toNat
    rw [e] at nx;rw [hp,bd_val,w1];refine .ite (fun o => .gd (by rw [i1]; simp; omega) (.ret ⟨⟨?_,by dsimp only; omega,by dsimp only; omega⟩,by dsimp only; omega⟩)) fun o => .ret ⟨⟨?_,by dsimp only; omega,by dsimp only; omega⟩,by dsimp only; omega⟩
    · dsimp only;rw [show (s.2 + 1).toNat = s.2.toNat + 1 by omega,nx,if_pos (by simpa using o),i1]
    · dsimp only;rw [show (s.2 + 1).toNat = s.2.toNat + 1 by omega,nx,if_neg (by simpa using o),i1]
  obtain ⟨x,e,hx⟩ := key;rw [e,hx]
theorem sameJ_of {w:TreeWorld} (hw:WOk w) {ls:List Int} (h:OpenL w ls) (hn:ls.length ≤ 12):SameJ w (headsOf w ls).1 := by
  obtain ⟨x,e,hx⟩ := wtHeads_post hw h hn;rw [wtHeads_p hw h.ins hn] at e;rw [Option.some.inj e];exact hx
theorem mz_nonneg {w:TreeWorld} (hw:WOk w) {b:Nat} (hb:b < w.Bridges.length):0 ≤ mz w b := by
  obtain ⟨r1,r2⟩ := root_J hw hb;exact (near_small hw r1 hb (r2.symm hw hb r1)).1
theorem all_ker {w:TreeWorld} (hw:WOk w) {k k':Nat} (hk:k < w.Bridges.length) (hk':k' < w.Bridges.length):(headsOf w (openL w w.Links.length)).1.getD k default = (headsOf w (openL w w.Links.length)).1.getD k' default ↔ J w k k' := by
  have h12 := linksLen hw;have ol := openL_open w;have hn := openL_len w w.Links.length
  constructor
  · exact (sameJ_of hw ol (by omega)).2 k k' hk hk'
  · intro hj;have up:∀ (m:Nat) {b:Nat},b < w.Bridges.length → (mz w b).toNat ≤ m → (headsOf w (openL w w.Links.length)).1.getD b default = (headsOf w (openL w w.Links.length)).1.getD (rootOf w b) default := by
      intro m
      induction m with
      | zero =>
        intro b hb hm
        by_cases c:b = rootOf w b
        · rw [← c]
        · obtain ⟨l,u,e,p⟩ := par_of hw hb c;have := mz_nonneg hw p.un;have := p.less;omega
      | succ m ih =>
        intro b hb hm
        by_cases c:b = rootOf w b
        · rw [← c]
        · obtain ⟨l,u,e,p⟩ := par_of hw hb c;have h0 := mz_nonneg hw p.un;have h1 := p.less;have iu := ih p.un (by omega);rw [p.root] at iu;rw [← iu];have mem:(l:Int) ∈ openL w w.Links.length := List.mem_map.2 ⟨l,by rw [List.mem_filter,List.mem_range]; exact ⟨p.hl,p.op⟩,rfl⟩;obtain ⟨j,hj,ej⟩ := List.getElem_of_mem mem;have jn := joined hw ol.ins hj;have ej2:(openL w w.Links.length).getD j default = (l:Int) := by rw [List.getD_eq_getElem?_getD,List.getElem?_eq_getElem hj,ej]; rfl
          rw [ej2] at jn;unfold hA hB at jn;rw [Int.toNat_natCast] at jn;have pb := p.hb;have pu := p.hu;have bA:brAt w l 0 = (w.Links.getD l default).A := rfl;have bB:brAt w l 1 = (w.Links.getD l default).B := rfl;rcases p.he with rfl | rfl
          · rw [show (1:Int) - 0 = 1 from rfl,bB] at pu;rw [bA] at pb;rw [pb,pu,Int.toNat_natCast,Int.toNat_natCast] at jn;exact jn
          · rw [show (1:Int) - 1 = 0 from rfl,bA] at pu;rw [bB] at pb;rw [pb,pu,Int.toNat_natCast,Int.toNat_natCast] at jn;exact jn.symm
    rw [up _ hk (Nat.le_refl _),up _ hk' (Nat.le_refl _),root_eq hw hk hk' hj]
structure Tp (w:TreeWorld) (P:Int → Prop) (h:List Int):Prop where
  one:∀ x y,x < w.Bridges.length → y < w.Bridges.length → ¬ P (par w x) → ¬ P (par w y) → h.getD x default = h.getD y default → x = y
  top:∀ u,u < w.Bridges.length → ∃ t,t < w.Bridges.length ∧ ¬ P (par w t) ∧ h.getD t default = h.getD u default ∧ mz w t ≤ mz w u
theorem tp_step {w:TreeWorld} (hw:WOk w) {P:Int → Prop} {h:List Int} (hl:h.length = w.Bridges.length) (T:Tp w P h) {b i:Nat} (hb:b < w.Bridges.length) (hp:par w b = (i:Int)) (hP:¬ P (i:Int)) :
    hA w h (i:Int) ≠ hB w h (i:Int) ∧ Tp w (fun x => P x ∨ x = (i:Int)) (mergeL h (hA w h (i:Int)) (hB w h (i:Int))) := by
  obtain ⟨u,e,p⟩ := par_get hw hb hp;have hbn:¬ P (par w b) := by rw [hp]; exact hP
  obtain ⟨a,c,ha,hc,hac⟩:∃ a c,hA w h (i:Int) = a ∧ hB w h (i:Int) = c ∧ ((a = h.getD b default ∧ c = h.getD u default) ∨ (a = h.getD u default ∧ c = h.getD b default)) := by
    refine ⟨_,_,rfl,rfl,?_⟩;have pb := p.hb;have pu := p.hu;have bA:brAt w i 0 = (w.Links.getD i default).A := rfl;have bB:brAt w i 1 = (w.Links.getD i default).B := rfl;unfold hA hB;rw [Int.toNat_natCast];rcases p.he with rfl | rfl
    · rw [show (1:Int) - 0 = 1 from rfl,bB] at pu;rw [bA] at pb;rw [pb,pu,Int.toNat_natCast,Int.toNat_natCast];exact .inl ⟨rfl,rfl⟩
    · rw [show (1:Int) - 1 = 0 from rfl,bA] at pu;rw [bB] at pb;rw [pb,pu,Int.toNat_natCast,Int.toNat_natCast];exact .inr ⟨rfl,rfl⟩
  rw [ha,hc];have mem:∀ x:Int,(x = a ∨ x = c) ↔ (x = h.getD b default ∨ x = h.getD u default) := by
    intro x;rcases hac with ⟨e1,e2⟩ | ⟨e1,e2⟩ <;> rw [e1,e2];exact Or.comm
  obtain ⟨t,t1,t2,t3,t4⟩ := T.top u p.un;have lt := p.less;have ne:h.getD b default ≠ h.getD u default := fun hh => by
    have := T.one t b t1 hb t2 hbn (t3.trans hh.symm);rw [this] at t4;omega
  generalize hm:(if a < c then a else c) = m;have hmm:m = a ∨ m = c := by rw [← hm]; split <;> simp
  have get:∀ k,k < w.Bridges.length → (mergeL h a c).getD k default = if h.getD k default = a ∨ h.getD k default = c then m else h.getD k default := fun k hk => by rw [merge_get (by omega),hm]
  have tops:∀ x,x < w.Bridges.length → ¬ (P (par w x) ∨ par w x = (i:Int)) → ¬ P (par w x) ∧ x ≠ b := fun x _ hx => ⟨fun q => hx (.inl q),fun q => hx (.inr (by rw [q]; exact hp))⟩;have notb:∀ x,x < w.Bridges.length → ¬ P (par w x) → x ≠ b → h.getD x default ≠ h.getD b default := fun x hx q ne hh => ne (T.one x b hx hb q hbn hh);refine ⟨by rcases hac with ⟨e1,e2⟩ | ⟨e1,e2⟩ <;> rw [e1,e2]; exact ne; exact ne.symm,⟨fun x y hx hy qx qy hh => ?_,fun z hz => ?_⟩⟩
  · obtain ⟨x1,x2⟩ := tops x hx qx;obtain ⟨y1,y2⟩ := tops y hy qy;rw [get x hx,get y hy] at hh
    by_cases cx:h.getD x default = a ∨ h.getD x default = c
    · by_cases cy:h.getD y default = a ∨ h.getD y default = c
      · have ux := ((mem _).1 cx).resolve_left (notb x hx x1 x2);have uy := ((mem _).1 cy).resolve_left (notb y hy y1 y2);exact T.one x y hx hy x1 y1 (ux.trans uy.symm)
      · rw [if_pos cx,if_neg cy] at hh;exact absurd (hh ▸ hmm) cy
    · by_cases cy:h.getD y default = a ∨ h.getD y default = c
      · rw [if_neg cx,if_pos cy] at hh;exact absurd (hh ▸ hmm) cx
      · rw [if_neg cx,if_neg cy] at hh;exact T.one x y hx hy x1 y1 hh
  · obtain ⟨s,s1,s2,s3,s4⟩ := T.top z hz;have up:∀ x,x < w.Bridges.length → ¬ P (par w x) → x ≠ b → ¬ (P (par w x) ∨ par w x = (i:Int)) := fun x hx q ne hh => by
      rcases hh with hh | hh
      · exact q hh
      · exact ne (par_one hw hx hb hh hp)
    by_cases cs:s = b
    · subst cs;have tb:t ≠ s := fun hh => by rw [hh] at t4; omega
      refine ⟨t,t1,up t t1 t2 tb,?_,by omega⟩;rw [get t t1,get z hz,if_pos ((mem _).2 (.inr t3)),if_pos ((mem _).2 (.inl s3.symm))]
    · refine ⟨s,s1,up s s1 s2 cs,?_,s4⟩;rw [get s s1,get z hz,s3]
theorem pass_heads {w:TreeWorld} (hw:WOk w) (hd:w.Down.length ≤ 9223372036854775807) (R:Right w w):headsOf w (passL w w.Links.length) = ((headsOf w (openL w w.Links.length)).1,true) := by
  have h12 := linksLen hw;have hn := passL_len w w.Links.length;have po := passL_open (w := w);have pw:(passL w w.Links.length).Pairwise (· < ·) := by
    unfold passL;rw [List.pairwise_map];exact (List.pairwise_lt_range.filter _).imp fun h => by omega
  have key:∀ j,j ≤ (passL w w.Links.length).length → (headsOf w ((passL w w.Links.length).take j)).2 = true ∧ Tp w (fun x => x ∈ (passL w w.Links.length).take j) (headsOf w ((passL w w.Links.length).take j)).1 := by
    intro j
    induction j with
    | zero =>
      refine fun _ => ⟨rfl,fun x y hx hy _ _ hh => ?_,fun u hu => ⟨u,hu,fun q => by simp at q,rfl,Int.le_refl _⟩⟩;have hh:(head0 w.Bridges.length).getD x default = (head0 w.Bridges.length).getD y default := hh;rw [head0_get hx,head0_get hy] at hh;omega
    | succ j ih =>
      intro hj;obtain ⟨i1,i2⟩ := ih (by omega);have mj := getD_mem (xs := passL w w.Links.length) (i := j) (by omega);obtain ⟨m1,m2,m3⟩ := mem_map_filter mj;obtain ⟨b,hb,hp⟩ := (R.pass hw hd (i := ((passL w w.Links.length).getD j default).toNat) (by omega)).1 m3;have ec:((((passL w w.Links.length).getD j default).toNat:Nat):Int) = (passL w w.Links.length).getD j default := by omega
      have fresh:¬ ((((passL w w.Links.length).getD j default).toNat:Nat):Int) ∈ (passL w w.Links.length).take j := by
        rw [ec];intro hm;obtain ⟨q,hq,eq⟩ := List.getElem_of_mem hm;rw [List.length_take] at hq;rw [List.getElem_take] at eq;have := List.pairwise_iff_getElem.1 pw q j (by omega) (by omega) (by omega);rw [eq,List.getD_eq_getElem?_getD,List.getElem?_eq_getElem (show j < (passL w w.Links.length).length by omega)] at this;exact absurd this (Int.lt_irrefl _)
      have st := tp_step hw (hd_take hw po.ins j (by omega)).len i2 hb hp fresh;rw [heads_snoc (by omega)];unfold headF;dsimp only;rw [ec] at st;refine ⟨by rw [if_neg (by rw [beq_iff_eq]; exact st.1)]; exact i1,?_⟩;have e2:∀ x:Int,x ∈ (passL w w.Links.length).take (j + 1) ↔ (x ∈ (passL w w.Links.length).take j ∨ x = (passL w w.Links.length).getD j default) := fun x => by
        rw [List.take_succ,List.getD_eq_getElem?_getD,List.getElem?_eq_getElem (show j < (passL w w.Links.length).length by omega),List.mem_append];simp
      obtain ⟨s1,s2⟩ := st.2;exact ⟨fun x y hx hy qx qy => s1 x y hx hy (fun q => qx ((e2 _).2 q)) (fun q => qy ((e2 _).2 q)),fun u hu => by
        obtain ⟨t,t1,t2,t3,t4⟩ := s2 u hu;exact ⟨t,t1,fun q => t2 ((e2 _).1 q),t3,t4⟩⟩
  obtain ⟨k1,k2⟩ := key _ (Nat.le_refl _);rw [take_all] at k1 k2;have sj := sameJ_of hw po (by omega);have top:∀ k,k < w.Bridges.length → (headsOf w (passL w w.Links.length)).1.getD (rootOf w k) default = (headsOf w (passL w w.Links.length)).1.getD k default := by
    intro k hk;obtain ⟨t,t1,t2,t3,t4⟩ := k2.top k hk;have jt := sj.2 t k t1 hk t3;have et:t = rootOf w t := by
      by_cases c:t = rootOf w t
      · exact c
      · exfalso;obtain ⟨l,u,e,p⟩ := par_of hw t1 c;have := (R.pass hw hd p.hl).2 ⟨t,t1,p.link⟩;exact t2 (List.mem_map.2 ⟨l,by rw [List.mem_filter,List.mem_range]; exact ⟨p.hl,this⟩,p.link.symm⟩)
    rw [root_eq hw t1 hk jt] at et;rw [← et];exact t3
  have he:(headsOf w (passL w w.Links.length)).1 = (headsOf w (openL w w.Links.length)).1 := heads_eq (hd_of hw po.ins) (hd_of hw (openL_open w).ins) fun k k' hk hk' => by
    rw [all_ker hw hk hk'];refine ⟨sj.2 k k' hk hk',fun hj => ?_⟩;rw [← top k hk,← top k' hk',root_eq hw hk hk' hj]
  rw [← he,← k1]
end Go.Proofs.Ytfgmolljcgnafaa
