/-
  Plain Lean: the links that let frames pass have no loop, and join all that is joined.
-/
import Derived.Test.YtfgmolljcgnafaaKz5
import Derived.Test.YtfgmolljcgnafaaTreeK3z
set_option linter.all false
namespace Go.Proofs.Ytfgmolljcgnafaa
open Go Go.Ab
set_option maxHeartbeats 400000
structure Hd (w:TreeWorld) (h:List Int):Prop where
  len:h.length = w.Bridges.length
  lo:∀ k,k < w.Bridges.length → 0 ≤ h.getD k default ∧ h.getD k default ≤ k
  idem:∀ k,k < w.Bridges.length → h.getD (h.getD k default).toNat default = h.getD k default
theorem hd_zero (w:TreeWorld):Hd w (head0 w.Bridges.length) :=
  ⟨by simp [head0],fun k hk => by rw [head0_get hk]; omega,fun k hk => by rw [head0_get hk,Int.toNat_natCast,head0_get hk]⟩
theorem hd_merge {w:TreeWorld} {h:List Int} (H:Hd w h) {x y:Nat} (hx:x < w.Bridges.length) (hy:y < w.Bridges.length):Hd w (mergeL h (h.getD x default) (h.getD y default)) := by
  have hl := H.len;have get:∀ k,k < w.Bridges.length → (mergeL h (h.getD x default) (h.getD y default)).getD k default = if h.getD k default = h.getD x default ∨ h.getD k default = h.getD y default then (if h.getD x default < h.getD y default then h.getD x default else h.getD y default) else h.getD k default := fun k hk => merge_get (by omega);refine ⟨by simp [mergeL,hl],fun k hk => ?_,fun k hk => ?_⟩
  · have a := H.lo k hk;have b := H.lo x hx;have c := H.lo y hy;rw [get k hk];split
    · split <;> omega
    · omega
  · have a := H.lo k hk;have b := H.lo x hx;have c := H.lo y hy;have ix := H.idem x hx;have iy := H.idem y hy;have ik := H.idem k hk;rw [get k hk]
    by_cases c1:h.getD k default = h.getD x default ∨ h.getD k default = h.getD y default
    · rw [if_pos c1]
      by_cases c2:h.getD x default < h.getD y default
      · rw [if_pos c2,get _ (by omega),ix,if_pos (.inl rfl),if_pos c2]
      · rw [if_neg c2,get _ (by omega),iy,if_pos (.inr rfl),if_neg c2]
    · rw [if_neg c1,get _ (by omega),ik,if_neg c1]
theorem links_ends {w:TreeWorld} (hw:WOk w) {l:Int} (h:0 ≤ l ∧ l < w.Links.length):(w.Links.getD l.toNat default).A.toNat < w.Bridges.length ∧ (w.Links.getD l.toNat default).B.toNat < w.Bridges.length := by
  have := linkAt hw.link (i := l.toNat) (by omega);omega
theorem hd_take {w:TreeWorld} (hw:WOk w) {ls:List Int} (hls:LinksIn w ls):∀ j,j ≤ ls.length → Hd w (headsOf w (ls.take j)).1 := by
  intro j
  induction j with
  | zero => exact fun _ => hd_zero w
  | succ j ih =>
    intro hj;rw [heads_snoc (by omega)];have := links_ends hw (hls j (by omega));exact hd_merge (ih (by omega)) this.1 this.2
theorem take_all {α:Type} (ls:List α):ls.take ls.length = ls := List.take_of_length_le (Nat.le_refl _)
theorem hd_of {w:TreeWorld} (hw:WOk w) {ls:List Int} (hls:LinksIn w ls):Hd w (headsOf w ls).1 := by
  have := hd_take hw hls _ (Nat.le_refl _);rwa [take_all] at this
theorem merge_m {h:List Int} {a b:Int} {k:Nat} (hk:k < h.length) (hc:h.getD k default = a ∨ h.getD k default = b):(mergeL h a b).getD k default = if a < b then a else b := by rw [merge_get hk,if_pos hc]
theorem joined {w:TreeWorld} (hw:WOk w) {ls:List Int} (hls:LinksIn w ls) {j:Nat} (hj:j < ls.length):hA w (headsOf w ls).1 (ls.getD j default) = hB w (headsOf w ls).1 (ls.getD j default) := by
  have ends := links_ends hw (hls j hj);have key:∀ m,j < m → m ≤ ls.length → hA w (headsOf w (ls.take m)).1 (ls.getD j default) = hB w (headsOf w (ls.take m)).1 (ls.getD j default) := by
    intro m
    induction m with
    | zero => exact fun h => absurd h (Nat.not_lt_zero _)
    | succ m ih =>
      intro h1 h2;have hl := (hd_take hw hls m (by omega)).len;rw [heads_snoc (by omega)];unfold headF;have l := links_ends hw (hls m (by omega))
      by_cases c:j = m
      · subst c;unfold hA hB;dsimp only;exact (merge_m (by omega) (.inl rfl)).trans (merge_m (by omega) (.inr rfl)).symm
      · have i := ih (by omega) (by omega);unfold hA hB at i ⊢;dsimp only;rw [merge_get (by omega),merge_get (by omega),i]
  have := key _ hj (Nat.le_refl _);rwa [take_all] at this
def openL (w:TreeWorld) (n:Nat):List Int := ((List.range n).filter (isOpen w)).map (fun i:Nat => (i:Int))
theorem openL_succ (w:TreeWorld) (n:Nat):openL w (n + 1) = if isOpen w n = true then openL w n ++ [(n:Int)] else openL w n := by
  unfold openL;rw [List.range_succ,List.filter_append]
  by_cases c:isOpen w n = true
  · rw [if_pos c,List.filter_cons_of_pos c]; simp
  · rw [if_neg c,List.filter_cons_of_neg c]; simp
theorem mem_map_filter {p:Nat → Bool} {n:Nat} {x:Int} (h:x ∈ ((List.range n).filter p).map (fun i:Nat => (i:Int))):0 ≤ x ∧ x < n ∧ p x.toNat = true := by
  obtain ⟨i,hi,rfl⟩ := List.mem_map.1 h;rw [List.mem_filter,List.mem_range] at hi;exact ⟨by omega,by omega,by rw [Int.toNat_natCast]; exact hi.2⟩
theorem openL_open (w:TreeWorld):OpenL w (openL w w.Links.length) := fun _ hj => mem_map_filter (getD_mem hj)
theorem OpenL.ins {w:TreeWorld} {ls:List Int} (h:OpenL w ls):LinksIn w ls := fun j hj => ⟨(h j hj).1,(h j hj).2.1⟩
theorem openL_len (w:TreeWorld) (n:Nat):(openL w n).length ≤ n := by
  unfold openL;rw [List.length_map];exact Nat.le_trans (List.length_filter_le _ _) (by simp)
theorem wtAll_p {w:TreeWorld} (hw:WOk w) (hd:w.Down.length ≤ 9223372036854775807):laws_wtAll_m w = some (openL w w.Links.length) := by
  have h12 := linksLen hw;have key:Post (laws_wtAll_m w) fun x => x = openL w w.Links.length := by
    unfold laws_wtAll_m;refine .bd (Q := fun x => x.2 = openL w w.Links.length) (.lp (fun s => s.1 = openL w s.2.toNat ∧ 0 ≤ s.2 ∧ s.2 ≤ w.Links.length) (fun s => w.Links.length - s.2.toNat) ⟨rfl,Int.le_refl _,by omega⟩ fun s ⟨i1,i2,i3⟩ => .ite (fun c => ?_) fun c => .ret (by
      have c:¬ s.2 < _ := fun h => c (decide_eq_true h);have:s.2.toNat = w.Links.length := by omega
      dsimp only;rw [i1,this])) fun x hx => .ret hx
    have c := of_decide_eq_true c;have e:((s.2.toNat:Nat):Int) = s.2 := by omega
    have hp := wtDown_p hw hd (i := s.2.toNat) (by omega);rw [e] at hp;have w1:IntKind.i64.wrap (s.2 + 1) = s.2 + 1 := wrap_i64 (by omega) (by omega);have hlen := openL_len w s.2.toNat
    have nx := openL_succ w s.2.toNat
    rw [e] at nx;rw [hp,bd_val,w1];refine .ite (fun o => .gd (by rw [i1]; simp; omega) (.ret ⟨⟨?_,by dsimp only; omega,by dsimp only; omega⟩,by dsimp only; omega⟩)) fun o => .ret ⟨⟨?_,by dsimp only; omega,by dsimp only; omega⟩,by dsimp only; omega⟩
    · dsimp only;rw [show (s.2 + 1).toNat = s.2.toNat + 1 by omega,nx,if_pos (by simpa using o),i1]
    · dsimp only;rw [show (s.2 + 1).toNat = s.2.toNat + 1 by omega,nx,if_neg (by simpa using o),i1]
  obtain ⟨x,e,hx⟩ := key;rw [e,hx]
theorem sameJ_of {w:TreeWorld} (hw:WOk w) {ls:List Int} (h:OpenL w ls) (hn:ls.length ≤ 12):SameJ w (headsOf w ls).1 := by
  obtain ⟨x,e,hx⟩ := wtHeads_post hw h hn;rw [wtHeads_p hw h.ins hn] at e;rw [Option.some.inj e];exact hx
theorem mz_nonneg {w:TreeWorld} (hw:WOk w) {b:Nat} (hb:b < w.Bridges.length):0 ≤ mz w b := by
  obtain ⟨r1,r2⟩ := root_J hw hb;exact (near_small hw r1 hb (r2.symm hw hb r1)).1
theorem all_ker {w:TreeWorld} (hw:WOk w) {k k':Nat} (hk:k < w.Bridges.length) (hk':k' < w.Bridges.length):(headsOf w (openL w w.Links.length)).1.getD k default = (headsOf w (openL w w.Links.length)).1.getD k' default ↔ J w k k' := by
  have h12 := linksLen hw;have ol := openL_open w;have hn := openL_len w w.Links.length
  constructor
  · exact (sameJ_of hw ol (by omega)).2 k k' hk hk'
  · intro hj;have up:∀ (m:Nat) {b:Nat},b < w.Bridges.length → (mz w b).toNat ≤ m → (headsOf w (openL w w.Links.length)).1.getD b default = (headsOf w (openL w w.Links.length)).1.getD (rootOf w b) default := by
      intro m
      induction m with
      | zero =>
        intro b hb hm
        by_cases c:b = rootOf w b
        · rw [← c]
        · obtain ⟨l,u,e,p⟩ := par_of hw hb c;have := mz_nonneg hw p.un;have := p.less;omega
      | succ m ih =>
        intro b hb hm
        by_cases c:b = rootOf w b
        · rw [← c]
        · obtain ⟨l,u,e,p⟩ := par_of hw hb c;have h0 := mz_nonneg hw p.un;have h1 := p.less;have iu := ih p.un (by omega);rw [p.root] at iu;rw [← iu];have mem:(l:Int) ∈ openL w w.Links.length := List.mem_map.2 ⟨l,by rw [List.mem_filter,List.mem_range]; exact ⟨p.hl,p.op⟩,rfl⟩;obtain ⟨j,hj,ej⟩ := List.getElem_of_mem mem;have jn := joined hw ol.ins hj;have ej2:(openL w w.Links.length).getD j default = (l:Int) := by rw [List.getD_eq_getElem?_getD,List.getElem?_eq_getElem hj,ej]; rfl
          rw [ej2] at jn;unfold hA hB at jn;rw [Int.toNat_natCast] at jn;have pb := p.hb;have pu := p.hu;have bA:brAt w l 0 = (w.Links.getD l default).A := rfl;have bB:brAt w l 1 = (w.Links.getD l default).B := rfl;rcases p.he with rfl | rfl
          · rw [show (1:Int) - 0 = 1 from rfl,bB] at pu;rw [bA] at pb;rw [pb,pu,Int.toNat_natCast,Int.toNat_natCast] at jn;exact jn
          · rw [show (1:Int) - 1 = 0 from rfl,bA] at pu;rw [bB] at pb;rw [pb,pu,Int.toNat_natCast,Int.toNat_natCast] at jn;exact jn.symm
    rw [up _ hk (Nat.le_refl _),up _ hk' (Nat.le_refl _),root_eq hw hk hk' hj]
structure Tp (w:TreeWorld) (P:Int → Prop) (h:List Int):Prop where
  one:∀ x y,x < w.Bridges.length → y < w.Bridges.length → ¬ P (par w x) → ¬ P (par w y) → h.getD x default = h.getD y default → x = y
  top:∀ u,u < w.Bridges.length → ∃ t,t < w.Bridges.length ∧ ¬ P (par w t) ∧ h.getD t default = h.getD u default ∧ mz w t ≤ mz w u
end Go.Proofs.Ytfgmolljcgnafaa
