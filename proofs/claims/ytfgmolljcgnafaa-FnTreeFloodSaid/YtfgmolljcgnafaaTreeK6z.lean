/-
  Plain Lean: when all is as it should be a frame comes to each bridge that it is joined with once, and nowhere else; the row FnTreeFlood.
-/
import Derived.Test.YtfgmolljcgnafaaKz5
import Derived.Test.YtfgmolljcgnafaaTreeFz
import Derived.Test.YtfgmolljcgnafaaTreeK5z
set_option linter.all false
namespace Go.Proofs.Ytfgmolljcgnafaa
open Go Go.Ab
set_option maxHeartbeats 400000
structure Edge (w:TreeWorld) (l:Nat) (a b:Int):Prop where
  hl:l < w.Links.length
  pass:passAt w l = true
  ends:∃ e:Int,(e = 0 ∨ e = 1) ∧ brAt w l e = a ∧ brAt w l (1 - e) = b
theorem Edge.symm {w:TreeWorld} {l:Nat} {a b:Int} (h:Edge w l a b):Edge w l b a := by
  obtain ⟨h1,h2,e,he,ea,eb⟩ := h;refine ⟨h1,h2,1 - e,by omega,eb,?_⟩;rw [show (1:Int) - (1 - e) = e by omega]; exact ea
theorem Edge.inj {w:TreeWorld} (hw:WOk w) {l:Nat} {a b c d:Int} (h:Edge w l a b) (k:Edge w l c d):(a = c ∧ b = d) ∨ (a = d ∧ b = c) := by
  obtain ⟨h1,h2,e,he,ea,eb⟩ := h;obtain ⟨k1,k2,f,hf,fa,fb⟩ := k
  by_cases c:e = f
  · subst c;exact .inl ⟨ea.symm.trans fa,eb.symm.trans fb⟩
  · have:f = 1 - e := by rcases he with rfl | rfl <;> rcases hf with rfl | rfl <;> omega
    subst this;rw [show (1:Int) - (1 - e) = e by omega] at fb;exact .inr ⟨ea.symm.trans fb,eb.symm.trans fa⟩
theorem Edge.ne {w:TreeWorld} (hw:WOk w) {l:Nat} {a b:Int} (h:Edge w l a b):a ≠ b := by
  obtain ⟨h1,h2,e,he,ea,eb⟩ := h;intro hh;have := br_ends hw h1 he (e' := 1 - e) (by omega) (ea.trans (hh.trans eb.symm));omega
theorem Edge.in {w:TreeWorld} (hw:WOk w) {l:Nat} {a b:Int} (h:Edge w l a b):(0 ≤ a ∧ a < w.Bridges.length) ∧ (0 ≤ b ∧ b < w.Bridges.length) := by
  obtain ⟨h1,h2,e,he,ea,eb⟩ := h;rw [← ea,← eb];exact ⟨brAt_in hw h1 _,brAt_in hw h1 _⟩
theorem edge_par {w:TreeWorld} (hw:WOk w) (hd:w.Down.length ≤ 9223372036854775807) (R:Right w w) {b l u:Nat} {e:Int} (hb:b < w.Bridges.length) (p:Par w b l u e):Edge w l b u := ⟨p.hl,(R.pass hw hd p.hl).2 ⟨b,hb,p.link⟩,e,p.he,p.hb,p.hu⟩
theorem edge_up {w:TreeWorld} (hw:WOk w) (hd:w.Down.length ≤ 9223372036854775807) (R:Right w w) {l:Nat} {a b:Int} (h:Edge w l a b):(par w a.toNat = (l:Int) ∧ mz w b.toNat < mz w a.toNat) ∨ (par w b.toNat = (l:Int) ∧ mz w a.toNat < mz w b.toNat) := by
  obtain ⟨x,hx,hp⟩ := (R.pass hw hd h.hl).1 h.pass;obtain ⟨u,e,p⟩ := par_get hw hx hp;have lt := p.less;rcases h.inj hw (edge_par hw hd R hx p) with ⟨e1,e2⟩ | ⟨e1,e2⟩
  · rw [e1,e2,Int.toNat_natCast,Int.toNat_natCast]; exact .inl ⟨hp,lt⟩
  · rw [e1,e2,Int.toNat_natCast,Int.toNat_natCast]; exact .inr ⟨hp,lt⟩
theorem Edge.jn {w:TreeWorld} (hw:WOk w) {l:Nat} {a b:Int} (h:Edge w l a b):J w b.toNat a.toNat := by
  obtain ⟨h1,h2,e,he,ea,eb⟩ := h.symm;unfold passAt at h2;rw [Bool.and_eq_true,Bool.and_eq_true] at h2;have := J.ends hw h1 h2.1.1 he;rwa [ea,eb] at this
structure Fl (w:TreeWorld) (f0:frame) (i m:Nat) (q:List frame):Prop where
  nd:q.Pairwise fun f g => f.bridge ≠ g.bridge
  ok:∀ g ∈ q,FOk w g
  org:∀ g ∈ q,g = f0 ∨ ∃ (p l:Nat),p < q.length ∧ g.link = (l:Int) ∧ Edge w l g.bridge (q.getD p default).bridge ∧ (p < i ∨ (p = i ∧ l < m))
  jn:∀ g ∈ q,J w g.bridge.toNat f0.bridge.toNat
  clo:∀ p l,p < q.length → (p < i ∨ (p = i ∧ l < m)) → ∀ c,Edge w l (q.getD p default).bridge c → ∃ g ∈ q,g.bridge = c
  top:∃ t ∈ q,∀ g ∈ q,g.bridge ≠ t.bridge → ∃ (l:Nat) (u:Int),par w g.bridge.toNat = (l:Int) ∧ Edge w l g.bridge u ∧ (∃ h ∈ q,h.link = (l:Int)) ∧ (∃ h ∈ q,h.bridge = u) ∧ mz w u.toNat < mz w g.bridge.toNat
theorem nd_get {q:List frame} (h:q.Pairwise fun f g => f.bridge ≠ g.bridge) {i j:Nat} (hi:i < q.length) (hj:j < q.length) (e:(q.getD i default).bridge = (q.getD j default).bridge):i = j := by
  rw [List.getD_eq_getElem?_getD,List.getD_eq_getElem?_getD,List.getElem?_eq_getElem hi,List.getElem?_eq_getElem hj] at e;rcases Nat.lt_trichotomy i j with c | c | c
  · exact absurd e (List.pairwise_iff_getElem.1 h i j hi hj c)
  · exact c
  · exact absurd e.symm (List.pairwise_iff_getElem.1 h j i hj hi c)
theorem nd_mem {q:List frame} (h:q.Pairwise fun f g => f.bridge ≠ g.bridge) {f g:frame} (hf:f ∈ q) (hg:g ∈ q) (e:f.bridge = g.bridge):f = g := by
  obtain ⟨i,hi,rfl⟩ := List.getElem_of_mem hf;obtain ⟨j,hj,rfl⟩ := List.getElem_of_mem hg;have := nd_get h hi hj (by rw [List.getD_eq_getElem?_getD,List.getD_eq_getElem?_getD,List.getElem?_eq_getElem hi,List.getElem?_eq_getElem hj]; exact e);subst this; rfl
theorem getD_pre {q ys:List frame} {p:Nat} (h:p < q.length):(q ++ ys).getD p default = q.getD p default := getD_app h
theorem oth_edge {w:TreeWorld} (hw:WOk w) {f:frame} (hf:FOk w f) {l:Nat} (hl:l < w.Links.length) (hp:passAt w l = true) (c:Int):Edge w l f.bridge c ↔ (0 ≤ othOf w f.bridge.toNat l ∧ c = othOf w f.bridge.toNat l) := by
  have lk := linkAt hw.link hl;have eb:((f.bridge.toNat:Nat):Int) = f.bridge := by have := hf.1; omega
  have bA:brAt w l 0 = (w.Links.getD l default).A := rfl;have bB:brAt w l 1 = (w.Links.getD l default).B := rfl;unfold othOf;rw [eb]
  constructor
  · rintro ⟨_,_,e,he,ea,ec⟩;rcases he with rfl | rfl
    · rw [show (1:Int) - 0 = 1 from rfl,bB] at ec;rw [bA] at ea;rw [if_pos ea.symm];omega
    · rw [show (1:Int) - 1 = 0 from rfl,bA] at ec;rw [bB] at ea;rw [if_neg (by omega),if_pos ea.symm];omega
  · rintro ⟨h0,hc⟩
    by_cases c1:f.bridge = (w.Links.getD l default).A
    · rw [if_pos c1] at hc;exact ⟨hl,hp,0,.inl rfl,c1.symm,hc.symm⟩
    · rw [if_neg c1] at hc h0
      by_cases c2:f.bridge = (w.Links.getD l default).B
      · rw [if_pos c2] at hc;exact ⟨hl,hp,1,.inr rfl,c2.symm,hc.symm⟩
      · rw [if_neg c2] at h0; omega
theorem fl_step {w:TreeWorld} (hw:WOk w) (hd:w.Down.length ≤ 9223372036854775807) (R:Right w w) {f0:frame} (hf0:f0.link = -1) (hf0n:f0.bridge.toNat < w.Bridges.length) {i m:Nat} {q:List frame} (F:Fl w f0 i m q) (hi:i < q.length) (hm:m < w.Links.length) :
    Fl w f0 i (m + 1) (if cpAt w (q.getD i default) m = true then q ++ [cpOf w (q.getD i default) m] else q) := by
  have fm:q.getD i default ∈ q := getD_mem hi;have fok := F.ok _ fm
  by_cases c:cpAt w (q.getD i default) m = true
  · rw [if_pos c];unfold cpAt at c;rw [Bool.and_eq_true,Bool.and_eq_true,decide_eq_true_eq,decide_eq_true_eq] at c;obtain ⟨⟨c1,c2⟩,c3⟩ := c;have E:Edge w m (q.getD i default).bridge (othOf w (q.getD i default).bridge.toNat m) := (oth_edge hw fok hm c3 _).2 ⟨c1,rfl⟩;have ein := E.in hw;have ene := E.ne hw
    -- the link has not been gone yet
    have unused:∀ h ∈ q,h.link ≠ (m:Int) := by
      intro h hh e;rcases F.org h hh with r | ⟨p,l,p1,p2,p3,p4⟩
      · rw [r,hf0] at e; omega
      · have:l = m := by omega
        subst this;rcases p3.inj hw E with ⟨e1,e2⟩ | ⟨e1,e2⟩
        · have := nd_mem F.nd hh fm e1;rw [this] at e;exact c2 e.symm
        · have := nd_get F.nd p1 hi e2;subst this;omega
    -- nor its other end
    have fresh:∀ h ∈ q,h.bridge ≠ othOf w (q.getD i default).bridge.toNat m := by
      intro h hh e;obtain ⟨t,tm,ht⟩ := F.top;have desc:∀ (n:Nat) (y:frame),y ∈ q → (mz w y.bridge.toNat).toNat ≤ n → mz w t.bridge.toNat ≤ mz w y.bridge.toNat := by
        intro n
        induction n with
        | zero =>
          intro y hy hn
          by_cases cy:y.bridge = t.bridge
          · rw [cy]; exact Int.le_refl _
          · obtain ⟨l,u,_,Eu,_,⟨g,hg,eg⟩,lt⟩ := ht y hy cy;have ui := (Eu.in hw).2;have := mz_nonneg hw (b := u.toNat) (by omega);omega
        | succ n ih =>
          intro y hy hn
          by_cases cy:y.bridge = t.bridge
          · rw [cy]; exact Int.le_refl _
          · obtain ⟨l,u,_,Eu,_,⟨g,hg,eg⟩,lt⟩ := ht y hy cy;have ui := (Eu.in hw).2;have := mz_nonneg hw (b := u.toNat) (by omega);have := ih g hg (by rw [eg]; omega);rw [eg] at this;omega
      have noPar:∀ g ∈ q,g.bridge ≠ t.bridge → par w g.bridge.toNat ≠ (m:Int) := fun g hg ne hp => by
        obtain ⟨l,u,hl,_,⟨k,hk,ek⟩,_⟩ := ht g hg ne;exact unused k hk (by rw [ek,← hl,hp])
      rcases edge_up hw hd R E with ⟨up,lt⟩ | ⟨up,lt⟩
      · have:(q.getD i default).bridge = t.bridge := Classical.byContradiction fun ne => noPar _ fm ne up;have := desc _ h hh (Nat.le_refl _);rw [e] at this;rw [‹(q.getD i default).bridge = t.bridge›] at lt this;omega
      · have:h.bridge = t.bridge := Classical.byContradiction fun ne => noPar h hh ne (by rw [e]; exact up);have := desc _ _ fm (Nat.le_refl _);rw [← e,‹h.bridge = t.bridge›] at lt;omega
    have sub:∀ {g:frame},g ∈ q → g ∈ q ++ [cpOf w (q.getD i default) m] := fun h => List.mem_append_left _ h;have newm:cpOf w (q.getD i default) m ∈ q ++ [cpOf w (q.getD i default) m] := List.mem_append_right _ (List.mem_singleton.2 rfl);have len:(q ++ [cpOf w (q.getD i default) m]).length = q.length + 1 := by simp
    refine ⟨?_,fun g hg => ?_,fun g hg => ?_,fun g hg => ?_,fun p l hp hpl c' hE => ?_,?_⟩
    · rw [List.pairwise_append];exact ⟨F.nd,List.pairwise_singleton _ _,fun a ha b hb => by rw [List.mem_singleton.1 hb]; exact fresh a ha⟩
    · rcases List.mem_append.1 hg with hg | hg
      · exact F.ok g hg
      · rw [List.mem_singleton.1 hg]; exact ein.2
    · rcases List.mem_append.1 hg with hg | hg
      · rcases F.org g hg with r | ⟨p,l,p1,p2,p3,p4⟩
        · exact .inl r
        · exact .inr ⟨p,l,by omega,p2,by rw [getD_pre p1]; exact p3,by omega⟩
      · rw [List.mem_singleton.1 hg];exact .inr ⟨i,m,by omega,rfl,by rw [getD_pre hi]; exact E.symm,.inr ⟨rfl,Nat.lt_succ_self _⟩⟩
    · rcases List.mem_append.1 hg with hg | hg
      · exact F.jn g hg
      · rw [List.mem_singleton.1 hg];exact (E.jn hw).trans hw (show (othOf w (q.getD i default).bridge.toNat m).toNat < _ by omega) (by omega) hf0n (F.jn _ fm)
    · have pq:p < q.length := by omega
      rw [getD_pre pq] at hE
      by_cases cl:p = i ∧ l = m
      · obtain ⟨rfl,rfl⟩ := cl;have := (oth_edge hw fok hm c3 _).1 hE;exact ⟨_,newm,this.2.symm⟩
      · obtain ⟨g,hg,eg⟩ := F.clo p l pq (by omega) c' hE;exact ⟨g,sub hg,eg⟩
    · obtain ⟨t,tm,ht⟩ := F.top;have grow:∀ g ∈ q,g.bridge ≠ t.bridge → ∃ (l:Nat) (u:Int),par w g.bridge.toNat = (l:Int) ∧ Edge w l g.bridge u ∧ (∃ h ∈ q ++ [cpOf w (q.getD i default) m],h.link = (l:Int)) ∧ (∃ h ∈ q ++ [cpOf w (q.getD i default) m],h.bridge = u) ∧ mz w u.toNat < mz w g.bridge.toNat := fun g hg ne => by
        obtain ⟨l,u,a1,a2,⟨x,hx,ex⟩,⟨y,hy,ey⟩,a5⟩ := ht g hg ne;exact ⟨l,u,a1,a2,⟨x,sub hx,ex⟩,⟨y,sub hy,ey⟩,a5⟩
      rcases edge_up hw hd R E with ⟨up,lt⟩ | ⟨up,lt⟩
      · have tb:(q.getD i default).bridge = t.bridge := Classical.byContradiction fun ne => by
          obtain ⟨l,u,hl,_,⟨k,hk,ek⟩,_⟩ := ht _ fm ne;exact unused k hk (by rw [ek,← hl,up])
        refine ⟨_,newm,fun g hg ne => ?_⟩;rcases List.mem_append.1 hg with hg | hg
        · by_cases cg:g.bridge = t.bridge
          · have eg:g = q.getD i default := nd_mem F.nd hg fm (cg.trans tb.symm);subst eg;exact ⟨m,_,up,E,⟨_,newm,rfl⟩,⟨_,newm,rfl⟩,lt⟩
          · exact grow g hg cg
        · rw [List.mem_singleton.1 hg] at ne; exact absurd rfl ne
      · refine ⟨t,sub tm,fun g hg ne => ?_⟩;rcases List.mem_append.1 hg with hg | hg
        · exact grow g hg ne
        · rw [List.mem_singleton.1 hg];exact ⟨m,_,up,E.symm,⟨_,newm,rfl⟩,⟨_,sub fm,rfl⟩,lt⟩
  · rw [if_neg c];refine ⟨F.nd,F.ok,fun g hg => ?_,F.jn,fun p l hp hpl c' hE => ?_,F.top⟩
    · rcases F.org g hg with r | ⟨p,l,p1,p2,p3,p4⟩
      · exact .inl r
      · exact .inr ⟨p,l,p1,p2,p3,by omega⟩
    · by_cases cl:p = i ∧ l = m
      · obtain ⟨rfl,rfl⟩ := cl;have oe := (oth_edge hw fok hm hE.pass _).1 hE;have:(q.getD p default).link = (l:Int) := by
          refine Classical.byContradiction fun ne => c ?_;unfold cpAt;rw [hE.pass,Bool.and_true,Bool.and_eq_true,decide_eq_true_eq,decide_eq_true_eq];exact ⟨oe.1,fun h => ne h.symm⟩
        rcases F.org _ fm with r | ⟨p',l',p1,p2,p3,p4⟩
        · rw [r,hf0] at this; omega
        · have:l' = l := by omega
          subst this;rcases hE.inj hw p3 with ⟨e1,e2⟩ | ⟨e1,e2⟩
          · exact ⟨_,getD_mem p1,e2.symm⟩
          · exact ⟨_,fm,e2.symm⟩
      · exact F.clo p l hp (by omega) c' hE
theorem fl_zero {w:TreeWorld} (hw:WOk w) {f0:frame} (h0:FOk w f0):Fl w f0 0 0 [f0] :=
  ⟨List.pairwise_singleton _ _,fun g hg => by rw [List.mem_singleton.1 hg]; exact h0,fun g hg => .inl (List.mem_singleton.1 hg),fun g hg => by rw [List.mem_singleton.1 hg]; exact J.refl hw (by have := h0.1; have := h0.2; omega),fun p l _ h => by omega,f0,List.mem_singleton.2 rfl,fun g hg ne => by rw [List.mem_singleton.1 hg] at ne; exact absurd rfl ne⟩
theorem Fl.next {w:TreeWorld} {f0:frame} {i m:Nat} {q:List frame} (F:Fl w f0 i w.Links.length q):Fl w f0 (i + 1) 0 q := by
  refine ⟨F.nd,F.ok,fun g hg => ?_,F.jn,fun p l hp hpl c hE => F.clo p l hp (by have := hE.hl; omega) c hE,F.top⟩;rcases F.org g hg with r | ⟨p,l,p1,p2,p3,p4⟩
  · exact .inl r
  · exact .inr ⟨p,l,p1,p2,p3,by omega⟩
theorem fl_cps {w:TreeWorld} (hw:WOk w) (hd:w.Down.length ≤ 9223372036854775807) (R:Right w w) {f0:frame} (hf0:f0.link = -1) (hf0n:f0.bridge.toNat < w.Bridges.length) {i:Nat} {q:List frame} (F:Fl w f0 i 0 q) (hi:i < q.length):∀ m,m ≤ w.Links.length → Fl w f0 i m (q ++ cps w (q.getD i default) m) := by
  intro m
  induction m with
  | zero => intro _; rw [show cps w (q.getD i default) 0 = [] from rfl,List.append_nil]; exact F
  | succ m ih =>
    intro hm;have s := fl_step hw hd R hf0 hf0n (ih (by omega)) (by rw [List.length_append]; omega) hm;rw [getD_pre hi] at s;rw [cps_succ];split
    · rename_i c; rw [if_pos c,List.append_assoc] at s; exact s
    · rename_i c; rw [if_neg c] at s; exact s
theorem fl_queue {w:TreeWorld} (hw:WOk w) (hd:w.Down.length ≤ 9223372036854775807) (R:Right w w) {f0:frame} (h0:FOk w f0) (hf0:f0.link = -1):∀ i,(∀ j,j < i → j < (queue w f0 j).length) → Fl w f0 i 0 (queue w f0 i) := by
  intro i
  induction i with
  | zero => exact fun _ => fl_zero hw h0
  | succ i ih =>
    intro hj;have hi := hj i (Nat.lt_succ_self _);rw [queue_succ hi];exact (fl_cps hw hd R hf0 (by have := h0.1; have := h0.2; omega) (ih fun j h => hj j (by omega)) hi _ (Nat.le_refl _)).next (m := 0)
theorem nd_len:∀ (n:Nat) (q:List frame),(q.Pairwise fun f g => f.bridge ≠ g.bridge) → (∀ g ∈ q,0 ≤ g.bridge ∧ g.bridge < n) → q.length ≤ n := by
  intro n
  induction n with
  | zero =>
    intro q _ h
    cases q with
    | nil => exact Nat.le_refl _
    | cons g q => have := h g (List.mem_cons_self ..); omega
  | succ n ih =>
    intro q hp h;have k := ih (q.filter fun g => decide (g.bridge ≠ (n:Int))) (hp.filter _) fun g hg => by
      rw [List.mem_filter,decide_eq_true_eq] at hg;have := h g hg.1;omega
    have one:q.length ≤ (q.filter fun g => decide (g.bridge ≠ (n:Int))).length + 1 := by
      clear k ih h
      induction q with
      | nil => simp
      | cons g q ih =>
        rw [List.pairwise_cons] at hp
        by_cases c:g.bridge = (n:Int)
        · rw [List.filter_cons_of_neg (by simp [c]),List.filter_eq_self.2 (fun x hx => by
            have := hp.1 x hx;simp only [ne_eq,decide_not,Bool.not_eq_true',decide_eq_false_iff_not];omega)]
          simp
        · rw [List.filter_cons_of_pos (by simp [c]),List.length_cons,List.length_cons];have := ih hp.2;omega
    omega
theorem root_up {w:TreeWorld} (hw:WOk w):∀ (n:Nat) {k:Nat},k < w.Bridges.length → (mz w k).toNat ≤ n → k ≠ rootOf w k → upAt w (rootOf w k:Nat) = true ∧ upAt w (k:Nat) = true := by
  intro n
  induction n with
  | zero =>
    intro k hk hn hr;obtain ⟨l,u,e,p⟩ := par_of hw hk hr;have := mz_nonneg hw p.un;have := p.less;omega
  | succ n ih =>
    intro k hk hn hr;obtain ⟨l,u,e,p⟩ := par_of hw hk hr;have uk := open_up p.op e;rw [p.hb] at uk;refine ⟨?_,uk⟩
    by_cases c:u = rootOf w u
    · have uu := open_up p.op (1 - e);rw [p.hu,c,p.root] at uu;exact uu
    · have h0 := mz_nonneg hw p.un;have h1 := p.less;have := (ih p.un (by omega) c).1;rw [p.root] at this;exact this
theorem J.up {w:TreeWorld} (hw:WOk w) {a b:Nat} (ha:a < w.Bridges.length) (hb:b < w.Bridges.length) (h:J w a b) (hn:a ≠ b):upAt w (b:Nat) = true := by
  have re := root_eq hw ha hb h
  by_cases c:b = rootOf w b
  · have ca:a ≠ rootOf w a := fun e => hn (by rw [e,re,← c]);have := (root_up hw _ ha (Nat.le_refl _) ca).1;rw [re,← c] at this;exact this
  · exact (root_up hw _ hb (Nat.le_refl _) c).2
def outOf' (q:List frame):List Int := (q.map (·.bridge)).drop 1
theorem flood_all {w:TreeWorld} (h:Rt w) {a:Nat} (ha:a < w.Bridges.length):∃ q:List Int,impl_TreeFlood_m w a 100 = some q ∧ q.length ≤ 8 ∧ (∀ i j,i < q.length → j < q.length → q.getD i default = q.getD j default → i = j) ∧ ∀ b,b < w.Bridges.length → ((∃ i,i < q.length ∧ q.getD i default = (b:Int)) ↔ (b ≠ a ∧ J w b a)) := by
  have g := h.g;have hw := g.wok;have hd := g.dn;have R := h.self;have hlen:w.Len 9223372036854775807 := Len.mono g.len (by omega);have h8 := g.n8
  by_cases hu:isUp w (a:Int) = true
  · obtain ⟨K,k1,k2,k3⟩ := implFlood_p (a2 := 100) hlen (good_iff.2 g) hu;have em:mostOf 100 = 100 := rfl;rw [em] at k1 k2 k3;have h0:FOk w ⟨(a:Int),-1⟩ := isUp_in hu;have F := fl_queue hw hd R h0 rfl K fun j hj => by
      have := k3 j hj;simp only [Bool.and_eq_true,decide_eq_true_eq] at this;exact this.1
    have L := nd_len _ _ F.nd F.ok;have KL:(queue w ⟨(a:Int),-1⟩ K).length ≤ K := by
      simp only [Bool.and_eq_false_imp,decide_eq_true_eq,decide_eq_false_iff_not] at k2;exact Nat.le_of_not_lt fun c => k2 c (by omega)
    have h1 := (queue_len hw ⟨(a:Int),-1⟩ K).1;obtain ⟨more,hm⟩ := queue_pre (w := w) (f0 := ⟨(a:Int),-1⟩) (Nat.zero_le K);have q0:(queue w ⟨(a:Int),-1⟩ K).getD 0 default = ⟨(a:Int),-1⟩ := by rw [hm]; rfl
    have k1:impl_TreeFlood_m w (a:Int) 100 = some ((outOf' (queue w ⟨(a:Int),-1⟩ K)).take (100:Int).toNat) := k1;generalize queue w ⟨(a:Int),-1⟩ K = q at *;have ql:(outOf' q).length = q.length - 1 := by simp [outOf']
    have get:∀ i,i + 1 < q.length → (outOf' q).getD i default = (q.getD (i + 1) default).bridge := fun i hi => by
      unfold outOf';rw [drop1_get,map_getF hi]
    refine ⟨outOf' q,?_,by omega,fun i j hi hj e => ?_,fun b hb => ?_⟩
    · rw [k1];exact congrArg some (List.take_of_length_le (by rw [show ((100:Int)).toNat = 100 from rfl]; show (outOf' q).length ≤ 100; omega))
    · rw [get i (by omega),get j (by omega)] at e;have := nd_get F.nd (by omega) (by omega) e;omega
    · have clo:∀ g ∈ q,∀ l c,Edge w l g.bridge c → ∃ g' ∈ q,g'.bridge = c := fun g hg l c E => by
        obtain ⟨p,hp,rfl⟩ := List.getElem_of_mem hg;have e:q.getD p default = q[p] := by rw [List.getD_eq_getElem?_getD,List.getElem?_eq_getElem hp]; rfl
        exact F.clo p l hp (.inl (by omega)) c (by rw [e]; exact E)
      have toRoot:∀ (n:Nat) {k:Nat},k < w.Bridges.length → (mz w k).toNat ≤ n → ((∃ g ∈ q,g.bridge = (k:Int)) ↔ ∃ g ∈ q,g.bridge = ((rootOf w k:Nat):Int)) := by
        intro n
        induction n with
        | zero =>
          intro k hk hn
          by_cases c:k = rootOf w k
          · rw [← c]
          · obtain ⟨l,u,e,p⟩ := par_of hw hk c;have := mz_nonneg hw p.un;have := p.less;omega
        | succ n ih =>
          intro k hk hn
          by_cases c:k = rootOf w k
          · rw [← c]
          · obtain ⟨l,u,e,p⟩ := par_of hw hk c;have h0 := mz_nonneg hw p.un;have h1 := p.less;have iu := ih p.un (by omega);rw [p.root] at iu;rw [← iu];have E := edge_par hw hd R hk p
            constructor
            · rintro ⟨g,hg,eg⟩;exact clo g hg l _ (by rw [eg]; exact E)
            · rintro ⟨g,hg,eg⟩;exact clo g hg l _ (by rw [eg]; exact E.symm)
      have am:∃ g ∈ q,g.bridge = (a:Int) := ⟨_,getD_mem (i := 0) (by omega),by rw [q0]⟩;have jm:∀ g ∈ q,J w g.bridge.toNat a := fun g hg => F.jn g hg
      constructor
      · rintro ⟨i,hi,e⟩;rw [get i (by omega)] at e;have := jm _ (getD_mem (xs := q) (i := i + 1) (by omega));rw [e,Int.toNat_natCast] at this;refine ⟨fun hh => ?_,this⟩;have := nd_get F.nd (i := i + 1) (j := 0) (by omega) (by omega) (by rw [e,q0,hh]);omega
      · rintro ⟨hn,hj⟩;obtain ⟨gr,hgr,egr⟩ := (toRoot _ ha (Nat.le_refl _)).1 am;obtain ⟨gb,hgb,egb⟩ := (toRoot _ hb (Nat.le_refl _)).2 ⟨gr,hgr,by rw [egr,root_eq hw hb ha hj]⟩;obtain ⟨p,hp,rfl⟩ := List.getElem_of_mem hgb;have e:q.getD p default = q[p] := by rw [List.getD_eq_getElem?_getD,List.getElem?_eq_getElem hp]; rfl
        cases p with
        | zero =>
          rw [← e,q0] at egb;exact absurd (Int.ofNat.inj egb).symm hn
        | succ p => exact ⟨p,by omega,by rw [get p hp,e,egb]⟩
  · refine ⟨[],?_,by decide,fun i j hi => absurd hi (Nat.not_lt_zero _),fun b hb => ⟨fun ⟨i,hi,_⟩ => absurd hi (Nat.not_lt_zero _),fun ⟨hn,hj⟩ => ?_⟩⟩
    · unfold impl_TreeFlood_m;have:isUp w (a:Int) = false := Bool.eq_false_iff.2 hu;rw [implWorldOk_p hlen.b hlen.l hlen.d hlen.r,bd_val,isUp_p hlen.b,gcall_nb,bd_val,good_iff.2 g,this]
      rfl
    · exfalso;refine hu ?_;unfold isUp;rw [inR_iff.2 ⟨by omega,by omega⟩,Bool.true_and];exact J.up hw hb ha hj hn
end Go.Proofs.Ytfgmolljcgnafaa
