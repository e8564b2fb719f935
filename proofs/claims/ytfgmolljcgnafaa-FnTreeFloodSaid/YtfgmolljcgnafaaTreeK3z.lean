/-
  Plain Lean: the links that let frames pass, when all is as it should be: those towards roots. The laws' classes of bridges.
-/
import Derived.Test.YtfgmolljcgnafaaKz5
import Derived.Test.YtfgmolljcgnafaaTreeK2z
import Derived.Test.YtfgmolljcgnafaaTreeHz
set_option linter.all false
namespace Go.Proofs.Ytfgmolljcgnafaa
open Go Go.Ab
set_option maxHeartbeats 400000
noncomputable def par (w:TreeWorld) (b:Nat):Int := (mindOf w b).Link
def mz (w:TreeWorld) (b:Nat):Int := ((netOf w).costs (rootOf w b)).getD b default
structure Par (w:TreeWorld) (b l u:Nat) (e:Int):Prop where
  link:par w b = (l:Int)
  hl:l < w.Links.length
  he:e = 0 ∨ e = 1
  op:isOpen w l = true
  hb:brAt w l e = (b:Int)
  hu:brAt w l (1 - e) = (u:Int)
  un:u < w.Bridges.length
  root:rootOf w u = rootOf w b
  cost:mz w u + (w.Links.getD l default).Cost = mz w b
  less:mz w u < mz w b
theorem par_root {w:TreeWorld} {b:Nat} (h:b = rootOf w b):par w b = -1 := by unfold par mindOf; exact if_pos h
theorem par_of {w:TreeWorld} (hw:WOk w) {b:Nat} (hb:b < w.Bridges.length) (h:b ≠ rootOf w b):∃ l u e,Par w b l u e := by
  obtain ⟨r1,r2⟩ := root_J hw hb;have rb:J w (rootOf w b) b := r2.symm hw hb r1;obtain ⟨u1,u2,u3,u4,u5,u6⟩ := up_next hw r1 hb h rb;obtain ⟨t1,t2⟩ := upOf_tight (w := w) ((netOf w).costs (rootOf w b)) b u1;have pl:par w b = (upOf w ((netOf w).costs (rootOf w b)) b).link := by unfold par mindOf; exact if_neg h
  generalize hU:upOf w ((netOf w).costs (rootOf w b)) b = U at *;obtain ⟨l,hl⟩:∃ l:Nat,U.link = l := ⟨U.link.toNat,by omega⟩;obtain ⟨u,hu⟩:∃ u:Nat,U.next = u := ⟨U.next.toNat,by omega⟩;rw [hl,Int.toNat_natCast] at u6 t1 t2;rw [hu,Int.toNat_natCast] at u5 t2;rw [hu] at u6;have hll:l < w.Links.length := by omega
  have lk := linkAt hw.link hll;have ju:J w (rootOf w b) u := by unfold J at rb ⊢; omega
  have re:rootOf w u = rootOf w b := (root_eq hw hb (by omega) (r2.trans hw hb r1 (by omega) ju)).symm;obtain ⟨e,he,hb1,hb2⟩:∃ e:Int,(e = 0 ∨ e = 1) ∧ brAt w l e = (b:Int) ∧ brAt w l (1 - e) = (u:Int) := by
    unfold othOf at u6
    by_cases c1:(b:Int) = (w.Links.getD l default).A
    · rw [if_pos c1] at u6;exact ⟨0,.inl rfl,c1.symm,u6⟩
    · rw [if_neg c1] at u6
      by_cases c2:(b:Int) = (w.Links.getD l default).B
      · rw [if_pos c2] at u6;exact ⟨1,.inr rfl,c2.symm,u6⟩
      · rw [if_neg c2] at u6; omega
  exact ⟨l,u,e,pl.trans hl,hll,he,t1,hb1,hb2,by omega,re,by unfold mz; rw [re]; exact t2,by unfold mz; rw [re]; exact u5⟩
theorem par_get {w:TreeWorld} (hw:WOk w) {b i:Nat} (hb:b < w.Bridges.length) (h:par w b = (i:Int)):∃ u e,Par w b i u e := by
  by_cases c:b = rootOf w b
  · rw [par_root c] at h; omega
  · obtain ⟨l,u,e,p⟩ := par_of hw hb c;have e1 := p.link;have:l = i := by omega
    subst this;exact ⟨u,e,p⟩
theorem br_ends {w:TreeWorld} (hw:WOk w) {i:Nat} (hi:i < w.Links.length) {e e':Int} (he:e = 0 ∨ e = 1) (he':e' = 0 ∨ e' = 1) (h:brAt w i e = brAt w i e'):e = e' := by
  have lk := linkAt hw.link hi;have bA:brAt w i 0 = (w.Links.getD i default).A := rfl;have bB:brAt w i 1 = (w.Links.getD i default).B := rfl;rcases he with rfl | rfl <;> rcases he' with rfl | rfl
  · rfl
  · omega
  · omega
  · rfl
theorem J.ends {w:TreeWorld} (hw:WOk w) {i:Nat} (hi:i < w.Links.length) (ho:isOpen w i = true) {e:Int} (he:e = 0 ∨ e = 1):J w (brAt w i e).toNat (brAt w i (1 - e)).toNat := by
  have lk := linkAt hw.link hi;rcases he with rfl | rfl
  · exact J.link hw hi ho
  · have a0 := brAt_in hw hi 0;have a1 := brAt_in hw hi 1;exact J.symm hw (u := (brAt w i 0).toNat) (v := (brAt w i 1).toNat) (by omega) (by omega) (J.link hw hi ho)
theorem Right.ends {w v:TreeWorld} (hw:WOk w) (hd:w.Down.length ≤ 9223372036854775807) (h:Right w v) {i:Nat} (hi:i < w.Links.length) (ho:isOpen w i = true) {e:Int} (he:e = 0 ∨ e = 1) :
    (v.Bridges.getD (brAt w i e).toNat default).Mind = mindOf w (brAt w i e).toNat ∧ (slotAt v i e).Vector = (mindOf w (brAt w i (1 - e)).toNat).Vector := by
  have b0 := brAt_in hw hi e;have b1 := brAt_in hw hi (1 - e);exact ⟨h.mind hw hd (by omega) (open_up ho e),(h.sl i e hi he ho).2 (by have := rk_8 hw (r := rootOf w (brAt w i (1 - e)).toNat) (v := (brAt w i (1 - e)).toNat) (by omega); omega)⟩
theorem Right.lets {w v:TreeWorld} (hw:WOk w) (hd:w.Down.length ≤ 9223372036854775807) (h:Right w v) {i:Nat} (hi:i < w.Links.length) (ho:isOpen w i = true) {e:Int} (he:e = 0 ∨ e = 1) :
    letsOf v i (brAt v i e) (brAt v i (1 - e)) (slotAt v i e).Vector = (decide (par w (brAt w i e).toNat = (i:Int)) || decide (mz w (brAt w i e).toNat < mz w (brAt w i (1 - e)).toNat ∨ (mz w (brAt w i e).toNat = mz w (brAt w i (1 - e)).toNat ∧ idAt w (brAt w i e).toNat < idAt w (brAt w i (1 - e)).toNat))) := by
  obtain ⟨m1,m2⟩ := h.ends hw hd hi ho he;have b0 := brAt_in hw hi e;have b1 := brAt_in hw hi (1 - e);have re:rootOf w (brAt w i e).toNat = rootOf w (brAt w i (1 - e)).toNat := root_eq hw (by omega) (by omega) (J.ends hw hi ho he);have i0:(v.Bridges.getD (brAt w i e).toNat default).Id = idAt w (brAt w i e).toNat := h.calm.nt.id _;have i1:(v.Bridges.getD (brAt w i (1 - e)).toNat default).Id = idAt w (brAt w i (1 - e)).toNat := h.calm.nt.id _;have ip := id_pos hw (root_J hw (b := (brAt w i (1 - e)).toNat) (by omega)).1;unfold letsOf;rw [h.calm.nt.br,h.calm.nt.br,m1,m2,i0,i1];have nn:nothing (mindOf w (brAt w i (1 - e)).toNat).Vector = false := by
    unfold nothing mindOf;dsimp only;rw [Bool.and_eq_false_iff]; left; rw [beq_eq_false_iff_ne]; omega
  rw [nn,Bool.false_or];have e1:(mindOf w (brAt w i e).toNat).Vector.Root = (mindOf w (brAt w i (1 - e)).toNat).Vector.Root := by unfold mindOf; dsimp only; rw [re]
  have e2:(mindOf w (brAt w i e).toNat).Vector.Cost = mz w (brAt w i e).toNat := rfl;have e3:(mindOf w (brAt w i (1 - e)).toNat).Vector.Cost = mz w (brAt w i (1 - e)).toNat := rfl;have e4:(mindOf w (brAt w i e).toNat).Link = par w (brAt w i e).toNat := rfl;rw [e1,e2,e3,e4];refine congr (congrArg or rfl) ?_;rw [Bool.eq_iff_iff,decide_eq_true_eq,decide_eq_true_eq];omega
theorem Right.pass {w v:TreeWorld} (hw:WOk w) (hd:w.Down.length ≤ 9223372036854775807) (h:Right w v) {i:Nat} (hi:i < w.Links.length):passAt v i = true ↔ ∃ b,b < w.Bridges.length ∧ par w b = (i:Int) := by
  have b0 := brAt_in hw hi 0;have b1 := brAt_in hw hi 1;unfold passAt;rw [h.calm.nt.op]
  cases ho:isOpen w i
  · rw [Bool.false_and,Bool.false_and];refine ⟨fun hh => absurd hh (by decide),fun ⟨b,hb,hp⟩ => ?_⟩;obtain ⟨u,e,p⟩ := par_get hw hb hp;rw [p.op] at ho;exact absurd ho (by decide)
  · have l0 := h.lets hw hd hi ho (e := 0) (.inl rfl);have l1 := h.lets hw hd hi ho (e := 1) (.inr rfl);rw [show (1:Int) - 0 = 1 from rfl] at l0;rw [show (1:Int) - 1 = 0 from rfl] at l1;rw [Bool.true_and,l0,l1,Bool.and_eq_true,Bool.or_eq_true,Bool.or_eq_true,decide_eq_true_eq,decide_eq_true_eq,decide_eq_true_eq,decide_eq_true_eq]
    constructor
    · rintro ⟨c0,c1⟩;rcases c0 with c0 | c0
      · exact ⟨_,by omega,c0⟩
      · rcases c1 with c1 | c1
        · exact ⟨_,by omega,c1⟩
        · omega
    · rintro ⟨b,hb,hp⟩;obtain ⟨u,e,p⟩ := par_get hw hb hp;have h1 := p.hb;have h2 := p.hu;have h3 := p.less;rcases p.he with rfl | rfl
      · rw [show (1:Int) - 0 = 1 from rfl] at h2;rw [h1,h2,Int.toNat_natCast,Int.toNat_natCast];exact ⟨.inl hp,.inr (.inl h3)⟩
      · rw [show (1:Int) - 1 = 0 from rfl] at h2;rw [h1,h2,Int.toNat_natCast,Int.toNat_natCast];exact ⟨.inr (.inl h3),.inl hp⟩
def mergeL (h:List Int) (a b:Int):List Int := h.map fun c => if c = a ∨ c = b then (if a < b then a else b) else c
theorem merge_get {h:List Int} {a b:Int} {k:Nat} (hk:k < h.length):(mergeL h a b).getD k default = if h.getD k default = a ∨ h.getD k default = b then (if a < b then a else b) else h.getD k default := by
  simp [mergeL,List.getD_eq_getElem?_getD,hk]
def hA (w:TreeWorld) (h:List Int) (l:Int):Int := h.getD (w.Links.getD l.toNat default).A.toNat default
def hB (w:TreeWorld) (h:List Int) (l:Int):Int := h.getD (w.Links.getD l.toNat default).B.toNat default
def headF (w:TreeWorld) (s:List Int × Bool) (l:Int):List Int × Bool := (mergeL s.1 (hA w s.1 l) (hB w s.1 l),if hA w s.1 l == hB w s.1 l then false else s.2)
def head0 (n:Nat):List Int := (List.range n).map fun k:Nat => (k:Int)
theorem head0_get {n k:Nat} (hk:k < n):(head0 n).getD k default = (k:Int) := by simp [head0,List.getD_eq_getElem?_getD,hk]
def headsOf (w:TreeWorld) (ls:List Int):List Int × Bool := ls.foldl (headF w) (head0 w.Bridges.length,true)
theorem heads_len {w:TreeWorld} (ls:List Int):∀ s,(ls.foldl (headF w) s).1.length = s.1.length := by
  induction ls with
  | nil => exact fun _ => rfl
  | cons l ls ih => intro s; rw [List.foldl_cons,ih]; simp [headF,mergeL]
theorem heads_snoc {w:TreeWorld} {ls:List Int} {j:Nat} (hj:j < ls.length):headsOf w (ls.take (j + 1)) = headF w (headsOf w (ls.take j)) (ls.getD j default) := by
  unfold headsOf;rw [List.take_succ,List.getD_eq_getElem?_getD,List.getElem?_eq_getElem hj,List.foldl_append]
  rfl
def LinksIn (w:TreeWorld) (ls:List Int):Prop := ∀ j,j < ls.length → 0 ≤ ls.getD j default ∧ ls.getD j default < w.Links.length
theorem wtHeads_p {w:TreeWorld} (hw:WOk w) {ls:List Int} (hls:LinksIn w ls) (hn:ls.length ≤ 12):laws_wtHeads_m w ls = some (headsOf w ls) := by
  have h8 := bridgesLen hw;have key:Post (laws_wtHeads_m w ls) fun x => x = headsOf w ls := by
    unfold laws_wtHeads_m;refine .gd (by omega) (.bd (Q := fun x => x.2 = head0 w.Bridges.length) (.lp (fun s => s.1.length = w.Bridges.length ∧ (0 ≤ s.2 ∧ s.2 ≤ w.Bridges.length) ∧ ∀ k:Nat,(k:Int) < s.2 → s.1.getD k default = (k:Int)) (fun s => w.Bridges.length - s.2.toNat) ⟨by simp,by dsimp only; omega,fun k hk => by dsimp only at hk; omega⟩ fun s ⟨i1,i2,i3⟩ => .ite (fun c => ?_) fun c => .ret ?_) fun x4 h4 => .bd (Q := fun x => (x.2.2,x.2.1) = headsOf w ls) (.lp (fun s => 0 ≤ s.2.2 ∧ s.2.2 ≤ ls.length ∧ (s.1,s.2.1) = headsOf w (ls.take s.2.2.toNat)) (fun s => ls.length - s.2.2.toNat) ⟨Int.le_refl _,by dsimp only; omega,by rw [h4]; rfl⟩ fun s ⟨i1,i2,i3⟩ => .ite (fun c => ?_) fun c => .ret ?_) fun x10 h10 => .ret h10)
    · have c := of_decide_eq_true c;have w1:IntKind.i64.wrap (s.2 + 1) = s.2 + 1 := wrap_i64 (by omega) (by omega);rw [w1];refine .gd (by omega) (.ret ⟨⟨by dsimp only; rw [List.length_set]; exact i1,by dsimp only; omega,fun k hk => ?_⟩,by dsimp only; omega⟩);dsimp only at hk ⊢
      by_cases e:k = s.2.toNat
      · subst e;rw [getD_set (by omega)]; omega
      · rw [getD_ne (fun h => e h.symm)];exact i3 k (by omega)
    · have c:¬ s.2 < _ := fun h => c (decide_eq_true h);refine list_ext (by simp [head0,i1]) fun k hk => ?_;dsimp only at hk ⊢;rw [i3 k (by omega),head0_get (by omega)]
    · have c := of_decide_eq_true c;obtain ⟨l1,l2⟩ := hls s.2.2.toNat (by omega);have hl := linkAt hw.link (i := (ls.getD s.2.2.toNat default).toNat) (by omega);have w1:IntKind.i64.wrap (s.2.2 + 1) = s.2.2 + 1 := wrap_i64 (by omega) (by omega);rw [w1];have n1:s.1.length = w.Bridges.length := (congrArg (fun x:List Int × Bool => x.1.length) i3).trans ((heads_len _ _).trans (by simp [head0]));have nx := heads_snoc (w := w) (ls := ls) (j := s.2.2.toNat) (by omega);rw [← i3] at nx;unfold headF hA hB at nx;dsimp only at nx;generalize (w.Links.getD (ls.getD s.2.2.toNat default).toNat default) = lk at *;refine .gd (by omega) (.gd (by omega) (.gd (by omega) (.gd (by omega) (.gd (by omega) (.gd (by omega) (.bd (Q := fun x => x = if (s.1.getD lk.A.toNat default == s.1.getD lk.B.toNat default) = true then false else s.2.1) (.ite (fun d => .ret (by rw [if_pos d])) fun d => .ret (by rw [if_neg d])) fun x17 h17 => ?_))))));generalize ha:s.1.getD lk.A.toNat default = a at *;generalize hb:s.1.getD lk.B.toNat default = b at *;obtain ⟨m,hmd⟩:∃ m:Int,m = if a < b then a else b := ⟨_,rfl⟩;refine .bd (Q := fun x => x.2 = mergeL s.1 a b) (.lp (fun q => q.1.length = w.Bridges.length ∧ (0 ≤ q.2 ∧ q.2 ≤ w.Bridges.length) ∧ ∀ k:Nat,k < w.Bridges.length → q.1.getD k default = if (k:Int) < q.2 ∧ (s.1.getD k default = a ∨ s.1.getD k default = b) then m else s.1.getD k default) (fun q => w.Bridges.length - q.2.toNat) ⟨n1,by dsimp only; omega,fun k _ => by dsimp only; rw [if_neg (by omega)]⟩ fun q ⟨j1,j2,j3⟩ => .ite (fun d => ?_) fun d => .ret ?_) fun x23 h23 => .ret ⟨⟨by dsimp only; omega,by dsimp only; omega,?_⟩,by dsimp only; omega⟩
      · have d := of_decide_eq_true d;have w2:IntKind.i64.wrap (q.2 + 1) = q.2 + 1 := wrap_i64 (by omega) (by omega);have jq := j3 q.2.toNat (by omega);rw [if_neg (by omega)] at jq;rw [w2,jq];have put:∀ v:Int,v = m → (s.1.getD q.2.toNat default = a ∨ s.1.getD q.2.toNat default = b) → ∀ k:Nat,k < w.Bridges.length → (q.1.set q.2.toNat v).getD k default = if (k:Int) < q.2 + 1 ∧ (s.1.getD k default = a ∨ s.1.getD k default = b) then m else s.1.getD k default := fun v hv hc k hk => by
          by_cases e:k = q.2.toNat
          · subst e;rw [getD_set (by omega),if_pos ⟨by omega,hc⟩,hv]
          · rw [getD_ne (fun h => e h.symm),j3 k hk]
            by_cases hk2:(k:Int) < q.2
            · by_cases h3:s.1.getD k default = a ∨ s.1.getD k default = b
              · rw [if_pos ⟨hk2,h3⟩,if_pos ⟨by omega,h3⟩]
              · rw [if_neg (fun h => h3 h.2),if_neg (fun h => h3 h.2)]
            · rw [if_neg (fun h => hk2 h.1),if_neg (fun h => by have := h.1; omega)]
        refine .gd (by omega) (.gd (fun _ => by omega) (.ite (fun u => .ite (fun v => .gd (by omega) ?_) fun v => .gd (by omega) ?_) fun u => .ret ⟨⟨j1,by dsimp only; omega,fun k hk => ?_⟩,by dsimp only; omega⟩))
        · rw [bd_val];refine .ret ⟨⟨by dsimp only; rw [List.length_set]; exact j1,by dsimp only; omega,put a ?_ (by simpa using u)⟩,by dsimp only; omega⟩;rw [hmd,if_pos (of_decide_eq_true v)]
        · rw [bd_val];refine .ret ⟨⟨by dsimp only; rw [List.length_set]; exact j1,by dsimp only; omega,put b ?_ (by simpa using u)⟩,by dsimp only; omega⟩;rw [hmd,if_neg (fun h => v (decide_eq_true h))]
        · have u:¬ (s.1.getD q.2.toNat default = a ∨ s.1.getD q.2.toNat default = b) := fun h => u (by simpa using h);dsimp only;rw [j3 k hk]
          by_cases e:k = q.2.toNat
          · subst e;rw [if_neg (fun h => u h.2),if_neg (fun h => u h.2)]
          · by_cases h3:s.1.getD k default = a ∨ s.1.getD k default = b
            · by_cases hk2:(k:Int) < q.2
              · rw [if_pos ⟨hk2,h3⟩,if_pos ⟨by omega,h3⟩]
              · rw [if_neg (fun h => hk2 h.1),if_neg (fun h => by have := h.1; omega)]
            · rw [if_neg (fun h => h3 h.2),if_neg (fun h => h3 h.2)]
      · have d:¬ q.2 < _ := fun h => d (decide_eq_true h);refine list_ext (by simp [mergeL,j1,n1]) fun k hk => ?_;dsimp only at hk;rw [j3 k (by omega),merge_get (by omega)]
        by_cases h3:s.1.getD k default = a ∨ s.1.getD k default = b
        · rw [if_pos ⟨by omega,h3⟩,if_pos h3,hmd]
        · rw [if_neg (fun h => h3 h.2),if_neg h3]
      · dsimp only;rw [show (s.2.2 + 1).toNat = s.2.2.toNat + 1 by omega,nx,h23,h17]
    · have c:¬ s.2.2 < _ := fun h => c (decide_eq_true h);dsimp only;rw [i3,List.take_of_length_le (by omega)]
  obtain ⟨x,e,hx⟩ := key;rw [e,hx]
end Go.Proofs.Ytfgmolljcgnafaa
