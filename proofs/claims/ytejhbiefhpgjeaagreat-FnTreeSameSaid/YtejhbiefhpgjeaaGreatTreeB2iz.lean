/-
  Plain Lean: the root that one is joined with, the link towards it, and the way there; impl's and the reference's alike.
-/
import Derived.Test.YtejhbiefhpgjeaaGreatKz5
import Derived.Test.YtejhbiefhpgjeaaGreatTreeBz
set_option linter.all false
namespace Go.Proofs.YtejhbiefhpgjeaaGreat
open Go Go.Ab
set_option maxHeartbeats 400000
def near (x:Int):Bool:=decide (x < far)
theorem list_extG {α:Type} [Inhabited α] {xs ys:List α} (hl:xs.length=ys.length) (h:∀ i,i < xs.length→xs.getD i default=ys.getD i default):xs=ys:=by
  refine List.ext_getElem hl fun i h1 h2=>?_;have:=h i h1;rwa [List.getD_eq_getElem?_getD,List.getD_eq_getElem?_getD,List.getElem?_eq_getElem h1,List.getElem?_eq_getElem h2] at this
theorem near_get {D:List Int} {v:Nat} (hv:v < D.length):(D.map near).getD v default=near (D.getD v default):=by
  simp [List.getD_eq_getElem?_getD,hv]
theorem near_rel {D:List Int} {k a b:Nat} {c:Int} (h:Bd k D) (hk:k≤100000) (ha:a < D.length) (hb:b < D.length) (hab:a ≠ b) (hc:1≤c∧c≤50) :
    (relL D a b c).map near=if near (D.getD a default)=true ∨ near (D.getD b default)=true then ((D.map near).set a true).set b true else D.map near:=by
  have h1:=bd_get h ha;have h2:=bd_get h hb;have far_:far=1073741824:=rfl;have get:∀ v,v < D.length→((relL D a b c).map near).getD v default=near ((relL D a b c).getD v default):=fun v hv=>near_get (by rw [relL_len]; exact hv);split
  · rename_i hn;simp only [near,decide_eq_true_eq] at hn;refine list_extG (by simp [relL_len]) fun v hv=>?_;have hv2:v < D.length:=by simpa [relL_len] using hv
    rw [get v hv2,relL_get ha hb hab]
    by_cases e:v=b
    · subst e;rw [if_pos rfl,getD_set (by (try rw [List.length_set]); rw [List.length_map]; exact hv2)];simp only [near,decide_eq_true_eq];omega
    · rw [if_neg e,getD_ne (Ne.symm e)]
      by_cases e2:v=a
      · subst e2;rw [if_pos rfl,getD_set (by (try rw [List.length_set]); rw [List.length_map]; exact hv2)];simp only [near,decide_eq_true_eq];omega
      · rw [if_neg e2,getD_ne (Ne.symm e2),near_get hv2]
  · rename_i hn;simp only [near,decide_eq_true_eq,not_or] at hn;refine list_extG (by simp [relL_len]) fun v hv=>?_;have hv2:v < D.length:=by simpa [relL_len] using hv
    rw [get v hv2,relL_get ha hb hab,near_get hv2]
    by_cases e:v=b
    · subst e;rw [if_pos rfl];unfold near;exact decide_eq_decide.2 (by omega)
    · rw [if_neg e]
      by_cases e2:v=a
      · subst e2;rw [if_pos rfl];unfold near;exact decide_eq_decide.2 (by omega)
      · rw [if_neg e2]
def idAt (w:TreeWorld) (v:Nat):Int:=(w.Bridges.getD v default).Id
def leastStep (w:TreeWorld) (D:List Int) (best i:Nat):Nat:=if near (D.getD i default)=true∧idAt w i < idAt w best then i else best
def leastOf (w:TreeWorld) (D:List Int) (b:Nat):Nat:=(List.range w.Bridges.length).foldl (leastStep w D) b
def rootOf (w:TreeWorld) (b:Nat):Nat:=leastOf w ((netOf w).costs b) b
theorem leastStep_in {w:TreeWorld} {D:List Int} {n best i:Nat} (h:best < n∧near (D.getD best default)=true) (hi:i < n):leastStep w D best i < n∧near (D.getD (leastStep w D best i) default)=true:=by
  unfold leastStep;split
  · rename_i hh; exact ⟨hi,hh.1⟩
  · exact h
theorem fold_in {α:Type} {f:α→Nat→α} {p:α→Prop} (n:Nat) (hf:∀ a i,i < n→p a→p (f a i)) {a:α} (h:p a):∀ j,j≤n→p ((List.range j).foldl f a)
  | 0,_=>h
  | j+1,hj=>by
    rw [List.range_succ,List.foldl_append];exact hf _ _ hj (fold_in n hf h j (by omega))
theorem rootOf_in {w:TreeWorld} (hw:WOk w) {b:Nat} (hb:b < w.Bridges.length):rootOf w b < w.Bridges.length∧near (((netOf w).costs b).getD (rootOf w b) default)=true:=by
  refine fold_in (p:=fun x=>x < w.Bridges.length∧near (((netOf w).costs b).getD x default)=true) w.Bridges.length (fun a i hi h=>leastStep_in h hi) ⟨hb,?_⟩ _ (Nat.le_refl _);have:=((netOf w).inv_after (netOk hw) (r:=b) (k:=(netOf w).n) hb).root;unfold Net.costs;rw [this]; decide
theorem implRoot_p {w:TreeWorld} (hw:WOk w) (hd:w.Down.length≤9223372036854775807) {b:Nat} (hb:b < w.Bridges.length):impl_TreeWorld_root_m w (b:Int)=some (rootOf w b:Int):=by
  have h8:=bridgesLen hw;have h12:=linksLen hw;have hN:=netOk hw;unfold impl_TreeWorld_root_m;rw [gd_pos (by omega),Int.toNat_natCast,gd_pos (by simp; omega),bd_val,Int.toNat_natCast];have start:(List.replicate w.Bridges.length (default:Bool)).set b true=((netOf w).init b).map near:=by
    unfold Net.init;rw [List.map_set,List.map_replicate]
    rfl
  rw [start];refine (bd_fold (fun (D:List Int) i=>(D.map near,(i:Int))) w.Bridges.length (fun D _=>(netOf w).round D) (fun D=>(D.length,D.map near)) ((netOf w).init b) (fun i D=>D.length=(netOf w).n∧Bd (i*(netOf w).m) D) rfl ⟨Net.init_len,by have:=(netOf w).bd_after hN (r:=b) (k:=0) hb; exact this⟩ (fun i D hi h=>⟨Net.round_len.trans h.1,by rw [Nat.succ_mul]; exact (netOf w).bd_part hN h.1 h.2 (Nat.le_refl _)⟩) ?_ ?_).trans ?_
  · intro i D hi h;rw [if_pos (by simp; omega)];dsimp only;refine (bd_fold (fun (D:List Int) i=>(D.map near,(i:Int))) w.Links.length (netOf w).link (fun D=>(D.length,D.map near)) D (fun j E=>E.length=(netOf w).n∧Bd (i*(netOf w).m+j) E) rfl h (fun j E hj h=>⟨Net.link_len.trans h.1,(netOf w).bd_link hN h.1 h.2 hj⟩) ?_ ?_).trans (by dsimp only; rw [wrap_succ hi (by omega)]; rfl)
    · intro j E hj hE;have hl:=linkAt hw.link hj;have la:(w.Links.getD j default).A.toNat < E.length:=by rw [hE.1]; exact hN.an j hj
      have lb:(w.Links.getD j default).B.toNat < E.length:=by rw [hE.1]; exact hN.bn j hj
      have le:E.length=w.Bridges.length:=hE.1;have hs:i*(netOf w).m≤96:=Nat.le_trans (Nat.mul_le_mul_right _ (Nat.le_of_lt hi)) (netSize hw);rw [if_pos (by simp; omega),gd_pos (by dsimp only; omega)];dsimp only;rw [implOpenL_p hw hd hj,bd_val,wrap_succ hj (by omega),Int.toNat_natCast,List.length_map,gd_pos (fun _=>by omega),gd_pos (fun _ _=>by omega),near_get la,near_get lb];unfold Net.link;have rel:=near_rel (c:=(w.Links.getD j default).Cost) hE.2 (by omega) la lb (hN.ab j hj) (by omega)
      by_cases ho:isOpen w j=true
      · rw [if_pos (show (netOf w).op j=true from ho)];show _=some (Sum.inl ((relL E (w.Links.getD j default).A.toNat (w.Links.getD j default).B.toNat (w.Links.getD j default).Cost).map near,_));rw [rel]
        by_cases hn:near (E.getD (w.Links.getD j default).A.toNat default)=true ∨ near (E.getD (w.Links.getD j default).B.toNat default)=true
        · rw [if_pos hn,if_pos (by rw [ho,Bool.true_and,Bool.or_eq_true]; exact hn),gd_pos (by omega),bd_val,gd_pos (by (try rw [List.length_set]); (try rw [List.length_map]); omega),bd_val]
        · rw [if_neg hn,if_neg (by rw [ho,Bool.true_and,Bool.or_eq_true]; exact hn)]
      · rw [if_neg (show ¬ (netOf w).op j=true from ho),if_neg (by simp [ho])]
    · intro E hE;rw [if_neg (by simp)];simp
  · intro D hD;rw [if_neg (by simp)];simp
  · dsimp only;have hc:(List.range w.Bridges.length).foldl (fun D _=>(netOf w).round D) ((netOf w).init b)=(netOf w).costs b:=rfl;have hl:((netOf w).costs b).length=w.Bridges.length:=Net.after_len;rw [hc,hl];refine (bd_fold (fun (x:Nat) i=>((i:Int),(x:Int))) w.Bridges.length (leastStep w ((netOf w).costs b)) (fun x=>(x:Int)) b (fun _ x=>x < w.Bridges.length∧near (((netOf w).costs b).getD x default)=true) rfl ⟨hb,?_⟩ (fun i x hi h=>leastStep_in h hi) ?_ ?_).trans rfl
    · have:=((netOf w).inv_after hN (r:=b) (k:=(netOf w).n) hb).root;unfold Net.costs;rw [this]; decide
    · intro i x hi hx;rw [if_pos (by simp; omega),gd_pos (by dsimp only; omega)];dsimp only;rw [gd_pos (fun _=>by omega),gd_pos (fun _=>by omega),wrap_succ hi (by omega),Int.toNat_natCast,Int.toNat_natCast,near_get (by omega)];unfold leastStep idAt
      by_cases hh:near (((netOf w).costs b).getD i default)=true∧(w.Bridges.getD i default).Id < (w.Bridges.getD x default).Id
      · rw [if_pos hh,if_pos (by rw [hh.1]; simpa using hh.2)]
      · rw [if_neg hh,if_neg (by simp only [Bool.and_eq_true,decide_eq_true_eq]; exact hh)]
    · intro x hx;rw [if_neg (by simp)]
theorem costs_bd {w:TreeWorld} (hw:WOk w) {r:Nat} (hr:r < w.Bridges.length):Bd 96 ((netOf w).costs r):=by
  have h:=(netOf w).bd_after (netOk hw) (r:=r) (k:=(netOf w).n) hr;have hs:=netSize hw;intro v hv;have:=h v hv;unfold Net.costs;omega
structure Up where
  link:Int
  next:Int
def upEnd (w:TreeWorld) (D:List Int) (v:Nat) (i:Nat) (s:Up) (e:Nat):Up :=
  if isOpen w i=true∧brAt w i (e:Int)=(v:Int)∧D.getD (brAt w i (1 - (e:Int))).toNat default+(w.Links.getD i default).Cost=D.getD v default∧(s.link < 0 ∨ idAt w (brAt w i (1 - (e:Int))).toNat < idAt w s.next.toNat)
  then ⟨i,brAt w i (1 - (e:Int))⟩ else s
def upStep (w:TreeWorld) (D:List Int) (v:Nat) (s:Up) (i:Nat):Up:=upEnd w D v i (upEnd w D v i s 0) 1
def upOf (w:TreeWorld) (D:List Int) (v:Nat):Up:=(List.range w.Links.length).foldl (upStep w D v) ⟨-1,-1⟩
def othOf (w:TreeWorld) (v:Nat) (i:Nat):Int:=if (v:Int)=(w.Links.getD i default).A then (w.Links.getD i default).B else if (v:Int)=(w.Links.getD i default).B then (w.Links.getD i default).A else -1
def Up.In (w:TreeWorld) (D:List Int) (v:Nat) (s:Up):Prop:=s.link < 0 ∨ (0≤s.link∧s.link < w.Links.length∧0≤s.next∧s.next < w.Bridges.length∧D.getD s.next.toNat default < D.getD v default∧othOf w v s.link.toNat=s.next)
theorem brAt_in {w:TreeWorld} (hw:WOk w) {i:Nat} (hi:i < w.Links.length) (e:Int):0≤brAt w i e∧brAt w i e < w.Bridges.length:=by
  have hl:=linkAt hw.link hi;unfold brAt;split <;> omega
theorem upEnd_in {w:TreeWorld} (hw:WOk w) {D:List Int} {v i e:Nat} {s:Up} (hi:i < w.Links.length) (he:e=0 ∨ e=1) (h:s.In w D v):(upEnd w D v i s e).In w D v:=by
  have hl:=linkAt hw.link hi;unfold upEnd;split
  · rename_i hh;have hb:=brAt_in hw hi (1 - (e:Int));refine .inr ⟨by dsimp only; omega,by dsimp only; omega,hb.1,hb.2,by dsimp only; omega,?_⟩;have h2:=hh.2.1;dsimp only;rw [Int.toNat_natCast];unfold othOf;rcases he with rfl | rfl
    · rw [if_pos (show (v:Int)=(w.Links.getD i default).A from h2.symm)]; rfl
    · have h3:(w.Links.getD i default).B=(v:Int):=h2;rw [if_neg (by omega),if_pos h3.symm]; rfl
  · exact h
theorem upStep_in {w:TreeWorld} (hw:WOk w) {D:List Int} {v i:Nat} {s:Up} (hi:i < w.Links.length) (h:s.In w D v):(upStep w D v s i).In w D v:=upEnd_in hw hi (.inr rfl) (upEnd_in hw hi (.inl rfl) h)
theorem upOf_in {w:TreeWorld} (hw:WOk w) (D:List Int) (v:Nat):(upOf w D v).In w D v:=fold_in (p:=fun s=>Up.In w D v s) w.Links.length (fun _ _ hi h=>upStep_in hw hi h) (.inl (by decide)) _ (Nat.le_refl _)
theorem upEnd_keeps {w:TreeWorld} {D:List Int} {v i e:Nat} {s:Up} (h:0≤s.link):0≤(upEnd w D v i s e).link:=by
  unfold upEnd;split
  · dsimp only; omega
  · exact h
theorem upEnd_takes {w:TreeWorld} {D:List Int} {v i e:Nat} {s:Up} (h1:isOpen w i=true) (h2:brAt w i (e:Int)=(v:Int)) (h3:D.getD (brAt w i (1 - (e:Int))).toNat default+(w.Links.getD i default).Cost=D.getD v default):0≤(upEnd w D v i s e).link:=by
  unfold upEnd;split
  · dsimp only; omega
  · rename_i hh;refine Int.not_lt.1 fun hl=>hh ⟨h1,h2,h3,.inl hl⟩
theorem upOf_takes {w:TreeWorld} {D:List Int} {v i e:Nat} (hi:i < w.Links.length) (he:e=0 ∨ e=1) (h1:isOpen w i=true) (h2:brAt w i (e:Int)=(v:Int)) (h3:D.getD (brAt w i (1 - (e:Int))).toNat default+(w.Links.getD i default).Cost=D.getD v default):0≤(upOf w D v).link:=by
  have key:∀ j,i < j→0≤((List.range j).foldl (upStep w D v) ⟨-1,-1⟩).link:=by
    intro j
    induction j with
    | zero=>exact fun h=>absurd h (Nat.not_lt_zero _)
    | succ j ih =>
      intro h;rw [List.range_succ,List.foldl_append];show 0≤(upStep w D v _ j).link
      by_cases e2:i=j
      · subst e2;unfold upStep;rcases he with rfl | rfl
        · exact upEnd_keeps (upEnd_takes h1 h2 h3)
        · exact upEnd_takes h1 h2 h3
      · exact upEnd_keeps (upEnd_keeps (ih (by omega)))
  exact key _ hi
theorem implUp_p {w:TreeWorld} (hw:WOk w) (hd:w.Down.length≤9223372036854775807) {D:List Int} (hD:D.length=w.Bridges.length) {k:Nat} (hB:Bd k D) (hk:k≤100000) {v:Nat} (hv:v < w.Bridges.length):impl_TreeWorld_uplink_m w (v:Int) D=some ((upOf w D v).link,(upOf w D v).next):=by
  have h12:=linksLen hw;have far_:far=1073741824:=rfl;unfold impl_TreeWorld_uplink_m;refine (bd_fold (fun (s:Up) i=>((i:Int),s.link,s.next)) w.Links.length (upStep w D v) (fun s=>(s.link,s.next)) ⟨-1,-1⟩ (fun _ s=>s.In w D v) rfl (.inl (by decide)) (fun i s hi h=>upStep_in hw hi h) ?_ ?_).trans rfl
  · intro i s hi hs;have hl:=linkAt hw.link hi;rw [if_pos (by simp; omega),gd_pos (by dsimp only; omega)];dsimp only;refine (bd_fold (fun (s:Up) e=>((e:Int),s.link,s.next)) 2 (upEnd w D v i) (fun s=>(s.link,s.next)) s (fun e s=>s.In w D v) rfl hs (fun e s he h=>upEnd_in hw hi (by omega) h) ?_ ?_).trans (by dsimp only; rw [wrap_succ hi (by omega)]; rfl)
    · intro e s he hs;rw [if_pos (by simp; omega)];dsimp only;rw [wrap_i64 (n:=1 - (e:Int)) (by omega) (by omega),bridgeAt_p hi,bd_val,implOpenL_p hw hd hi,bd_val,bridgeAt_p hi,gcall_val,bd_val,wrap_succ he (by decide),Int.toNat_natCast,Int.toNat_natCast];have hb:=brAt_in hw hi (1 - (e:Int));have hbd:=bd_get hB (v:=(brAt w i (1 - (e:Int))).toNat) (by omega);rw [gd_pos (fun _=>by omega),gd_pos (fun _=>by omega),wrap_i64 (n:=D.getD (brAt w i (1 - (e:Int))).toNat default+_) (by omega) (by omega)];unfold upEnd
      cases ho:isOpen w i
      · rw [if_pos (by simp),if_neg (by simp)]
      · simp only [Bool.not_true,if_true,Bool.false_or]
        by_cases h1:brAt w i (e:Int)=(v:Int)
        · by_cases h2:D.getD (brAt w i (1 - (e:Int))).toNat default+(w.Links.getD i default).Cost=D.getD v default
          · rw [if_neg (by rw [h1,h2]; simp)];have hn:decide (s.link < 0)=false→0≤s.next∧s.next < ((w.Bridges.length:Nat):Int):=fun h=>by
              rcases hs with hs | hs
              · simp only [decide_eq_false_iff_not] at h; omega
              · omega
            rw [gd_pos (fun _=>hb),gd_pos hn]
            by_cases h3:s.link < 0 ∨ idAt w (brAt w i (1 - (e:Int))).toNat < idAt w s.next.toNat
            · rw [if_pos (by simpa only [Bool.or_eq_true,decide_eq_true_eq,idAt] using h3),if_pos ⟨trivial,h1,h2,h3⟩]
            · rw [if_neg (by simpa only [Bool.or_eq_true,decide_eq_true_eq,idAt] using h3),if_neg (fun h=>h3 h.2.2.2)]
          · rw [if_pos (by rw [h1]; simp only [bne_self_eq_false,Bool.false_or,bne_iff_ne]; exact h2),if_neg (fun h=>h2 h.2.2.1)]
        · rw [if_pos (by simp only [Bool.or_eq_true,bne_iff_ne]; exact .inl h1),if_neg (fun h=>h1 h.2.1)]
    · intro s hs
      rfl
  · intro s hs;rw [if_neg (by simp)]
theorem near_other {w:TreeWorld} (hw:WOk w) {r:Nat} (hr:r < w.Bridges.length) {v i:Nat} (hv:v < w.Bridges.length) (hi:i < w.Links.length) (ho:isOpen w i=true) (h0:0≤othOf w v i) (hn:((netOf w).costs r).getD v default < far):((netOf w).costs r).getD (othOf w v i).toNat default < far:=by
  have hl:=linkAt hw.link hi;have st:=(netOf w).stable_ab (netOk hw) Net.after_len ((netOf w).final (netOk hw) (r:=r) hr) (i:=i) hi ho;have bd:=bd_get (costs_bd hw hr) (v:=v) (by rw [Net.costs,Net.after_len]; exact hv);have far_:far=1073741824:=rfl;have ea:(netOf w).a i=(w.Links.getD i default).A.toNat:=rfl;have eb:(netOf w).b i=(w.Links.getD i default).B.toNat:=rfl;have ec:(netOf w).c i=(w.Links.getD i default).Cost:=rfl;rw [ea,eb,ec] at st;have st':((netOf w).costs r).getD (w.Links.getD i default).A.toNat default≤((netOf w).costs r).getD (w.Links.getD i default).B.toNat default+(w.Links.getD i default).Cost∧((netOf w).costs r).getD (w.Links.getD i default).B.toNat default≤((netOf w).costs r).getD (w.Links.getD i default).A.toNat default+(w.Links.getD i default).Cost:=st;unfold othOf at h0 ⊢
  by_cases h1:(v:Int)=(w.Links.getD i default).A
  · rw [if_pos h1];rw [← h1,Int.toNat_natCast] at st';omega
  · rw [if_neg h1] at h0 ⊢
    by_cases h2:(v:Int)=(w.Links.getD i default).B
    · rw [if_pos h2];rw [← h2,Int.toNat_natCast] at st';omega
    · rw [if_neg h2] at h0;exact absurd h0 (by decide)
theorem up_next {w:TreeWorld} (hw:WOk w) {r:Nat} (hr:r < w.Bridges.length) {v:Nat} (hv:v < w.Bridges.length) (hvr:v ≠ r) (hn:((netOf w).costs r).getD v default < far) :
    0≤(upOf w ((netOf w).costs r) v).link∧(upOf w ((netOf w).costs r) v).link < w.Links.length∧0≤(upOf w ((netOf w).costs r) v).next∧(upOf w ((netOf w).costs r) v).next < w.Bridges.length∧((netOf w).costs r).getD (upOf w ((netOf w).costs r) v).next.toNat default < ((netOf w).costs r).getD v default∧othOf w v (upOf w ((netOf w).costs r) v).link.toNat=(upOf w ((netOf w).costs r) v).next:=by
  have h1:0≤(upOf w ((netOf w).costs r) v).link:=by
    obtain ⟨i,hi,ho,hx⟩:=(netOf w).tight (netOk hw) (r:=r) hr (v:=v) hv hvr hn;have hl:=linkAt hw.link hi;have ea:(netOf w).a i=(w.Links.getD i default).A.toNat:=rfl;have eb:(netOf w).b i=(w.Links.getD i default).B.toNat:=rfl;have ec:(netOf w).c i=(w.Links.getD i default).Cost:=rfl;rw [ea,eb,ec] at hx;rcases hx with ⟨e,hx⟩ | ⟨e,hx⟩
    · exact upOf_takes (e:=0) hi (.inl rfl) ho (show (w.Links.getD i default).A=(v:Int) by omega) hx
    · exact upOf_takes (e:=1) hi (.inr rfl) ho (show (w.Links.getD i default).B=(v:Int) by omega) hx
  rcases upOf_in hw ((netOf w).costs r) v with h | h
  · omega
  · exact h
noncomputable def wayStep (w:TreeWorld) (r:Nat):Int × Int→Option ((Int × Int) ⊕ Int):=fun s9 =>
      (if ((s9.2 != (r:Int)) && (decide (s9.1 < ((w.Bridges.length:Nat):Int))))=true then
      some (.inl (s9.1+1,(upOf w ((netOf w).costs r) s9.2.toNat).next))
      else
      some (.inr s9.1))
noncomputable def stepsOf (w:TreeWorld) (r v:Nat):Nat:=((lp (wayStep w r) (0,(v:Int))).getD 0).toNat
theorem steps_root {w:TreeWorld} {r:Nat}:stepsOf w r r=0:=by
  unfold stepsOf;rw [lp_done (b:=0) (by unfold wayStep; rw [if_neg (by simp)])]
  rfl
noncomputable def mindOf (w:TreeWorld) (b:Nat):TreeMind:=⟨⟨idAt w (rootOf w b),((netOf w).costs (rootOf w b)).getD b default,stepsOf w (rootOf w b) b⟩,if b=rootOf w b then -1 else (upOf w ((netOf w).costs (rootOf w b)) b).link⟩
theorem way {w:TreeWorld} (hw:WOk w) (hd:w.Down.length≤9223372036854775807) {r:Nat} (hr:r < w.Bridges.length) (b:Nat):∀ k v,v < w.Bridges.length→((netOf w).costs r).getD v default < far→(((netOf w).costs r).getD v default).toNat≤k →
    ∃ n:Nat,(∀ (age link:Int),0≤age→age+cntN (fun u=>decide (((netOf w).costs r).getD u default < ((netOf w).costs r).getD v default)) w.Bridges.length≤1000→((netOf w).costs r).getD v default < ((netOf w).costs r).getD b default→lp (σ:=Int × Int × Int) (β:=(Int × Int)) (fun s5 =>
      (if (s5.2.2 != (r:Int))=true then
      bd (impl_TreeWorld_uplink_m w s5.2.2 ((netOf w).costs r)) fun x9 =>
      (if (s5.2.2 == (b:Int))=true then
      some (.inl (IntKind.i64.wrap (s5.1+1),x9.1,x9.2))
      else
      some (.inl (IntKind.i64.wrap (s5.1+1),s5.2.1,x9.2)))
      else
      some (.inr (s5.1,s5.2.1)))) (age,link,(v:Int))=some (age+n,link)) ∧
    (∀ age:Int,0≤age→age+cntN (fun u=>decide (((netOf w).costs r).getD u default < ((netOf w).costs r).getD v default)) w.Bridges.length < w.Bridges.length→lp (wayStep w r) (age,(v:Int))=some (age+n)):=by
  have h8:=bridgesLen hw;have hl:((netOf w).costs r).length=w.Bridges.length:=Net.after_len;have hB:=costs_bd hw hr;intro k
  induction k with
  | zero =>
    intro v hv hn hk;have e:v=r:=Classical.byContradiction fun e=>by
      have:=up_next hw hr hv e hn;have:=bd_get hB (v:=(upOf w ((netOf w).costs r) v).next.toNat) (by omega);omega
    subst e;refine ⟨0,fun age link _ _ _=>?_,fun age _ _=>?_⟩
    · rw [lp_done (b:=(age,link)) (by rw [if_neg (by simp)])]; simp
    · rw [lp_done (b:=age) (by unfold wayStep; rw [if_neg (by simp)])]; simp
  | succ k ih =>
    intro v hv hn hk
    by_cases e:v=r
    · subst e;refine ⟨0,fun age link _ _ _=>?_,fun age _ _=>?_⟩
      · rw [lp_done (b:=(age,link)) (by rw [if_neg (by simp)])]; simp
      · rw [lp_done (b:=age) (by unfold wayStep; rw [if_neg (by simp)])]; simp
    · obtain ⟨u1,u2,u3,u4,u5,u6⟩:=up_next hw hr hv e hn;have bv:=bd_get hB (v:=v) (by omega);have bu:=bd_get hB (v:=(upOf w ((netOf w).costs r) v).next.toNat) (by omega);obtain ⟨n,n1,n2⟩:=ih (upOf w ((netOf w).costs r) v).next.toNat (by omega) (by omega) (by omega);have cl:=cntN_lt (p:=fun u=>decide (((netOf w).costs r).getD u default < ((netOf w).costs r).getD v default)) (q:=fun u=>decide (((netOf w).costs r).getD u default < ((netOf w).costs r).getD (upOf w ((netOf w).costs r) v).next.toNat default)) (n:=w.Bridges.length) (fun x _ h=>by
        simp only [decide_eq_true_eq] at h ⊢; omega) (v:=(upOf w ((netOf w).costs r) v).next.toNat) (by omega) (by simp only [decide_eq_true_eq]; exact u5) (by simp)
      have en:(((upOf w ((netOf w).costs r) v).next.toNat:Nat):Int)=(upOf w ((netOf w).costs r) v).next:=by omega
      refine ⟨n+1,fun age link h0 h1 h2=>?_,fun age h0 h1=>?_⟩
      · have hne:¬ ((v:Int) == (b:Int))=true:=by
          rw [beq_iff_eq];intro h;have:v=b:=by omega
          subst this;omega
        rw [lp_more (s':=(age+1,link,(upOf w ((netOf w).costs r) v).next))]
        · have:=n1 (age+1) link (by omega) (by omega) (by omega);rw [en] at this;rw [this];refine congrArg some (Prod.ext ?_ rfl);dsimp only;omega
        · rw [if_pos (by simp; omega)];dsimp only;rw [implUp_p hw hd hl hB (by omega) hv,bd_val,if_neg hne,wrap_i64 (by omega) (by omega)]
      · rw [lp_more (s':=(age+1,(upOf w ((netOf w).costs r) v).next))]
        · have:=n2 (age+1) (by omega) (by omega);rw [en] at this;rw [this];refine congrArg some ?_;omega
        · unfold wayStep;rw [if_pos (by simp; omega)];simp only [Int.toNat_natCast]
theorem best_impl {w:TreeWorld} (hw:WOk w) (hd:w.Down.length≤9223372036854775807) {b:Nat} (hb:b < w.Bridges.length):impl_TreeWorld_best_m w (b:Int)=some (mindOf w b):=by
  have h8:=bridgesLen hw;obtain ⟨r1,r2⟩:=rootOf_in hw hb;have h0:=((netOf w).inv_after (netOk hw) (r:=rootOf w b) (k:=(netOf w).n) r1).root;have h0b:=((netOf w).inv_after (netOk hw) (r:=b) (k:=(netOf w).n) hb).root;have hn:((netOf w).costs (rootOf w b)).getD b default < far:=(netOf w).back (netOk hw) (Nat.le_trans (netSize hw) (by decide)) hb r1 (v:=rootOf w b) r1 (by simpa [near] using r2) (by
    unfold Net.costs;rw [h0]; decide)
  unfold impl_TreeWorld_best_m mindOf;rw [implRoot_p hw hd hb,bd_val,implCosts_p hw hd r1,bd_val];have hl:((netOf w).costs (rootOf w b)).length=w.Bridges.length:=Net.after_len;have hB:=costs_bd hw r1;rw [gd_pos (by omega),gd_pos (by omega),Int.toNat_natCast,Int.toNat_natCast];generalize hr:rootOf w b=r at *
  by_cases e:b=r
  · subst e;rw [lp_done (b:=(0,-1)) (by rw [if_neg (by simp)]),bd_val,steps_root,if_pos rfl]
    rfl
  · obtain ⟨u1,u2',u3,u4,u5,u6⟩:=up_next hw r1 hb e hn;obtain ⟨n,n1,n2⟩:=way hw hd r1 b _ (upOf w ((netOf w).costs r) b).next.toNat (by omega) (by omega) (Nat.le_refl _);have en:(((upOf w ((netOf w).costs r) b).next.toNat:Nat):Int)=(upOf w ((netOf w).costs r) b).next:=by omega
    have cl:=cntN_lt (p:=fun u=>decide (((netOf w).costs r).getD u default < ((netOf w).costs r).getD b default)) (q:=fun u=>decide (((netOf w).costs r).getD u default < ((netOf w).costs r).getD (upOf w ((netOf w).costs r) b).next.toNat default)) (n:=w.Bridges.length) (fun x _ h=>by
      simp only [decide_eq_true_eq] at h ⊢; omega) (v:=(upOf w ((netOf w).costs r) b).next.toNat) (by omega) (by simp only [decide_eq_true_eq]; exact u5) (by simp)
    have cm:=cntN_lt (p:=fun _=>true) (q:=fun u=>decide (((netOf w).costs r).getD u default < ((netOf w).costs r).getD b default)) (n:=w.Bridges.length) (fun _ _ _=>rfl) (v:=b) hb rfl (by simp);have cx:=cntN_max (p:=fun _=>true) (n:=w.Bridges.length);have n1:=n1 1 (upOf w ((netOf w).costs r) b).link (by omega) (by omega) u5;have n2:=n2 1 (by omega) (by omega);rw [en] at n1 n2;have e0:lp (wayStep w r) (0,(b:Int))=some (1+(n:Int)):=by
      rw [lp_more (s':=(1,(upOf w ((netOf w).costs r) b).next)) (by
        unfold wayStep;rw [if_pos (by simp; omega)];simp only [Int.toNat_natCast]
        rfl),n2]
    have es:((stepsOf w r b:Nat):Int)=1+(n:Int):=by
      unfold stepsOf;rw [e0];show (((1+(n:Int)).toNat:Nat):Int)=_;omega
    rw [es,if_neg e];rw [lp_more (s':=(1,(upOf w ((netOf w).costs r) b).link,(upOf w ((netOf w).costs r) b).next)) (by
      rw [if_pos (by simp; omega)];dsimp only;rw [implUp_p hw hd hl hB (by omega) hb,bd_val,if_pos (by simp)]
      rfl),n1,bd_val]
    rfl
noncomputable def bestFn (w:TreeWorld) (b:Nat):TreeMind:=(impl_TreeWorld_best_m w (b:Int)).getD default
theorem implBest_p {w:TreeWorld} (hw:WOk w) (hd:w.Down.length≤9223372036854775807) {b:Nat} (hb:b < w.Bridges.length):impl_TreeWorld_best_m w (b:Int)=some (bestFn w b):=by
  unfold bestFn;rw [best_impl hw hd hb]; rfl
def noMind:TreeMind:=⟨⟨0,0,0⟩,0⟩
noncomputable def mindFor (w:TreeWorld) (b:Nat):TreeMind:=if (w.Bridges.getD b default).Up=true then bestFn w b else noMind
noncomputable def treeBest (w:TreeWorld):List TreeMind:=if worldOk w=true then (List.range w.Bridges.length).map (mindFor w) else []
theorem mapR_succ {α:Type} {f:Nat→α} {n:Nat}:(List.range (n+1)).map f=(List.range n).map f ++ [f n]:=by simp [List.range_succ]
theorem bests_p {w:TreeWorld} {step:List TreeMind × Int→Option ((List TreeMind × Int) ⊕ (Nat × List TreeMind))} (hn:w.Bridges.length≤8)
    (h1:∀ (i:Nat) (xs:List TreeMind),i < w.Bridges.length→xs.length=i→step (xs,(i:Int))=some (.inl (xs ++ [mindFor w i],((i+1:Nat):Int)))) (h2:∀ xs:List TreeMind,step (xs,(w.Bridges.length:Int))=some (.inr (xs.length,xs))) :
    lp step ([],0)=some (w.Bridges.length,(List.range w.Bridges.length).map (mindFor w)):=by
  have:=lp_at (step:=step) w.Bridges.length (fun i=>((List.range i).map (mindFor w),(i:Int))) (w.Bridges.length,(List.range w.Bridges.length).map (mindFor w)) (fun i hi=>by
    rw [h1 i _ hi (by simp),mapR_succ]) (by rw [h2]; simp)
  exact this
theorem implBests_p {w:TreeWorld} (hw:WOk w) (hd:w.Down.length≤9223372036854775807):impl_TreeWorld_bests_m w=some ((List.range w.Bridges.length).map (mindFor w)):=by
  have h8:=bridgesLen hw;unfold impl_TreeWorld_bests_m;rw [bests_p h8 (fun i xs hi hx=>?_) (fun xs=>by rw [if_neg (by simp)]),bd_val];rw [if_pos (by simp; omega),gd_pos (by dsimp only; omega)];dsimp only;rw [implBest_p hw hd hi,wrap_succ hi (by omega),Int.toNat_natCast];unfold mindFor
  cases (w.Bridges.getD i default).Up
  · rw [if_neg (by decide),gd_pos (by simp; omega)]; rfl
  · rw [if_pos rfl,bd_val,gd_pos (by simp; omega)]; rfl
end Go.Proofs.YtejhbiefhpgjeaaGreat
