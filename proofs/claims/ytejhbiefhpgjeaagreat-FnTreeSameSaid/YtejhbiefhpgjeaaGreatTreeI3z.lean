/-
  Plain Lean: a whole step of the program; who is up thinks what he has heard.
-/
import Derived.Test.YtejhbiefhpgjeaaGreatKz5
import Derived.Test.YtejhbiefhpgjeaaGreatTreeI2z
set_option linter.all false
namespace Go.Proofs.YtejhbiefhpgjeaaGreat
open Go Go.Ab
set_option maxHeartbeats 400000
theorem iClone_p {w:TreeWorld} (h:w.Len 1048576):impl_clone_TreeBridge_m w.Bridges=some w.Bridges∧impl_clone_TreeLink_m w.Links=some w.Links∧impl_clone_int_m w.Down=some w.Down∧impl_clone_TreeSlot_m w.AtA=some w.AtA∧impl_clone_TreeSlot_m w.AtB=some w.AtB∧impl_clone_TreeWord_m w.Radio=some w.Radio:=by
  have:=h.b;have:=h.l;have:=h.d;have:=h.a;have:=h.z;have:=h.r;unfold impl_clone_TreeBridge_m impl_clone_TreeLink_m impl_clone_int_m impl_clone_TreeSlot_m impl_clone_TreeWord_m;refine ⟨?_,?_,?_,?_,?_,?_⟩ <;> (rw [gd_pos (by omega),gd_pos (by simp; omega)]; rfl)
theorem iCopy_p {w:TreeWorld} (h:w.Len 1048576):impl_copyTree_m w=some w:=by
  obtain ⟨h1,h2,h3,h4,h5,h6⟩:=iClone_p h;unfold impl_copyTree_m;rw [h1,bd_val,h2,bd_val,h3,bd_val,h4,bd_val,h5,bd_val,h6,bd_val]
theorem words_sh (w:TreeWorld) (e:TreeEvent):words w e={ words w e with Links:=w.Links,Down:=w.Down }:=by
  unfold words;split
  · split
    · rw [hear_sh]; rfl
    · split
      · rw [put_sh]
      · rfl
  · rfl
theorem tick_sh {w:TreeWorld} (h:Good w):ticked w={ ticked w with Links:=w.Links,Down:=w.Down,Radio:=w.Radio }:=by
  have g:=glue (v:=ticked w) (brs_ticks _) (aged_good h).2;exact g.symm.trans (by rw [← g])
theorem bridge_sh {w:TreeWorld} (h:Good w) (e:TreeEvent):bridgeEv w e={ bridgeEv w e with Links:=w.Links,Down:=w.Down,Radio:=w.Radio }:=by
  unfold bridgeEv;split
  · split
    · split <;> rfl
    · obtain ⟨_,i2,_⟩:=wiped_in h e.At _ (Nat.le_refl _);have hw:wiped w e.At={ w with AtA:=(wiped w e.At).AtA,AtB:=(wiped w e.At).AtB }:=i2;rw [hw]; rfl
  · rfl
theorem links_sh {w v:TreeWorld} (h:Same w v):v={ v with Links:=w.Links }:=by rw [← h.links]
theorem iStep_p {w:TreeWorld} (h:Good w) (e:TreeEvent):impl_TreeStep_m w e=some (doEv w e):=by
  have hl:=h.len;unfold impl_TreeStep_m doEv;rw [implWorldOk_p (by have:=hl.b; omega) (by have:=hl.l; omega) (by have:=hl.d; omega) (by have:=hl.r; omega),bd_val,good_iff.2 h,if_neg (by decide),iCopy_p (Len.mono hl (by omega)),bd_val];have e2:((if (e.Kind == 2)=true then some (e.Kind == 2) else (if (e.Kind == 3)=true then some (e.Kind == 3) else some (e.Kind == 4))):Option Bool)=some (decide (e.Kind=2 ∨ e.Kind=3 ∨ e.Kind=4)):=by
    by_cases a:e.Kind=2
    · simp [a]
    · by_cases b:e.Kind=3
      · simp [b]
      · by_cases c:e.Kind=4
        · simp [c]
        · simp [a,b,c]
  have e6:((if (e.Kind == 6)=true then some (e.Kind == 6) else some (e.Kind == 7)):Option Bool)=some (decide (e.Kind=6 ∨ e.Kind=7)):=by
    by_cases a:e.Kind=6
    · simp [a]
    · by_cases b:e.Kind=7
      · simp [b]
      · simp [a,b]
  rw [e2,bd_val]
  by_cases k2:e.Kind=2 ∨ e.Kind=3 ∨ e.Kind=4
  · rw [if_pos (by simpa using k2),if_neg (show ¬ e.Kind=1 by omega),if_pos k2,iWords_p h,bd_val];exact congrArg some (words_sh w e).symm
  · rw [if_neg (by simpa using k2)]
    by_cases k5:e.Kind=5
    · rw [if_pos (by simpa using k5),if_neg (show ¬ e.Kind=1 by omega),if_neg k2,if_pos k5,iTick_p h,bd_val];exact congrArg some (tick_sh h).symm
    · rw [if_neg (by simpa using k5),e6,bd_val]
      by_cases k6:e.Kind=6 ∨ e.Kind=7
      · rw [if_pos (by simpa using k6),if_neg (show ¬ e.Kind=1 by omega),if_neg k2,if_neg k5,if_pos k6,iBridge_p h,bd_val];exact congrArg some (bridge_sh h e).symm
      · rw [if_neg (by simpa using k6),iLink_p h,bd_val];have sm:Same w (if e.Kind=1 then sayEv w e else if e.Kind=8 ∨ e.Kind=9 then linkEv w e else w):=by
          split
          · exact (say_p h e).2.2
          · split
            · exact (linkEv_good h e).2
            · exact .refl _
        have eq:(if e.Kind=1 then sayEv w e else if e.Kind=2 ∨ e.Kind=3 ∨ e.Kind=4 then words w e else if e.Kind=5 then ticked w else if e.Kind=6 ∨ e.Kind=7 then bridgeEv w e else if e.Kind=8 ∨ e.Kind=9 then linkEv w e else w)=if e.Kind=1 then sayEv w e else if e.Kind=8 ∨ e.Kind=9 then linkEv w e else w:=by
          rw [if_neg k2,if_neg k5,if_neg k6]
        rw [eq];exact congrArg some (links_sh sm).symm
theorem cand_congr {w v:TreeWorld} (hl:v.Links=w.Links) (hid:∀ k,(v.Bridges.getD k default).Id=(w.Bridges.getD k default).Id) (i:Nat) (s:TSt) (x:TreeVector) (o:Int):cand v i s x o=cand w i s x o:=by
  unfold cand;rw [hl,hid]
theorem think_congr {w v:TreeWorld} (hw:WOk w) (hv:WOk v) (hl:v.Links=w.Links) (hid:∀ k,(v.Bridges.getD k default).Id=(w.Bridges.getD k default).Id) {b:Int}
    (hA:∀ i,i < w.Links.length→(w.Links.getD i default).A=b→v.AtA.getD i default=w.AtA.getD i default)
    (hB:∀ i,i < w.Links.length→(w.Links.getD i default).B=b→v.AtB.getD i default=w.AtB.getD i default):think v b=think w b:=by
  have key:∀ j,j≤w.Links.length→∀ s,(List.range j).foldl (linkStep v b) s=(List.range j).foldl (linkStep w b) s:=by
    intro j
    induction j with
    | zero=>intro _ _; rfl
    | succ j ih =>
      intro hj s;rw [List.range_succ,List.foldl_append,List.foldl_append,ih (by omega)];show linkStep v b _ j=linkStep w b _ j;rw [link_eq hw hj,link_eq hv (by rw [hl]; exact hj),hl,cand_congr hl hid,cand_congr hl hid]
      by_cases c1:b=(w.Links.getD j default).A
      · rw [if_pos c1,if_pos c1,hA j hj c1.symm]
      · rw [if_neg c1,if_neg c1]
        by_cases c2:b=(w.Links.getD j default).B
        · rw [if_pos c2,if_pos c2,hB j hj c2.symm]
        · rw [if_neg c2,if_neg c2]
  have:thinkSt v b=thinkSt w b:=by
    unfold thinkSt;rw [hid,hl,key _ (Nat.le_refl _)]
  unfold think;rw [this]
def ThX (w:TreeWorld) (b:Nat):Prop:=∀ c,c < w.Bridges.length→c ≠ b→(w.Bridges.getD c default).Up=true→(w.Bridges.getD c default).Mind=think w (c:Int)
def Th (w:TreeWorld):Prop:=∀ c,c < w.Bridges.length→(w.Bridges.getD c default).Up=true→(w.Bridges.getD c default).Mind=think w (c:Int)
theorem Th.x {w:TreeWorld} (h:Th w) (b:Nat):ThX w b:=fun c hc _ hu=>h c hc hu
theorem id_thinks {w:TreeWorld} {b:Nat} (hb:b < w.Bridges.length) (k:Nat):((thinks w b).Bridges.getD k default).Id=(w.Bridges.getD k default).Id:=by
  unfold thinks;split
  · rw [getD_setB hb];split
    · rename_i e; rw [e]
    · rfl
  · rfl
theorem wok_thinks {w:TreeWorld} (h:WOk w) {b:Nat} (hb:b < w.Bridges.length):think (thinks w b)=think w:=by
  funext c
  unfold think thinkSt;have e1:(thinks w b).Links=w.Links:=same_thinks.links;have e2:∀ j s,(List.range j).foldl (linkStep (thinks w b) c) s=(List.range j).foldl (linkStep w c) s:=by
    intro j
    induction j with
    | zero=>intro _; rfl
    | succ j ih =>
      intro s;rw [List.range_succ,List.foldl_append,List.foldl_append,ih];show linkStep (thinks w b) c _ j=linkStep w c _ j;unfold linkStep endStep;have es:∀ e,slotAt (thinks w b) j e=slotAt w j e:=fun e=>by unfold slotAt; rw [thinks_sh]
      have eb:∀ e,brAt (thinks w b) j e=brAt w j e:=fun e=>by unfold brAt; rw [e1]
      simp only [es,eb,cand_congr e1 (id_thinks hb)]
  rw [id_thinks hb,e1,e2]
theorem th_thinks {w:TreeWorld} (h:WOk w) {b:Nat} (hb:b < w.Bridges.length) (hx:ThX w b):Th (thinks w b):=by
  intro c hc hu;rw [wok_thinks h hb];rw [same_thinks.n] at hc;have up:=up_thinks (w:=w) hb (c:Int);unfold upAt at up;rw [Int.toNat_natCast] at up;rw [up] at hu
  by_cases e:c=b
  · subst e;unfold thinks;rw [if_pos hu,getD_setB hb,if_pos rfl]
  · rw [← hx c hc e hu];unfold thinks;split
    · rw [getD_setB hb,if_neg e]
    · rfl
theorem thx_slot {w:TreeWorld} (h:WOk w) {i:Nat} (hi:i < w.Links.length) {e:Int} {s:TreeSlot} (hv:WOk (setSlot w i e s)) {b:Nat} (hb:brAt w i e=(b:Int)) (ht:ThX w b):ThX (setSlot w i e s) b:=by
  intro c hc hne hu;have hA:=h.a;have hB:=h.b;rw [same_setSlot.n] at hc;have eb:(setSlot w i e s).Bridges=w.Bridges:=by unfold setSlot; split <;> rfl
  rw [eb] at hu ⊢;rw [ht c hc hne hu];refine (think_congr h hv same_setSlot.links (fun k=>by rw [eb]) (fun k hk ek=>?_) (fun k hk ek=>?_)).symm
  · unfold setSlot brAt at *
    by_cases e0:e=0
    · rw [if_pos e0] at hb ⊢;rw [getD_setS (by omega),if_neg (fun ekk=>by subst ekk; rw [ek] at hb; exact hne (Int.ofNat.inj hb))]
    · rw [if_neg e0]
  · unfold setSlot brAt at *
    by_cases e0:e=0
    · rw [if_pos e0]
    · rw [if_neg e0] at hb ⊢;rw [getD_setS (by omega),if_neg (fun ekk=>by subst ekk; rw [ek] at hb; exact hne (Int.ofNat.inj hb))]
theorem th_hear {w:TreeWorld} (h:Good w) (ht:Th w) {x:TreeWord} (hx:wordOk w x=true):Th (hear w x):=by
  obtain ⟨h1,h2,h3,h4⟩:=word_iff.1 hx;have hi:x.Link.toNat < w.Links.length:=by omega
  have el:((x.Link.toNat:Nat):Int)=x.Link:=by omega
  have hbr:=brAt_in' h hi x.End;unfold hear
  by_cases hc:hasI w.Down x.Link=true ∨ upAt w (brAt w x.Link.toNat x.End)=false
  · rw [if_pos hc]; exact ht
  · rw [if_neg hc];have g:Good (setSlot w x.Link.toNat x.End ⟨x.Vector,3⟩):=by
      have hd:hasI w.Down x.Link=false:=Bool.eq_false_iff.2 fun e=>hc (.inl e);have hu:upAt w (brAt w x.Link.toNat x.End)=true:=by
        cases e:upAt w (brAt w x.Link.toNat x.End)
        · exact absurd (.inr e) hc
        · rfl
      exact good_setSlot (e:=x.End) h hi (s:=⟨x.Vector,3⟩) (by
        unfold endOk;rw [slot3 h3 h4,el,hd];unfold upAt at hu;rw [hu]; simp)
    exact th_thinks g.wok (by rw [same_setSlot.n]; omega) (thx_slot h.wok hi g.wok (by omega) (ht.x _))
end Go.Proofs.YtejhbiefhpgjeaaGreat
