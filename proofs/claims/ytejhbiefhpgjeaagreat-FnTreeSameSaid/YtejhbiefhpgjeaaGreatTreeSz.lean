/-
  Plain Lean: what the reference's steps do, and that they leave a world ok.
-/
import Derived.Test.YtejhbiefhpgjeaaGreatKz5
import Derived.Test.YtejhbiefhpgjeaaGreatTreeAz
import Derived.Test.YtejhbiefhpgjeaaGreatTreeP5z
import Derived.Test.YtejhbiefhpgjeaaGreatTreeCpz
set_option linter.all false
namespace Go.Proofs.YtejhbiefhpgjeaaGreat
open Go Go.Ab
set_option maxHeartbeats 400000
structure Good (w:TreeWorld):Prop where
  link:linksOk w.Bridges.length w.Links=true
  br:∀ i,i < w.Bridges.length→bridgeOk w i=true
  a:w.AtA.length=w.Links.length
  b:w.AtB.length=w.Links.length
  rl:w.Radio.length≤12
  down:∀ i,i < w.Down.length→downAt w i=true
  radio:∀ i,i < w.Radio.length→wordOk w (w.Radio.getD i default)=true
  ends:∀ i,i < w.Links.length→endsOk w i=true
theorem good_iff {w:TreeWorld}:worldOk w=true ↔ Good w:=by
  simp only [worldOk,radioOk,Bool.and_eq_true,decide_eq_true_eq,allR_iff]
  constructor
  · rintro ⟨⟨⟨⟨⟨a1,a2⟩,⟨a3,a4⟩,a5⟩,a6⟩,a7⟩,a8⟩;exact ⟨a1,a2,a3,a4,a5,a6,a7,a8⟩
  · rintro ⟨a1,a2,a3,a4,a5,a6,a7,a8⟩;exact ⟨⟨⟨⟨⟨a1,a2⟩,⟨a3,a4⟩,a5⟩,a6⟩,a7⟩,a8⟩
theorem Good.l12 {w:TreeWorld} (h:Good w):w.Links.length≤12:=(linksOk_len h.link).2
theorem Good.n8 {w:TreeWorld} (h:Good w):w.Bridges.length≤8:=by have:=(linksOk_len h.link).1; omega
theorem Good.wok {w:TreeWorld} (h:Good w):WOk w:=⟨by have:=h.l12; omega,h.link,h.a,h.b,fun i hi=>by
  have:=h.ends i hi;simp only [endsOk,endOk,Bool.and_eq_true] at this;exact ⟨this.1.1,this.2.1⟩,h.br⟩
theorem downAt_iff {w:TreeWorld} {i:Nat}:downAt w i=true ↔ (0≤w.Down.getD i default∧w.Down.getD i default≤(w.Links.length:Int) - 1)∧(0 < i→w.Down.getD (i - 1) default < w.Down.getD i default):=by
  unfold downAt isLink;rw [Bool.and_eq_true,inR_iff,Bool.not_eq_true',Bool.and_eq_false_imp];simp only [decide_eq_true_eq,decide_eq_false_iff_not];refine and_congr Iff.rfl ⟨fun h hi=>by have:=h hi; omega,fun h hi=>by have:=h hi; omega⟩
theorem Good.downGe {w:TreeWorld} (h:Good w):∀ i,i < w.Down.length→(i:Int)≤w.Down.getD i default
  | 0,hi=>by have:=(downAt_iff.1 (h.down 0 hi)).1.1; simpa using this
  | i+1,hi=>by
    have:=h.downGe i (by omega);have h2:=(downAt_iff.1 (h.down (i+1) hi)).2 (by omega);rw [Nat.add_sub_cancel] at h2;omega
theorem Good.d12 {w:TreeWorld} (h:Good w):w.Down.length≤w.Links.length:=by
  refine Nat.le_of_not_lt fun hl=>?_;have h1:=h.downGe _ hl;have h2:=(downAt_iff.1 (h.down _ hl)).1.2;omega
theorem Good.len {w:TreeWorld} (h:Good w):w.Len 12:=by
  have:=h.l12;have:=h.n8;have:=h.d12;exact ⟨by omega,by omega,by omega,by rw [h.a]; omega,by rw [h.b]; omega,h.rl⟩
def TSt.In2 (w:TreeWorld) (s:TSt):Prop:=0≤s.age∧s.age≤10∧-1≤s.link∧s.link < w.Links.length
theorem cand_in2 {w:TreeWorld} {i:Nat} {st:TSt} {v:TreeVector} {o:Int} (hi:i < w.Links.length) (hv:vecOk v=true) (h:st.In2 w):(cand w i st v o).In2 w:=by
  have hv:=vec_in hv;unfold cand;split
  · exact h
  · rename_i h1;simp only [Bool.or_eq_true,decide_eq_true_eq] at h1;split
    · exact ⟨by dsimp only; omega,by dsimp only; omega,by dsimp only; omega,by dsimp only; omega⟩
    · exact h
theorem think_in {w:TreeWorld} (hw:WOk w) {i0:Int} (h:0≤i0∧i0 < w.Bridges.length):(thinkSt w i0).In∧(thinkSt w i0).In2 w:=by
  have key:∀ j,j≤w.Links.length→((List.range j).foldl (linkStep w i0) ⟨(w.Bridges.getD i0.toNat default).Id,0,0,-1,0⟩).In∧TSt.In2 w ((List.range j).foldl (linkStep w i0) ⟨(w.Bridges.getD i0.toNat default).Id,0,0,-1,0⟩):=by
    intro j
    induction j with
    | zero=>exact fun _=>⟨self_in hw h,Int.le_refl _,(show (0:Int)≤10 by decide),Int.le_refl _,(show (-1:Int) < (w.Links.length:Int) by omega)⟩
    | succ j ih =>
      intro hj;obtain ⟨i1,i2⟩:=ih (by omega);rw [List.range_succ,List.foldl_append];refine ⟨link_in hw (by omega) i0 i1,?_⟩;have e:∀ (e:Nat) (s:TSt),s.In2 w→(endStep w i0 j s e).In2 w:=fun e s hs=>by
        unfold endStep;split
        · exact cand_in2 (by omega) (hw.vec (by omega) _) hs
        · exact hs
      exact e 1 _ (e 0 _ i2)
  exact key _ (Nat.le_refl _)
def MindOk (w:TreeWorld) (m:TreeMind):Prop:=vecOk m.Vector=true∧nothing m.Vector=false∧inR m.Link (-1) ((w.Links.length:Int) - 1)=true
theorem vec_ok {r c g:Int} (h1:1≤r∧r≤1000) (h2:0≤c∧c≤1000) (h3:0≤g∧g≤10):vecOk ⟨r,c,g⟩=true∧nothing ⟨r,c,g⟩=false:=by
  refine ⟨?_,?_⟩
  · unfold vecOk;rw [inR_iff.2 h1,inR_iff.2 h2,inR_iff.2 h3];simp
  · unfold nothing;rw [Bool.and_eq_false_imp];intro e;simp only [beq_iff_eq] at e;omega
theorem think_ok {w:TreeWorld} (hw:WOk w) {i0:Int} (h:0≤i0∧i0 < w.Bridges.length):MindOk w (think w i0):=by
  obtain ⟨⟨a1,a2,a3,a4⟩,b1,b2,b3,b4⟩:=think_in hw h;obtain ⟨v1,v2⟩:=vec_ok ⟨a1,a2⟩ ⟨a3,a4⟩ ⟨b1,b2⟩;exact ⟨v1,v2,inR_iff.2 ⟨b3,by show (thinkSt w i0).link≤_; omega⟩⟩
def setBr (w:TreeWorld) (b:Nat) (x:TreeBridge):TreeWorld:={ w with Bridges:=w.Bridges.set b x }
def upAt (w:TreeWorld) (b:Int):Bool:=(w.Bridges.getD b.toNat default).Up
theorem bridge_iff {w:TreeWorld} {i:Nat}:bridgeOk w i=true ↔ (1≤(w.Bridges.getD i default).Id∧(w.Bridges.getD i default).Id≤1000)∧(∀ k,k < i→(w.Bridges.getD k default).Id ≠ (w.Bridges.getD i default).Id) ∧
    (if (w.Bridges.getD i default).Up=true then MindOk w (w.Bridges.getD i default).Mind else mindZero (w.Bridges.getD i default).Mind=true):=by
  unfold bridgeOk MindOk;rw [Bool.and_eq_true,Bool.and_eq_true,inR_iff,allR_iff,and_assoc];refine and_congr Iff.rfl (and_congr ?_ ?_)
  · refine forall_congr' fun k=>forall_congr' fun _=>?_;simp
  · split
    · rw [Bool.and_eq_true,Bool.and_eq_true,Bool.not_eq_true',and_assoc]
    · exact Iff.rfl
theorem getD_setB {w:TreeWorld} {b:Nat} {x:TreeBridge} (hb:b < w.Bridges.length) (k:Nat):(setBr w b x).Bridges.getD k default=if k=b then x else w.Bridges.getD k default:=by
  unfold setBr
  by_cases h:k=b
  · subst h; rw [if_pos rfl]; exact getD_set hb
  · rw [if_neg h];simp [List.getD_eq_getElem?_getD,List.getElem?_set,Ne.symm h]
theorem good_setBr {w:TreeWorld} (h:Good w) {b:Nat} (hb:b < w.Bridges.length) {x:TreeBridge} (hid:x.Id=(w.Bridges.getD b default).Id) (hm:if x.Up=true then MindOk w x.Mind else mindZero x.Mind=true) (he:∀ i,i < w.Links.length→endsOk (setBr w b x) i=true):Good (setBr w b x):=by
  have hl:(setBr w b x).Bridges.length=w.Bridges.length:=by simp [setBr]
  have ids:∀ k,((setBr w b x).Bridges.getD k default).Id=(w.Bridges.getD k default).Id:=fun k=>by
    rw [getD_setB hb];split
    · rename_i e; rw [hid,e]
    · rfl
  refine ⟨by rw [hl]; exact h.link,fun i hi=>?_,h.a,h.b,h.rl,h.down,h.radio,he⟩;rw [hl] at hi;have hi':=bridge_iff.1 (h.br i hi);refine bridge_iff.2 ⟨by rw [ids]; exact hi'.1,fun k hk=>by rw [ids,ids]; exact hi'.2.1 k hk,?_⟩;rw [getD_setB hb];split
  · exact hm
  · exact hi'.2.2
theorem endOk_up {w w':TreeWorld} {i:Nat} {s:TreeSlot} {b:Int} (hd:w'.Down=w.Down) (hu:upAt w b=true→upAt w' b=true) (h:endOk w i s b=true):endOk w' i s b=true:=by
  unfold endOk at h ⊢;rw [Bool.and_eq_true,Bool.or_eq_true,Bool.and_eq_true] at h ⊢;rw [hd];exact ⟨h.1,h.2.imp id fun h=>⟨h.1,hu h.2⟩⟩
theorem good_mind {w:TreeWorld} (h:Good w) {b:Nat} (hb:b < w.Bridges.length) (hu:(w.Bridges.getD b default).Up=true) {m:TreeMind} (hm:MindOk w m):Good (setBr w b { (w.Bridges.getD b default) with Mind:=m }):=by
  refine good_setBr h hb rfl (by rw [if_pos hu]; exact hm) fun i hi=>?_;have he:=h.ends i hi;unfold endsOk at he ⊢;rw [Bool.and_eq_true] at he ⊢;have up:∀ c:Int,upAt w c=true→upAt (setBr w b { (w.Bridges.getD b default) with Mind:=m }) c=true:=fun c hc=>by
    unfold upAt at hc ⊢;rw [getD_setB hb];split
    · exact hu
    · exact hc
  exact ⟨endOk_up (w:=w) rfl (up _) he.1,endOk_up (w:=w) rfl (up _) he.2⟩
def thinks (w:TreeWorld) (b:Nat):TreeWorld:=if (w.Bridges.getD b default).Up=true then setBr w b { (w.Bridges.getD b default) with Mind:=think w (b:Int) } else w
theorem good_thinks {w:TreeWorld} (h:Good w) {b:Nat} (hb:b < w.Bridges.length):Good (thinks w b):=by
  unfold thinks;split
  · rename_i hu;exact good_mind h hb hu (think_ok h.wok (by omega))
  · exact h
theorem thinks_q {w:TreeWorld} (h:WOk w) {b:Nat} (hb:b < w.Bridges.length):spec_l83Thinks_m w (b:Int)=some (thinks w b):=by
  unfold spec_l83Thinks_m thinks;rw [gd_pos (by omega),Int.toNat_natCast];split
  · rw [specThink_p h (by omega),bd_val,gd_pos (by omega)]; rfl
  · rfl
theorem thinks_p {w:TreeWorld} (h:Good w) {b:Nat} (hb:b < w.Bridges.length):spec_l83Thinks_m w (b:Int)=some (thinks w b):=thinks_q h.wok hb
structure Same (w w':TreeWorld):Prop where
  n:w'.Bridges.length=w.Bridges.length
  links:w'.Links=w.Links
theorem Same.refl (w:TreeWorld):Same w w:=⟨rfl,rfl⟩
theorem Same.trans {u v w:TreeWorld} (h:Same u v) (k:Same v w):Same u w:=⟨k.n.trans h.n,k.links.trans h.links⟩
theorem same_thinks {w:TreeWorld} {b:Nat}:Same w (thinks w b):=by
  unfold thinks;split
  · exact ⟨by simp [setBr],rfl⟩
  · exact .refl _
def setSlot (w:TreeWorld) (i:Nat) (e:Int) (s:TreeSlot):TreeWorld:=if e=0 then { w with AtA:=w.AtA.set i s } else { w with AtB:=w.AtB.set i s }
theorem getD_setS {xs:List TreeSlot} {i k:Nat} {s:TreeSlot} (hi:i < xs.length):(xs.set i s).getD k default=if k=i then s else xs.getD k default:=by
  by_cases h:k=i
  · subst h; rw [if_pos rfl]; exact getD_set hi
  · rw [if_neg h];simp [List.getD_eq_getElem?_getD,List.getElem?_set,Ne.symm h]
theorem good_setSlot {w:TreeWorld} (h:Good w) {i:Nat} (hi:i < w.Links.length) {e:Int} {s:TreeSlot} (hs:endOk w i s (brAt w i e)=true):Good (setSlot w i e s):=by
  have ha:=h.a;have hb:=h.b;unfold setSlot;split
  · rename_i e0;refine ⟨h.link,h.br,by simp [h.a],h.b,h.rl,h.down,h.radio,fun k hk=>?_⟩;have he:=h.ends k hk;unfold endsOk at he ⊢;rw [Bool.and_eq_true] at he ⊢;refine ⟨?_,he.2⟩;rw [getD_setS (by omega)];split
    · rename_i ek; subst ek;have:brAt w k e=(w.Links.getD k default).A:=if_pos e0;rw [this] at hs; exact hs
    · exact he.1
  · rename_i e0;refine ⟨h.link,h.br,h.a,by simp [h.b],h.rl,h.down,h.radio,fun k hk=>?_⟩;have he:=h.ends k hk;unfold endsOk at he ⊢;rw [Bool.and_eq_true] at he ⊢;refine ⟨he.1,?_⟩;rw [getD_setS (by omega)];split
    · rename_i ek; subst ek;have:brAt w k e=(w.Links.getD k default).B:=if_neg e0;rw [this] at hs; exact hs
    · exact he.2
theorem same_setSlot {w:TreeWorld} {i:Nat} {e:Int} {s:TreeSlot}:Same w (setSlot w i e s):=by
  unfold setSlot;split <;> exact ⟨rfl,rfl⟩
theorem empty_end (w:TreeWorld) (i:Nat) (b:Int):endOk w i ⟨⟨0,0,0⟩,0⟩ b=true:=rfl
def hear (w:TreeWorld) (x:TreeWord):TreeWorld :=
  if hasI w.Down x.Link=true ∨ upAt w (brAt w x.Link.toNat x.End)=false then w else thinks (setSlot w x.Link.toNat x.End ⟨x.Vector,3⟩) (brAt w x.Link.toNat x.End).toNat
theorem word_iff {w:TreeWorld} {x:TreeWord}:wordOk w x=true ↔ (0≤x.Link∧x.Link≤(w.Links.length:Int) - 1)∧(0≤x.End∧x.End≤1)∧vecOk x.Vector=true∧nothing x.Vector=false:=by
  unfold wordOk isLink;rw [Bool.and_eq_true,Bool.and_eq_true,Bool.and_eq_true,inR_iff,inR_iff,Bool.not_eq_true',and_assoc,and_assoc]
theorem slot3 {v:TreeVector} (h1:vecOk v=true) (h2:nothing v=false):slotOk ⟨v,3⟩=true:=by
  unfold slotOk;rw [h1,h2]; rfl
theorem good_hear {w:TreeWorld} (h:Good w) {x:TreeWord} (hx:wordOk w x=true):Good (hear w x):=by
  obtain ⟨h1,h2,h3,h4⟩:=word_iff.1 hx;unfold hear;split
  · exact h
  · rename_i hc;have hd:hasI w.Down x.Link=false:=Bool.eq_false_iff.2 fun e=>hc (.inl e);have hu:upAt w (brAt w x.Link.toNat x.End)=true:=by
      cases e:upAt w (brAt w x.Link.toNat x.End)
      · exact absurd (.inr e) hc
      · rfl
    have hi:x.Link.toNat < w.Links.length:=by omega
    have el:((x.Link.toNat:Nat):Int)=x.Link:=by omega
    have hb:=linkAt h.link hi;have g:=good_setSlot (e:=x.End) h hi (s:=⟨x.Vector,3⟩) (by
      unfold endOk;rw [slot3 h3 h4,el,hd];unfold upAt at hu;rw [hu]; simp)
    refine good_thinks g ?_;rw [same_setSlot.n];unfold brAt;split <;> omega
theorem same_hear {w:TreeWorld} {x:TreeWord}:Same w (hear w x):=by
  unfold hear;split
  · exact .refl _
  · exact same_setSlot.trans same_thinks
theorem hear_p {w:TreeWorld} (h:Good w) {x:TreeWord} (hx:wordOk w x=true):spec_l83Hear_m w x=some (hear w x):=by
  obtain ⟨h1,h2,h3,h4⟩:=word_iff.1 hx;have hi:x.Link.toNat < w.Links.length:=by omega
  have hb:=linkAt h.link hi;have ha:=h.a;have hb':=h.b;have hl:=h.len.d;have hbr:0≤brAt w x.Link.toNat x.End∧brAt w x.Link.toNat x.End < w.Bridges.length:=by unfold brAt; split <;> omega
  have e1:spec_l83End_m w x.Link x.End=some (brAt w x.Link.toNat x.End):=by
    unfold spec_l83End_m brAt;rw [gd_pos (by omega),gd_pos (by omega)]
    by_cases e:x.End=0
    · rw [if_pos (by simp [e]),if_pos e]
    · rw [if_neg (by simp [e]),if_neg e]
  unfold spec_l83Hear_m hear;rw [e1,bd_val,l82Has_p (by omega),bd_val,gd_pos (fun _=>hbr)]
  by_cases hc:hasI w.Down x.Link=true ∨ upAt w (brAt w x.Link.toNat x.End)=false
  · rw [if_pos hc,if_pos];rw [Bool.or_eq_true,Bool.not_eq_true'];exact hc
  · have g:Good (setSlot w x.Link.toNat x.End ⟨x.Vector,3⟩):=by
      have hd:hasI w.Down x.Link=false:=Bool.eq_false_iff.2 fun e=>hc (.inl e);have hu:upAt w (brAt w x.Link.toNat x.End)=true:=by
        cases e:upAt w (brAt w x.Link.toNat x.End)
        · exact absurd (.inr e) hc
        · rfl
      have el:((x.Link.toNat:Nat):Int)=x.Link:=by omega
      exact good_setSlot (e:=x.End) h hi (s:=⟨x.Vector,3⟩) (by
        unfold endOk;rw [slot3 h3 h4,el,hd];unfold upAt at hu;rw [hu]; simp)
    have tp:=thinks_p g (b:=(brAt w x.Link.toNat x.End).toNat) (by rw [same_setSlot.n]; omega);have eb:(((brAt w x.Link.toNat x.End).toNat:Nat):Int)=brAt w x.Link.toNat x.End:=by omega
    rw [eb] at tp;rw [if_neg hc,if_neg (by rw [Bool.or_eq_true,Bool.not_eq_true']; exact hc),gd_pos (by omega),gd_pos (by omega)];unfold setSlot at tp ⊢
    by_cases e:x.End=0
    · rw [if_pos e] at tp ⊢;rw [if_pos (by simp [e]),tp,bd_val]
    · rw [if_neg e] at tp ⊢;rw [if_neg (by simp [e]),tp,bd_val]
end Go.Proofs.YtejhbiefhpgjeaaGreat
