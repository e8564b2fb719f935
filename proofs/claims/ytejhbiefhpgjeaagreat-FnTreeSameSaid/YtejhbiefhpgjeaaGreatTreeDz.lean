/-
  Plain Lean: the draws of worlds always give something.
-/
import Derived.Test.YtejhbiefhpgjeaaGreatKz5
import Derived.Test.YtejhbiefhpgjeaaGreatTreeOz
import Derived.Test.YtejhbiefhpgjeaaGreatTreeS4z
set_option linter.all false
namespace Go.Proofs.YtejhbiefhpgjeaaGreat
open Go Go.Ab
set_option maxHeartbeats 400000
theorem good_start {ids:List Int} {ls:List TreeLink} (h1:IdsDrawn ids) (h2:LinksDrawn (ids.length:Int) ls) (h3:1≤ids.length∧ids.length≤8):Good (openWorld ids ls).1∧(openWorld ids ls).1.Bridges.length=ids.length:=by
  have hl:linksOk ids.length ls=true:=by
    unfold linksOk;rw [inR_iff.2 ⟨by omega,by omega⟩,decide_eq_true h2.1,allR_of fun i hi=>h2.2 _ (getD_mem hi)]
    rfl
  have hi:idsOk ids ids.length=true:=allR_of fun i hi=>by
    rw [Bool.and_eq_true];refine ⟨inR_iff.2 (h1.lo _ (getD_mem hi)),allR_of fun k hk=>?_⟩;rw [Bool.not_eq_true',beq_eq_false_iff_ne];have:=List.pairwise_iff_getElem.1 h1.ne k i (by omega) hi hk;rw [List.getD_eq_getElem?_getD,List.getD_eq_getElem?_getD,List.getElem?_eq_getElem hi,List.getElem?_eq_getElem (by omega:k < ids.length)];exact this
  have hw:worldOk (newWorld ids ls)=true:=(newOk hl).trans hi;have e:(openWorld ids ls).1=newWorld ids ls:=by unfold openWorld; rw [if_pos ⟨hl,hw⟩]
  rw [e];exact ⟨good_iff.1 hw,by simp [newWorld]⟩
theorem start_post {r:l81Rd} {k:Int} (h:RdOk r k) (hk:k≤1099510000000):Post (spec_l85Start_m r) fun x=>Good x.1∧RdOk ⟨r.b,x.2.p⟩ (k+100):=by
  unfold spec_l85Start_m;refine .bd (pick_post h (by omega) (by omega)) fun x1 ⟨g1,h1⟩=>.gd ⟨g1.1,by simpa using g1.2⟩ ?_;have hn:1≤([2,3,4,5,6,8,1]:List Int).getD x1.1.toNat default∧([2,3,4,5,6,8,1]:List Int).getD x1.1.toNat default≤8:=by
    have:x1.1=0 ∨ x1.1=1 ∨ x1.1=2 ∨ x1.1=3 ∨ x1.1=4 ∨ x1.1=5 ∨ x1.1=6:=by omega
    rcases this with e | e | e | e | e | e | e <;> rw [e] <;> decide
  generalize ([2,3,4,5,6,8,1]:List Int).getD x1.1.toNat default=n at *;refine .bd (ids_post h1 (by omega) (by omega) (by omega)) fun x3 ⟨⟨l3,g3⟩,h3⟩=>.bd (links_post h3 (by omega) (by omega) (by omega)) fun x4 ⟨g4,h4⟩=>?_;have hl4:=g4.1;rw [← l3] at g4;obtain ⟨g,_⟩:=good_start g3 g4 (by omega);rw [specOpen_p (by omega) (by omega),bd_val];exact .ret ⟨g,h4.mono (by omega)⟩
theorem Good.n1 {w:TreeWorld} (h:Good w):1≤w.Bridges.length:=by
  have:=h.link;simp only [linksOk,Bool.and_eq_true,inR_iff] at this;omega
theorem event_post {r:l81Rd} {k:Int} (h:RdOk r k) (hk:k≤1099510000000) {w:TreeWorld} (hw:Good w):Post (spec_l85Event_m r w) fun x=>RdOk ⟨r.b,x.2.p⟩ (k+4):=by
  have h1:=hw.n1;have h8:=hw.n8;have h12:=hw.l12;have hr:=hw.rl;have wr:IntKind.i64.wrap ((w.Radio.length:Int)+1)=w.Radio.length+1:=wrap_i64 (by omega) (by omega);unfold spec_l85Event_m;rw [wr];refine .bd (Q:=fun x=>RdOk ⟨r.b,x.1⟩ (k+1)) (.ite (fun c=>.bd (pick_post h (by omega) (by simp only [decide_eq_true_eq] at c; omega)) fun x4 ⟨_,h4⟩=>.ret h4) fun _=>.ret (h.mono (by omega))) fun x1 hx1=>?_;refine .bd (pick_post hx1 (by omega) (by omega)) fun x5 ⟨_,h5⟩=>?_;have one:∀ {n:Int} {f:Int × l81Rd→TreeEvent},1≤n→Post (bd (spec_l81Rd_pick_m (⟨r.b,x5.2.p⟩:l81Rd) n) fun x=>some (f x,(⟨r.b,x.2.p⟩:l81Rd))) fun x=>RdOk ⟨r.b,x.2.p⟩ (k+4):=fun hn=>.bd (pick_post h5 (by omega) hn) fun x ⟨_,hx⟩=>.ret (hx.mono (by omega));have bool:∀ {c:Bool} {a b:Option Bool},Post a (fun _=>True)→Post b (fun _=>True)→Post (if c=true then a else b) (fun _=>True):=fun ha hb=>.ite (fun _=>ha) fun _=>hb;refine .bd (Q:=fun _=>True) (bool (.ret trivial) (bool (.ret trivial) (bool (.ret trivial) (bool (.ret trivial) (.ret trivial))))) fun x6 _=>.ite (fun _=>one (f:=fun x=>⟨1,x1.2,x.1⟩) (by omega)) fun _=>?_;refine .bd (Q:=fun _=>True) (bool (.ret trivial) (bool (.ret trivial) (bool (.ret trivial) (.ret trivial)))) fun x10 _=>.ite (fun _=>one (f:=fun x=>⟨2,x.1,0⟩) (by omega)) fun _=>.ite (fun _=>one (f:=fun x=>⟨3,x.1,0⟩) (by omega)) fun _=>.ite (fun _=>one (f:=fun x=>⟨4,x.1,0⟩) (by omega)) fun _=>.ite (fun _=>.ret (h5.mono (by omega))) fun _=>.ite (fun _=>?_) fun _=>.ite (fun _=>one (f:=fun x=>⟨7,x.1,0⟩) (by omega)) fun _=>.ite (fun _=>.ret (h5.mono (by omega))) fun _=>.ret (h5.mono (by omega));exact .bd (pick_post h5 (by omega) (by omega)) fun x16 ⟨_,h16⟩=>.ite (fun _=>.bd (pick_post h16 (by omega) (by omega)) fun x17 ⟨_,h17⟩=>.ret (h17.mono (by omega))) fun _=>.bd (pick_post h16 (by omega) (by omega)) fun x17 ⟨_,h17⟩=>.ret (h17.mono (by omega))
theorem vec4_p (r:l81Rd) (w:TreeWorld):spec_l85Vector_r10_13_14_15_m r w=spec_l85Vector_r15_m r w:=rfl
theorem vec2_p (r:l81Rd) (w:TreeWorld):spec_l85Vector_r10_15_m r w=spec_l85Vector_r15_m r w:=rfl
theorem copyC_p (w:TreeWorld):spec_l82Copy_o00_03_05_m w=spec_l82Copy_m w:=rfl
structure Shape (w v:TreeWorld):Prop where
  n:v.Bridges.length=w.Bridges.length
  l:v.Links.length=w.Links.length
  d:v.Down.length=w.Down.length
  a:v.AtA.length=w.AtA.length
  b:v.AtB.length=w.AtB.length
  r:v.Radio.length≤12
structure Drawn (w:TreeWorld):Prop where
  n1:1≤w.Bridges.length
  n:w.Bridges.length≤100
  l:w.Links.length≤100
  d:w.Down.length≤100
  a:w.AtA.length≤100
  b:w.AtB.length≤100
  r:w.Radio.length≤100
end Go.Proofs.YtejhbiefhpgjeaaGreat
