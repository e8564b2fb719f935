/-
  Plain Lean: rounds of calm: the program's and the reference's are the same function; the row FnTreeRounds.
-/
import Derived.Test.YtejhbiefhpgjeaaGreatKz5
import Derived.Test.YtejhbiefhpgjeaaGreatTreeI3z
import Derived.Test.YtejhbiefhpgjeaaGreatTreeOz
import Derived.Test.YtejhbiefhpgjeaaGreatTreeDz
import Derived.Test.YtejhbiefhpgjeaaGreatTreeD2z
set_option linter.all false
namespace Go.Proofs.YtejhbiefhpgjeaaGreat
open Go Go.Ab
set_option maxHeartbeats 400000
theorem hear_down (w:TreeWorld) (x:TreeWord):(hear w x).Down=w.Down:=by rw [hear_sh]
theorem words_down (w:TreeWorld) (e:TreeEvent):(words w e).Down=w.Down:=by rw [words_sh]
theorem tick_down {w:TreeWorld} (h:Good w):(ticked w).Down=w.Down:=by rw [tick_sh h]
structure Kp (w v:TreeWorld):Prop where
  g:Good v
  s:Same w v
  d:v.Down=w.Down
theorem Kp.refl {w:TreeWorld} (h:Good w):Kp w w:=⟨h,.refl _,rfl⟩
theorem Kp.trans {u v w:TreeWorld} (h:Kp u v) (k:Kp v w):Kp u w:=⟨k.g,h.s.trans k.s,k.d.trans h.d⟩
theorem glue4 {w v:TreeWorld} (h1:v.Links=w.Links) (h2:v.Down=w.Down):({ w with Bridges:=v.Bridges,AtA:=v.AtA,AtB:=v.AtB,Radio:=v.Radio }:TreeWorld)=v:=by rw [← h1,← h2]
theorem Kp.glue {w v:TreeWorld} (h:Kp w v):({ w with Bridges:=v.Bridges,AtA:=v.AtA,AtB:=v.AtB,Radio:=v.Radio }:TreeWorld)=v:=glue4 h.s.links h.d
theorem Kp.ld {w v:TreeWorld} (h:Kp w v):({ v with Links:=w.Links,Down:=w.Down }:TreeWorld)=v:=by rw [← h.s.links,← h.d]
def drainStep (w:TreeWorld) (_:Nat):TreeWorld:=words w ⟨2,0,0⟩
def drain (w:TreeWorld):TreeWorld:=(List.range w.Radio.length).foldl drainStep w
theorem drain_len {w:TreeWorld} (h:0 < w.Radio.length):(words w ⟨2,0,0⟩).Radio.length=w.Radio.length - 1:=by
  unfold words;rw [if_pos (inR_iff.2 ⟨Int.le_refl _,(show (0:Int)≤(w.Radio.length:Int) - 1 by omega)⟩),if_pos rfl,hear_radio];exact outR_len h
def DrI (w:TreeWorld) (n:Nat) (i:Nat) (v:TreeWorld):Prop:=Kp w v∧v.Radio.length+i=n
theorem dri_step {w v:TreeWorld} {n i:Nat} (hi:i < n) (h:DrI w n i v):DrI w n (i+1) (drainStep v i):=by
  have:=h.2;refine ⟨h.1.trans ⟨good_words h.1.g _,same_words,words_down _ _⟩,?_⟩;show (words v ⟨2,0,0⟩).Radio.length+(i+1)=n;rw [drain_len (by omega)];omega
def linkR (t:Nat) (w:TreeWorld) (i:Nat):TreeWorld :=
  if isOpen w ((i+t) % w.Links.length)=true then hear (hear w (wordFor w ((i+t) % w.Links.length) 0)) (wordFor (hear w (wordFor w ((i+t) % w.Links.length) 0)) ((i+t) % w.Links.length) 1) else w
theorem linkR_ok {w:TreeWorld} (h:Good w) {k:Nat} (hk:k < w.Links.length) (ho:isOpen w k=true):wordOk w (wordFor w k 0)=true∧Good (hear w (wordFor w k 0))∧k < (hear w (wordFor w k 0)).Links.length∧wordOk (hear w (wordFor w k 0)) (wordFor (hear w (wordFor w k 0)) k 1)=true:=by
  have w1:=wordFor_ok h hk (e:=0) (.inl rfl) (open_up ho _);have g1:=good_hear h w1;have sm1:Same w (hear w (wordFor w k 0)):=same_hear;have hkl1:k < (hear w (wordFor w k 0)).Links.length:=by rw [sm1.links]; exact hk
  exact ⟨w1,g1,hkl1,wordFor_ok g1 hkl1 (e:=1) (.inr rfl) (by rw [up_hear h w1,br_same sm1]; exact open_up ho _)⟩
theorem kp_hear {w:TreeWorld} (h:Good w) {x:TreeWord} (hx:wordOk w x=true):Kp w (hear w x):=⟨good_hear h hx,same_hear,hear_down _ _⟩
theorem kp_linkR {t:Nat} {w:TreeWorld} (h:Good w) {i:Nat} (hi:0 < w.Links.length):Kp w (linkR t w i):=by
  unfold linkR;split
  · rename_i ho;obtain ⟨a,b,c,d⟩:=linkR_ok h (Nat.mod_lt _ hi) ho;exact (kp_hear h a).trans (kp_hear b d)
  · exact .refl h
def roundR (t:Nat) (w:TreeWorld):TreeWorld:=ticked ((List.range w.Links.length).foldl (linkR t) (drain w))
theorem kp_drain {w:TreeWorld} (h:Good w):Kp w (drain w):=by
  have key:∀ j,j≤w.Radio.length→DrI w w.Radio.length j ((List.range j).foldl drainStep w):=by
    intro j
    induction j with
    | zero=>exact fun _=>⟨.refl h,by simp⟩
    | succ j ih=>intro hj; rw [List.range_succ,List.foldl_append]; exact dri_step (by omega) (ih (by omega))
  exact (key _ (Nat.le_refl _)).1
theorem kp_links {t:Nat} {w u:TreeWorld} (h:Kp w u):∀ j,j≤w.Links.length→Kp w ((List.range j).foldl (linkR t) u):=by
  intro j
  induction j with
  | zero=>exact fun _=>h
  | succ j ih =>
    intro hj;have i:=ih (by omega);rw [List.range_succ,List.foldl_append];exact i.trans (kp_linkR i.g (by rw [i.s.links]; omega))
theorem kp_round {t:Nat} {w:TreeWorld} (h:Good w):Kp w (roundR t w):=by
  have k:=kp_links (t:=t) (kp_drain h) _ (Nat.le_refl _);exact k.trans ⟨good_ticked k.g,same_ticked k.g,tick_down k.g⟩
theorem modI {a b l:Nat}:((a:Int)+(b:Int)).tmod (l:Int)=(((a+b) % l:Nat):Int):=by
  rw [← Int.natCast_add,Int.ofNat_tmod]
def itN (f:TreeWorld→TreeWorld):Nat→TreeWorld→TreeWorld
  | 0,w=>w
  | n+1,w=>f (itN f n w)
theorem itN_add (f:TreeWorld→TreeWorld) (m:Nat) (w:TreeWorld):∀ n,itN f (m+n) w=itN f n (itN f m w)
  | 0=>rfl
  | n+1=>congrArg f (itN_add f m w n)
theorem itN_fold (f:TreeWorld→TreeWorld) (w:TreeWorld):∀ n,(List.range n).foldl (fun v _=>f v) w=itN f n w
  | 0=>rfl
  | n+1=>by rw [List.range_succ,List.foldl_append,itN_fold f w n]; rfl
theorem kp_it {t:Nat} {w:TreeWorld} (h:Good w):∀ n,Kp w (itN (roundR t) n w)
  | 0=>.refl h
  | n+1=>(kp_it h n).trans (kp_round (kp_it h n).g)
def off (w:TreeWorld) (a:Int):Nat:=if w.Links.length=0 then 0 else a.toNat % w.Links.length
def rnds (r:Int):Nat:=min 60 r.toNat
theorem off_le {w:TreeWorld} (h:Good w) (a:Int):off w a≤12:=by
  have:=h.l12;unfold off;split
  · omega
  · have:=Nat.mod_lt a.toNat (show 0 < w.Links.length by omega); omega
theorem iHearK_p {w:TreeWorld} (h:Good w) {x:TreeWord} (hx:wordOk w x=true):impl_TreeWorld_hear_r05_k03_04_05_m w x.Link x.End x.Vector=some (hear w x):=by
  obtain ⟨h1,h2,h3,h4⟩:=word_iff.1 hx;have hi:x.Link.toNat < w.Links.length:=by omega
  have ha:=h.a;have hb':=h.b;have hl:=h.len.d;have hbr:=brAt_in' h hi x.End;have el:((x.Link.toNat:Nat):Int)=x.Link:=by omega
  have e1:=bridgeAt_p hi x.End;rw [el] at e1;unfold impl_TreeWorld_hear_r05_k03_04_05_m hear;rw [e1,bd_val,isDown_p (by omega),bd_val,gd_pos (fun _=>hbr)]
  by_cases hc:hasI w.Down x.Link=true ∨ upAt w (brAt w x.Link.toNat x.End)=false
  · rw [if_pos hc,if_pos];rw [Bool.or_eq_true,Bool.not_eq_true'];exact hc
  · have g:Good (setSlot w x.Link.toNat x.End ⟨x.Vector,3⟩):=by
      have hd:hasI w.Down x.Link=false:=Bool.eq_false_iff.2 fun e=>hc (.inl e);have hu:upAt w (brAt w x.Link.toNat x.End)=true:=by
        cases e:upAt w (brAt w x.Link.toNat x.End)
        · exact absurd (.inr e) hc
        · rfl
      exact good_setSlot (e:=x.End) h hi (s:=⟨x.Vector,3⟩) (by
        unfold endOk;rw [slot3 h3 h4,el,hd];unfold upAt at hu;rw [hu]; simp)
    have tp:=iThinks_p g.wok (b:=(brAt w x.Link.toNat x.End).toNat) (by rw [same_setSlot.n]; omega);have eb:(((brAt w x.Link.toNat x.End).toNat:Nat):Int)=brAt w x.Link.toNat x.End:=by omega
    rw [eb,← iThinks345_p] at tp;have sh:=thinks_sh (setSlot w x.Link.toNat x.End ⟨x.Vector,3⟩) (brAt w x.Link.toNat x.End).toNat
    rw [if_neg hc,if_neg (by rw [Bool.or_eq_true,Bool.not_eq_true']; exact hc)]
    by_cases e:x.End=0
    · rw [if_pos (by simp [e])];unfold impl_TreeWorld_slot_r00_03_04_05_at_s1_m;rw [gd_pos (by omega),bd_val];unfold setSlot at tp sh ⊢;rw [if_pos e] at tp sh ⊢;refine (bd_of tp).trans ?_;rw [sh]
    · rw [if_neg (by simp [e])];unfold impl_TreeWorld_slot_r00_03_04_05_at_s0_m;rw [gd_pos (by omega),bd_val];unfold setSlot at tp sh ⊢;rw [if_neg e] at tp sh ⊢;refine (bd_of tp).trans ?_;rw [sh]
theorem iDrain_p {w:TreeWorld} (h:Good w) (hr:0 < w.Radio.length):impl_TreeWorld_onWord_k00_03_04_05_m w 2 0=some (words w ⟨2,0,0⟩):=by
  have hr':=h.rl;unfold impl_TreeWorld_onWord_k00_03_04_05_m words;have hi:inR 0 0 ((w.Radio.length:Int) - 1)=true:=inR_iff.2 ⟨Int.le_refl _,by omega⟩;have hx:wordOk w (w.Radio.getD 0 default)=true:=h.radio _ hr;rw [wrap_i64 (by omega) (by omega),within_p,bd_val,hi,if_neg (by decide),gd_pos (by omega),if_pos rfl,if_neg (by decide),if_pos rfl];unfold slices_Delete_TreeWord_TreeWord_m;rw [wrap_i64 (by omega) (by omega),gd_pos (by omega),bd_val,if_pos (by decide)];refine (bd_of (iHearK_p (good_out h (a:=0) hr) hx)).trans ?_;exact congrArg some (kp_hear (good_out h (a:=0) hr) hx).ld
theorem iTickK_p {w:TreeWorld} (h:Good w):impl_TreeWorld_tick_r05_k04_m w=some (ticked w):=by
  have g:=aged_good h;have h8:=h.n8;have h12:=h.l12;have e1:(aged w).Bridges=w.Bridges:=g.2.br;have e4:(aged w).Radio=w.Radio:=g.2.radio;unfold impl_TreeWorld_tick_r05_k04_m;refine (bd_fold (fun (v:TreeWorld) i=>(v.Bridges,v.AtA,v.AtB,v.Radio,(i:Int))) w.Links.length ageStep (fun v=>(v.Bridges.length,v.AtA.length,v.AtB.length,v.Radio.length,v.Bridges,v.AtA,v.AtB,v.Radio)) w (fun _ v=>Good v∧Slots w v) rfl ⟨h,rfl⟩ (fun i v hi hv=>⟨good_age hv.1 (by rw [hv.2]; exact hi),slots_age hv.2⟩) ?_ ?_).trans ?_
  · intro i v hi hv;have hl:v.Links.length=w.Links.length:=by rw [hv.2]
    have ha:=hv.1.a;have hb:=hv.1.b;have he:=hv.1.ends i (by omega);unfold endsOk endOk at he;rw [Bool.and_eq_true,Bool.and_eq_true,Bool.and_eq_true] at he;rw [if_pos (by simp; omega)];have lA:=slotLeft he.1.1;have lB:=slotLeft he.2.1;refine (bd_of (m:=lp _ _) (x:=(v.Bridges.length,(ageStep v i).AtA.length,(ageStep v i).AtB.length,v.Radio.length,v.Bridges,(ageStep v i).AtA,(ageStep v i).AtB,v.Radio)) ?_).trans ?_
    · refine (lp_more (s':=(v.Bridges,(ageStep v i).AtA,v.AtB,v.Radio,1)) ?_).trans ((lp_more (s':=(v.Bridges,(ageStep v i).AtA,(ageStep v i).AtB,v.Radio,2)) ?_).trans (lp_done ?_))
      · unfold impl_TreeWorld_slot_r00_03_04_05_at_s1_m;dsimp only;rw [if_pos (by simp),if_pos (by simp),gd_pos (by omega),bd_val,bd_val];dsimp only;rw [Int.toNat_natCast,getD_setS (by omega),if_pos rfl,wrap_i64 (n:=(v.AtA.getD i default).Left - 1) (by omega) (by omega),List.set_set,wrap_i64 (n:=0+1) (by decide) (by decide)];have o:=older_if he.1.1 (k:=(v.AtA.getD i default).Left - 1) rfl;have eA:(ageStep v i).AtA=v.AtA.set i (older (v.AtA.getD i default)):=rfl;rw [eA,← o]
        by_cases c:(if (v.AtA.getD i default).Left - 1 > 0 then (v.AtA.getD i default).Left - 1 else 0)=0
        · rw [if_pos (by rw [beq_iff_eq]; exact c),if_pos c]; rfl
        · rw [if_neg (by rw [beq_iff_eq]; exact c),if_neg c]; rfl
      · unfold impl_TreeWorld_slot_r00_03_04_05_at_s0_m;dsimp only;rw [if_pos (by simp),if_neg (by simp),gd_pos (by omega),bd_val,bd_val];dsimp only;rw [Int.toNat_natCast,getD_setS (by omega),if_pos rfl,wrap_i64 (n:=(v.AtB.getD i default).Left - 1) (by omega) (by omega),List.set_set,wrap_i64 (n:=1+1) (by decide) (by decide)];have o:=older_if he.2.1 (k:=(v.AtB.getD i default).Left - 1) rfl;have eB:(ageStep v i).AtB=v.AtB.set i (older (v.AtB.getD i default)):=rfl;rw [eB,← o]
        by_cases c:(if (v.AtB.getD i default).Left - 1 > 0 then (v.AtB.getD i default).Left - 1 else 0)=0
        · rw [if_pos (by rw [beq_iff_eq]; exact c),if_pos c]; rfl
        · rw [if_neg (by rw [beq_iff_eq]; exact c),if_neg c]; rfl
      · rw [if_neg (by simp)]
    · dsimp only;rw [wrap_succ hi (by omega)]
      rfl
  · intro v hv;rw [if_neg (by simp)]
  · change bd (lp _ ((aged w).Bridges,(aged w).AtA,(aged w).AtB,(aged w).Radio,0)) _=_
    refine (bd_fold (fun (v:TreeWorld) i=>(v.Bridges,v.AtA,v.AtB,v.Radio,(i:Int))) w.Bridges.length thinks (fun v=>(v.Bridges.length,v.AtA.length,v.AtB.length,v.Radio.length,v.Bridges,v.AtA,v.AtB,v.Radio)) (aged w) (fun _ v=>Good v∧v.Bridges.length=w.Bridges.length∧Brs (aged w) v) rfl ⟨g.1,by rw [e1],rfl⟩ (fun i v hi hv=>⟨good_thinks hv.1 (by omega),same_thinks.n.trans hv.2.1,brs_thinks hv.2.2⟩) ?_ ?_).trans ?_
    · intro i v hi hv;have hv2:v={ aged w with Bridges:=v.Bridges }:=hv.2.2;have el:v.Links=w.Links:=by rw [hv2]; exact g.2.links
      have ed:v.Down=w.Down:=by rw [hv2]; exact g.2.down
      have ev:=glue4 el ed;rw [if_pos (by show decide ((i:Int) < (((aged w).Bridges.length:Nat):Int))=true; rw [e1]; simp; omega)];have q:=iThinks_p hv.1.wok (b:=i) (by omega);rw [← ev,← iThinks345_p] at q;refine (bd_of q).trans ?_;rw [ev,wrap_succ hi (by omega)]
    · intro v hv;rw [if_neg (by show ¬ decide (((w.Bridges.length:Nat):Int) < (((aged w).Bridges.length:Nat):Int))=true; rw [e1]; simp)]
    · exact congrArg some (glue4 (v:=ticked w) (same_ticked h).links (tick_down h))
theorem iCopyK_p (w:TreeWorld):impl_copyTree_o00_03_04_05_m w=impl_copyTree_m w:=rfl
theorem rnds_p (r:Int):(if 60 < (if 0 > r then 0 else r) then 60 else (if 0 > r then 0 else r))=((rnds r:Nat):Int):=by
  unfold rnds
  by_cases c:0 > r
  · rw [if_pos c,if_neg (by decide)]; omega
  · rw [if_neg c]
    by_cases c2:60 < r
    · rw [if_pos c2]; omega
    · rw [if_neg c2]; omega
theorem iCalm_p {w:TreeWorld} (h:Good w) (r a:Int):impl_TreeCalm_m w r a=some (itN (roundR (off w a)) (rnds r) w):=by
  have hl:=h.len;have h12:=h.l12;unfold impl_TreeCalm_m;rw [implWorldOk_p (by have:=hl.b; omega) (by have:=hl.l; omega) (by have:=hl.d; omega) (by have:=hl.r; omega),bd_val,good_iff.2 h,if_neg (by decide),iCopyK_p,iCopy_p (Len.mono hl (by omega)),bd_val];have hr60:rnds r≤60:=by unfold rnds; omega
  refine (bd_fold (fun (v:TreeWorld) i=>(v.Bridges,v.AtA,v.AtB,v.Radio,(i:Int))) (rnds r) (fun v _=>roundR (off w a) v) (fun v=>(v.Bridges.length,v.AtA.length,v.AtB.length,v.Radio.length,v.Bridges,v.AtA,v.AtB,v.Radio)) w (fun _ v=>Kp w v) rfl (.refl h) (fun i v hi hv=>hv.trans (kp_round hv.g)) ?_ ?_).trans ?_
  · intro i u hi hu;dsimp only;rw [rnds_p,if_pos (by simp; omega),wrap_i64 (n:=(i:Int)+1) (by omega) (by omega)];refine (bd_fold (fun (v:TreeWorld) _=>(v.Bridges,v.AtA,v.AtB,v.Radio)) u.Radio.length drainStep (fun v=>(v.Bridges.length,v.AtA.length,v.AtB.length,v.Radio.length,v.Bridges,v.AtA,v.AtB,v.Radio)) u (DrI u u.Radio.length) rfl ⟨.refl hu.g,by simp⟩ (fun i v hi hv=>dri_step hi hv) ?_ ?_).trans ?_
    · intro i v hi hv;have:=hv.2;dsimp only;rw [if_pos (decide_eq_true (by omega)),(hu.trans hv.1).glue];exact (bd_of (iDrain_p hv.1.g (by omega))).trans rfl
    · intro v hv;have:=hv.2;dsimp only;rw [if_neg (fun hh=>by have:=of_decide_eq_true hh; omega)]
    · change bd (lp _ ((drain u).Bridges,(drain u).AtA,(drain u).AtB,(drain u).Radio,0)) _=_
      have kd:=hu.trans (kp_drain hu.g);have hul:u.Links.length=w.Links.length:=congrArg List.length hu.s.links;refine (bd_fold (fun (v:TreeWorld) i=>(v.Bridges,v.AtA,v.AtB,v.Radio,(i:Int))) w.Links.length (linkR (off w a)) (fun v=>(v.Bridges.length,v.AtA.length,v.AtB.length,v.Radio.length,v.Bridges,v.AtA,v.AtB,v.Radio)) (drain u) (fun _ v=>Kp w v) rfl kd (fun i v hi hv=>hv.trans (kp_linkR hv.g (by rw [hv.s.links]; omega))) ?_ ?_).trans ?_
      · intro i v hi hv;have hvl:v.Links.length=w.Links.length:=congrArg List.length hv.s.links;have eo:(if 0 > a then 0 else a).tmod ((w.Links.length:Nat):Int)=((off w a:Nat):Int):=by
          have e0:(if 0 > a then 0 else a)=((a.toNat:Nat):Int):=by split <;> omega
          unfold off;rw [e0,if_neg (show ¬ w.Links.length=0 by omega),Int.ofNat_tmod]
        have hoff:=off_le h a;dsimp only;rw [if_pos (by simp; omega),gd_pos (by omega),gd_pos (by omega),eo,wrap_i64 (n:=((off w a:Nat):Int)+(i:Int)) (by omega) (by omega),modI,Nat.add_comm (off w a) i,hv.glue];have hk:(i+off w a) % w.Links.length < v.Links.length:=by rw [hvl]; exact Nat.mod_lt _ (by omega)
        rw [implOpenL_p hv.g.wok (by have:=hv.g.len.d; omega) hk,bd_val];unfold linkR;rw [hvl]
        by_cases ho:isOpen v ((i+off w a) % w.Links.length)=true
        · obtain ⟨a1,b,c,d⟩:=linkR_ok hv.g hk ho;rw [if_pos ho,if_pos ho,wrap_succ hi (by omega)];have k1:=hv.trans (kp_hear hv.g a1);refine (bd_of (told_p hv.g hk (.inl rfl))).trans ?_;refine (bd_of (iHearK_p hv.g a1)).trans ?_;rw [k1.ld];refine (bd_of (told_p b c (.inr rfl))).trans ?_;exact (bd_of (iHearK_p b d)).trans rfl
        · rw [if_neg ho,if_neg ho,wrap_succ hi (by omega)]
      · intro v hv;dsimp only;rw [if_neg (by simp)]
      · have k:=hu.trans (kp_links (t:=off w a) (kp_drain hu.g) _ (Nat.le_refl _));rw [hul] at k;have er:roundR (off w a) u=ticked ((List.range w.Links.length).foldl (linkR (off w a)) (drain u)):=by unfold roundR; rw [hul]
        rw [er];generalize (List.range w.Links.length).foldl (linkR (off w a)) (drain u)=v at *;dsimp only;rw [k.glue];exact (bd_of (iTickK_p k.g)).trans rfl
  · intro v hv;dsimp only;rw [rnds_p,if_neg (by simp)]
  · rw [itN_fold];exact congrArg some (kp_it h _).glue
end Go.Proofs.YtejhbiefhpgjeaaGreat
