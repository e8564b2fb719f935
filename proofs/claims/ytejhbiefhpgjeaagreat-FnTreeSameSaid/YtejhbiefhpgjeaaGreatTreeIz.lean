/-
  Plain Lean: what the program's steps do: the same as the reference's.
-/
import Derived.Test.YtejhbiefhpgjeaaGreatKz5
import Derived.Test.YtejhbiefhpgjeaaGreatTreeD2z
import Derived.Test.YtejhbiefhpgjeaaGreatTreeS4z
set_option linter.all false
namespace Go.Proofs.YtejhbiefhpgjeaaGreat
open Go Go.Ab
set_option maxHeartbeats 400000
theorem iThinks_p {w:TreeWorld} (h:WOk w) {b:Nat} (hb:b < w.Bridges.length):impl_TreeWorld_rethink_m w (b:Int)=some (thinks w b):=by
  unfold impl_TreeWorld_rethink_m thinks;rw [gd_pos (by omega),Int.toNat_natCast];split
  · rw [implThink_p h (by omega),bd_val,gd_pos (by omega)]; rfl
  · rfl
theorem iThinks3_p (w:TreeWorld) (b:Int):impl_TreeWorld_rethink_r03_m w b=impl_TreeWorld_rethink_m w b:=rfl
theorem iThinks345_p (w:TreeWorld) (b:Int):impl_TreeWorld_rethink_r03_04_05_m w b=impl_TreeWorld_rethink_m w b:=rfl
theorem thinks_sh (w:TreeWorld) (b:Nat):thinks w b={ w with Bridges:=(thinks w b).Bridges }:=by
  unfold thinks setBr;split <;> rfl
theorem hear_sh (w:TreeWorld) (x:TreeWord):hear w x={ w with Bridges:=(hear w x).Bridges,AtA:=(hear w x).AtA,AtB:=(hear w x).AtB }:=by
  unfold hear;split
  · rfl
  · rw [thinks_sh];unfold setSlot;split <;> rfl
theorem iHear_p {w:TreeWorld} (h:Good w) {x:TreeWord} (hx:wordOk w x=true):impl_TreeWorld_hear_m w x.Link x.End x.Vector=some (hear w x):=by
  obtain ⟨h1,h2,h3,h4⟩:=word_iff.1 hx;have hi:x.Link.toNat < w.Links.length:=by omega
  have ha:=h.a;have hb':=h.b;have hl:=h.len.d;have hbr:=brAt_in' h hi x.End;have el:((x.Link.toNat:Nat):Int)=x.Link:=by omega
  have e1:=bridgeAt_p hi x.End;rw [el] at e1;unfold impl_TreeWorld_hear_m hear;rw [e1,bd_val,isDown_p (by omega),bd_val,gd_pos (fun _=>hbr)]
  by_cases hc:hasI w.Down x.Link=true ∨ upAt w (brAt w x.Link.toNat x.End)=false
  · rw [if_pos hc,if_pos];rw [Bool.or_eq_true,Bool.not_eq_true'];exact hc
  · have g:Good (setSlot w x.Link.toNat x.End ⟨x.Vector,3⟩):=by
      have hd:hasI w.Down x.Link=false:=Bool.eq_false_iff.2 fun e=>hc (.inl e);have hu:upAt w (brAt w x.Link.toNat x.End)=true:=by
        cases e:upAt w (brAt w x.Link.toNat x.End)
        · exact absurd (.inr e) hc
        · rfl
      exact good_setSlot (e:=x.End) h hi (s:=⟨x.Vector,3⟩) (by
        unfold endOk;rw [slot3 h3 h4,el,hd];unfold upAt at hu;rw [hu]; simp)
    have tp:=iThinks_p g.wok (b:=(brAt w x.Link.toNat x.End).toNat) (by rw [same_setSlot.n]; omega);have eb:(((brAt w x.Link.toNat x.End).toNat:Nat):Int)=brAt w x.Link.toNat x.End:=by omega
    rw [eb] at tp;have sh:=thinks_sh (setSlot w x.Link.toNat x.End ⟨x.Vector,3⟩) (brAt w x.Link.toNat x.End).toNat
    rw [if_neg hc,if_neg (by rw [Bool.or_eq_true,Bool.not_eq_true']; exact hc)]
    by_cases e:x.End=0
    · rw [if_pos (by simp [e])];unfold impl_TreeWorld_slot_r00_at_s1_m;rw [gd_pos (by omega),bd_val];unfold setSlot at tp sh ⊢;rw [if_pos e] at tp sh ⊢;refine (bd_of tp).trans ?_;rw [sh]
    · rw [if_neg (by simp [e])];unfold impl_TreeWorld_slot_r00_at_s0_m;rw [gd_pos (by omega),bd_val];unfold setSlot at tp sh ⊢;rw [if_neg e] at tp sh ⊢;refine (bd_of tp).trans ?_;rw [sh]
theorem iPut_p (w:TreeWorld) (x:TreeWord):impl_TreeWorld_put_m w x=some (putR w x):=by
  unfold impl_TreeWorld_put_m putR
  by_cases h:w.Radio.length < 12
  · rw [if_pos (by simp; omega),if_pos h,gd_pos (by simp; omega)]; rfl
  · rw [if_neg (by simp; omega),if_neg h]
theorem put_sh (w:TreeWorld) (x:TreeWord):putR w x={ w with Radio:=(putR w x).Radio }:=by
  unfold putR setRadio;split <;> rfl
theorem iPut34_p (w:TreeWorld) (x:TreeWord):impl_TreeWorld_put_r03_04_m w x=impl_TreeWorld_put_m w x:=rfl
theorem iWords_p {w:TreeWorld} (h:Good w) (e:TreeEvent):impl_TreeWorld_onWord_m w e.Kind e.At=some (words w e):=by
  have hr:=h.rl;unfold impl_TreeWorld_onWord_m words;rw [wrap_i64 (by omega) (by omega),within_p,bd_val]
  cases hi:inR e.At 0 ((w.Radio.length:Int) - 1)
  · rfl
  · have hi':=inR_iff.1 hi;have ha:e.At.toNat < w.Radio.length:=by omega
    have hx:wordOk w (w.Radio.getD e.At.toNat default)=true:=h.radio _ ha;rw [if_neg (by decide),gd_pos (by omega),if_pos rfl]
    by_cases h3:e.Kind=3
    · rw [if_pos (by simp [h3]),if_neg (show ¬ e.Kind=2 by omega),if_pos h3];refine (bd_of (iPut_p _ _)).trans ?_;exact congrArg some (put_sh _ _).symm
    · rw [if_neg (by simp [h3])];unfold slices_Delete_TreeWord_TreeWord_m;rw [wrap_i64 (by omega) (by omega),gd_pos (by omega),bd_val,show (e.At+1).toNat=e.At.toNat+1 by omega]
      by_cases h2:e.Kind=2
      · rw [if_pos (by simp [h2]),if_pos h2];refine (bd_of (iHear_p (good_out h ha) hx)).trans ?_;rw [hear_sh]
        rfl
      · rw [if_neg (by simp [h2]),if_neg h2,if_neg h3]
        rfl
theorem older_if {s:TreeSlot} (h:slotOk s=true) {k:Int} (hk:k=s.Left - 1):(if (if k > 0 then k else 0)=0 then noSlot else ⟨s.Vector,if k > 0 then k else 0⟩)=older s:=by
  have:=slotLeft h;unfold older
  by_cases c:s.Left≤1
  · rw [if_pos c,if_neg (show ¬ k > 0 by omega),if_pos rfl]; rfl
  · rw [if_neg c,if_pos (show k > 0 by omega),if_neg (by omega),hk]
def Brs (w v:TreeWorld):Prop:=v={ w with Bridges:=v.Bridges }
theorem brs_thinks {w v:TreeWorld} {b:Nat} (h:Brs w v):Brs w (thinks v b):=by
  unfold Brs at h ⊢;unfold thinks setBr;split
  · rw [h]
  · exact h
theorem brs_ticks {w:TreeWorld}:∀ j,Brs w ((List.range j).foldl thinks w):=by
  intro j
  induction j with
  | zero=>rfl
  | succ j ih=>rw [List.range_succ,List.foldl_append]; exact brs_thinks ih
theorem glue {w u v:TreeWorld} (hb:Brs u v) (hs:Slots w u):({ w with Bridges:=v.Bridges,AtA:=v.AtA,AtB:=u.AtB }:TreeWorld)=v:=by
  have hv:v={ u with Bridges:=v.Bridges }:=hb;have h1:v.Links=u.Links:=by rw [hv]
  have h2:v.Down=u.Down:=by rw [hv]
  have h3:v.Radio=u.Radio:=by rw [hv]
  have h4:v.AtB=u.AtB:=by rw [hv]
  rw [← hs.links,← hs.down,← hs.radio,← h1,← h2,← h3,← h4]
theorem iTick_p {w:TreeWorld} (h:Good w):impl_TreeWorld_tick_m w=some (ticked w):=by
  have g:=aged_good h;have h8:=h.n8;have h12:=h.l12;have e1:(aged w).Bridges=w.Bridges:=g.2.br;have e2:(aged w).Links=w.Links:=g.2.links;have e3:(aged w).Down=w.Down:=g.2.down;have e4:(aged w).Radio=w.Radio:=g.2.radio;unfold impl_TreeWorld_tick_m;refine (bd_fold (fun (v:TreeWorld) i=>(v.Bridges,v.AtA,v.AtB,(i:Int))) w.Links.length ageStep (fun v=>(v.Bridges.length,v.AtA.length,v.AtB.length,v.Bridges,v.AtA,v.AtB)) w (fun _ v=>Good v∧Slots w v) rfl ⟨h,rfl⟩ (fun i v hi hv=>⟨good_age hv.1 (by rw [hv.2]; exact hi),slots_age hv.2⟩) ?_ ?_).trans ?_
  · intro i v hi hv;have hl:v.Links.length=w.Links.length:=by rw [hv.2]
    have ha:=hv.1.a;have hb:=hv.1.b;have he:=hv.1.ends i (by omega);unfold endsOk endOk at he;rw [Bool.and_eq_true,Bool.and_eq_true,Bool.and_eq_true] at he;rw [if_pos (by simp; omega)];have lA:=slotLeft he.1.1;have lB:=slotLeft he.2.1;refine (bd_of (m:=lp _ _) (x:=(v.Bridges.length,(ageStep v i).AtA.length,(ageStep v i).AtB.length,v.Bridges,(ageStep v i).AtA,(ageStep v i).AtB)) ?_).trans ?_
    · refine (lp_more (s':=(v.Bridges,(ageStep v i).AtA,v.AtB,1)) ?_).trans ((lp_more (s':=(v.Bridges,(ageStep v i).AtA,(ageStep v i).AtB,2)) ?_).trans (lp_done ?_))
      · unfold impl_TreeWorld_slot_r00_03_04_at_s1_m;dsimp only;rw [if_pos (by simp),if_pos (by simp),gd_pos (by omega),bd_val,bd_val];dsimp only;rw [Int.toNat_natCast,getD_setS (by omega),if_pos rfl,wrap_i64 (n:=(v.AtA.getD i default).Left - 1) (by omega) (by omega),List.set_set,wrap_i64 (n:=0+1) (by decide) (by decide)];have o:=older_if he.1.1 (k:=(v.AtA.getD i default).Left - 1) rfl;have eA:(ageStep v i).AtA=v.AtA.set i (older (v.AtA.getD i default)):=rfl;rw [eA,← o]
        by_cases c:(if (v.AtA.getD i default).Left - 1 > 0 then (v.AtA.getD i default).Left - 1 else 0)=0
        · rw [if_pos (by rw [beq_iff_eq]; exact c),if_pos c]; rfl
        · rw [if_neg (by rw [beq_iff_eq]; exact c),if_neg c]; rfl
      · unfold impl_TreeWorld_slot_r00_03_04_at_s0_m;dsimp only;rw [if_pos (by simp),if_neg (by simp),gd_pos (by omega),bd_val,bd_val];dsimp only;rw [Int.toNat_natCast,getD_setS (by omega),if_pos rfl,wrap_i64 (n:=(v.AtB.getD i default).Left - 1) (by omega) (by omega),List.set_set,wrap_i64 (n:=1+1) (by decide) (by decide)];have o:=older_if he.2.1 (k:=(v.AtB.getD i default).Left - 1) rfl;have eB:(ageStep v i).AtB=v.AtB.set i (older (v.AtB.getD i default)):=rfl;rw [eB,← o]
        by_cases c:(if (v.AtB.getD i default).Left - 1 > 0 then (v.AtB.getD i default).Left - 1 else 0)=0
        · rw [if_pos (by rw [beq_iff_eq]; exact c),if_pos c]; rfl
        · rw [if_neg (by rw [beq_iff_eq]; exact c),if_neg c]; rfl
      · rw [if_neg (by simp)]
    · dsimp only;rw [wrap_succ hi (by omega)]
      rfl
  · intro v hv;rw [if_neg (by simp)]
  · change bd (lp _ ((aged w).Bridges,(aged w).AtA,0)) _=_
    refine (bd_fold (fun (v:TreeWorld) i=>(v.Bridges,v.AtA,(i:Int))) w.Bridges.length thinks (fun v=>(v.Bridges.length,v.AtA.length,v.Bridges,v.AtA)) (aged w) (fun _ v=>Good v∧v.Bridges.length=w.Bridges.length∧Brs (aged w) v) rfl ⟨g.1,by rw [e1],rfl⟩ (fun i v hi hv=>⟨good_thinks hv.1 (by omega),same_thinks.n.trans hv.2.1,brs_thinks hv.2.2⟩) ?_ ?_).trans ?_
    · intro i v hi hv;have ev:({ w with Bridges:=v.Bridges,AtA:=v.AtA,AtB:=(aged w).AtB }:TreeWorld)=v:=glue hv.2.2 g.2;rw [if_pos (by show decide ((i:Int) < (((aged w).Bridges.length:Nat):Int))=true; rw [e1]; simp; omega)];have q:=iThinks_p hv.1.wok (b:=i) (by omega);rw [← ev] at q;refine (bd_of (iThinks3_p _ _ ▸ q)).trans ?_;rw [ev,wrap_succ hi (by omega)]
    · intro v hv;rw [if_neg (by show ¬ decide (((w.Bridges.length:Nat):Int) < (((aged w).Bridges.length:Nat):Int))=true; rw [e1]; simp)]
    · exact congrArg some (glue (v:=ticked w) (brs_ticks _) g.2)
end Go.Proofs.YtejhbiefhpgjeaaGreat
