/-
  Plain Lean: a calm whose rows stay the caller's own; any world, ok or not.
-/
import Derived.Test.YtfgmolljcgnafabGreatKz4
import Derived.Test.YtfgmolljcgnafabGreatTreeR2z
set_option linter.all false
namespace Go.Proofs.YtfgmolljcgnafabGreat
open Go Go.Ab
set_option maxHeartbeats 400000
theorem iThinksO_p {w:TreeWorld} (h:WOk w) {b:Nat} (hb:b < w.Bridges.length):impl_TreeWorld_rethink_r01_02_03_04_05_m w (b:Int) = some (thinks w b) := by
  unfold impl_TreeWorld_rethink_r01_02_03_04_05_m thinks;rw [gd_pos (by omega),Int.toNat_natCast];split
  · rw [implThink_p h (by omega),bd_val,gd_pos (by omega)]; rfl
  · rfl
theorem iHearO_p {w:TreeWorld} (h:Good w) {x:TreeWord} (hx:wordOk w x = true):impl_TreeWorld_hear_r01_02_05_k01_02_03_04_05_m w x.Link x.End x.Vector = some (hear w x) := by
  obtain ⟨h1,h2,h3,h4⟩ := word_iff.1 hx;have hi:x.Link.toNat < w.Links.length := by omega
  have ha := h.a;have hb' := h.b;have hl := h.len.d;have hbr := brAt_in' h hi x.End;have el:((x.Link.toNat:Nat):Int) = x.Link := by omega
  have e1 := bridgeAt_p hi x.End;rw [el] at e1;unfold impl_TreeWorld_hear_r01_02_05_k01_02_03_04_05_m hear;rw [e1,bd_val,isDown_p (by omega),bd_val,gd_pos (fun _ => hbr)]
  by_cases hc:hasI w.Down x.Link = true ∨ upAt w (brAt w x.Link.toNat x.End) = false
  · rw [if_pos hc,if_pos];rw [Bool.or_eq_true,Bool.not_eq_true'];exact hc
  · have g:Good (setSlot w x.Link.toNat x.End ⟨x.Vector,3⟩) := by
      have hd:hasI w.Down x.Link = false := Bool.eq_false_iff.2 fun e => hc (.inl e);have hu:upAt w (brAt w x.Link.toNat x.End) = true := by
        cases e:upAt w (brAt w x.Link.toNat x.End)
        · exact absurd (.inr e) hc
        · rfl
      exact good_setSlot (e := x.End) h hi (s := ⟨x.Vector,3⟩) (by
        unfold endOk;rw [slot3 h3 h4,el,hd];unfold upAt at hu;rw [hu]; simp)
    have tp := iThinksO_p g.wok (b := (brAt w x.Link.toNat x.End).toNat) (by rw [same_setSlot.n]; omega);have eb:(((brAt w x.Link.toNat x.End).toNat:Nat):Int) = brAt w x.Link.toNat x.End := by omega
    rw [eb] at tp;rw [if_neg hc,if_neg (by rw [Bool.or_eq_true,Bool.not_eq_true']; exact hc)]
    by_cases e:x.End = 0
    · rw [if_pos (by simp [e])];unfold impl_TreeWorld_slot_r00_01_02_03_04_05_at_s1_m;rw [gd_pos (by omega),bd_val];unfold setSlot at tp ⊢;rw [if_pos e] at tp ⊢;exact (bd_of tp).trans rfl
    · rw [if_neg (by simp [e])];unfold impl_TreeWorld_slot_r00_01_02_03_04_05_at_s0_m;rw [gd_pos (by omega),bd_val];unfold setSlot at tp ⊢;rw [if_neg e] at tp ⊢;exact (bd_of tp).trans rfl
theorem iTickO_p {w:TreeWorld} (h:Good w):impl_TreeWorld_tick_r01_02_05_k04_m w = some (ticked w) := by
  have g := aged_good h;have h8 := h.n8;have h12 := h.l12;have e1:(aged w).Bridges = w.Bridges := g.2.br;have e4:(aged w).Radio = w.Radio := g.2.radio;unfold impl_TreeWorld_tick_r01_02_05_k04_m;refine (bd_fold (fun (v:TreeWorld) i => (v.Bridges,v.Links,v.Down,v.AtA,v.AtB,v.Radio,(i:Int))) w.Links.length ageStep (fun v => (v.Bridges.length,v.Links.length,v.Down.length,v.AtA.length,v.AtB.length,v.Radio.length,v.Bridges,v.Links,v.Down,v.AtA,v.AtB,v.Radio)) w (fun _ v => Good v ∧ Slots w v) rfl ⟨h,rfl⟩ (fun i v hi hv => ⟨good_age hv.1 (by rw [hv.2]; exact hi),slots_age hv.2⟩) ?_ ?_).trans ?_
  · intro i v hi hv;have hl:v.Links.length = w.Links.length := by rw [hv.2]
    have ha := hv.1.a;have hb := hv.1.b;have he := hv.1.ends i (by omega);unfold endsOk endOk at he;rw [Bool.and_eq_true,Bool.and_eq_true,Bool.and_eq_true] at he;rw [if_pos (by simp; omega)];have lA := slotLeft he.1.1;have lB := slotLeft he.2.1;refine (bd_of (m := lp _ _) (x := (v.Bridges.length,v.Links.length,v.Down.length,(ageStep v i).AtA.length,(ageStep v i).AtB.length,v.Radio.length,v.Bridges,v.Links,v.Down,(ageStep v i).AtA,(ageStep v i).AtB,v.Radio)) ?_).trans ?_
    · refine (lp_more (s' := (v.Bridges,v.Links,v.Down,(ageStep v i).AtA,v.AtB,v.Radio,1)) ?_).trans ((lp_more (s' := (v.Bridges,v.Links,v.Down,(ageStep v i).AtA,(ageStep v i).AtB,v.Radio,2)) ?_).trans (lp_done ?_))
      · unfold impl_TreeWorld_slot_r00_01_02_03_04_05_at_s1_m;dsimp only;rw [if_pos (by simp),if_pos (by simp),gd_pos (by omega),bd_val,bd_val];dsimp only;rw [Int.toNat_natCast,getD_setS (by omega),if_pos rfl,wrap_i64 (n := (v.AtA.getD i default).Left - 1) (by omega) (by omega),List.set_set,wrap_i64 (n := 0 + 1) (by decide) (by decide)];have o := older_if he.1.1 (k := (v.AtA.getD i default).Left - 1) rfl;have eA:(ageStep v i).AtA = v.AtA.set i (older (v.AtA.getD i default)) := rfl;rw [eA,← o]
        by_cases c:(if (v.AtA.getD i default).Left - 1 > 0 then (v.AtA.getD i default).Left - 1 else 0) = 0
        · rw [if_pos (by rw [beq_iff_eq]; exact c),if_pos c]; rfl
        · rw [if_neg (by rw [beq_iff_eq]; exact c),if_neg c]; rfl
      · unfold impl_TreeWorld_slot_r00_01_02_03_04_05_at_s0_m;dsimp only;rw [if_pos (by simp),if_neg (by simp),gd_pos (by omega),bd_val,bd_val];dsimp only;rw [Int.toNat_natCast,getD_setS (by omega),if_pos rfl,wrap_i64 (n := (v.AtB.getD i default).Left - 1) (by omega) (by omega),List.set_set,wrap_i64 (n := 1 + 1) (by decide) (by decide)];have o := older_if he.2.1 (k := (v.AtB.getD i default).Left - 1) rfl;have eB:(ageStep v i).AtB = v.AtB.set i (older (v.AtB.getD i default)) := rfl;rw [eB,← o]
        by_cases c:(if (v.AtB.getD i default).Left - 1 > 0 then (v.AtB.getD i default).Left - 1 else 0) = 0
        · rw [if_pos (by rw [beq_iff_eq]; exact c),if_pos c]; rfl
        · rw [if_neg (by rw [beq_iff_eq]; exact c),if_neg c]; rfl
      · rw [if_neg (by simp)]
    · dsimp only;rw [wrap_succ hi (by omega)]
      rfl
  · intro v hv;rw [if_neg (by simp)]
  · change bd (lp _ ((aged w).Bridges,(aged w).Links,(aged w).Down,(aged w).AtA,(aged w).AtB,(aged w).Radio,0)) _ = _
    refine (bd_fold (fun (v:TreeWorld) i => (v.Bridges,v.Links,v.Down,v.AtA,v.AtB,v.Radio,(i:Int))) w.Bridges.length thinks (fun v => (v.Bridges.length,v.Links.length,v.Down.length,v.AtA.length,v.AtB.length,v.Radio.length,v.Bridges,v.Links,v.Down,v.AtA,v.AtB,v.Radio)) (aged w) (fun _ v => Good v ∧ v.Bridges.length = w.Bridges.length ∧ Brs (aged w) v) rfl ⟨g.1,by rw [e1],rfl⟩ (fun i v hi hv => ⟨good_thinks hv.1 (by omega),same_thinks.n.trans hv.2.1,brs_thinks hv.2.2⟩) ?_ ?_).trans ?_
    · intro i v hi hv;rw [if_pos (by show decide ((i:Int) < (((aged w).Bridges.length:Nat):Int)) = true; rw [e1]; simp; omega)];have q := iThinksO_p hv.1.wok (b := i) (by omega);refine (bd_of q).trans ?_;rw [wrap_succ hi (by omega)]
    · intro v hv;rw [if_neg (by show ¬ decide (((w.Bridges.length:Nat):Int) < (((aged w).Bridges.length:Nat):Int)) = true; rw [e1]; simp)]
    · rfl
end Go.Proofs.YtfgmolljcgnafabGreat
