/-
  Plain Lean: a step whose rows stay the caller's own; any world, ok or not.
-/
import Derived.Test.YtfgmolljcgnafabGreatKz4
import Derived.Test.YtfgmolljcgnafabGreatTreeRoz
import Derived.Test.YtfgmolljcgnafabGreatTreeI3z
set_option linter.all false
namespace Go.Proofs.YtfgmolljcgnafabGreat
open Go Go.Ab
set_option maxHeartbeats 400000
theorem iPutO_p (w:TreeWorld) (x:TreeWord):impl_TreeWorld_put_r00_01_02_03_04_m w x = some (putR w x) := by
  unfold impl_TreeWorld_put_r00_01_02_03_04_m putR
  by_cases h:w.Radio.length < 12
  · rw [if_pos (by simp; omega),if_pos h,gd_pos (by simp; omega)]; rfl
  · rw [if_neg (by simp; omega),if_neg h]
theorem iWordsO_p {w:TreeWorld} (h:Good w) (e:TreeEvent):impl_TreeWorld_onWord_r01_02_k00_01_02_03_04_05_m w e.Kind e.At = some (words w e) := by
  have hr := h.rl;unfold impl_TreeWorld_onWord_r01_02_k00_01_02_03_04_05_m words;rw [wrap_i64 (by omega) (by omega),within_p,bd_val]
  cases hi:inR e.At 0 ((w.Radio.length:Int) - 1)
  · rfl
  · have hi' := inR_iff.1 hi;have ha:e.At.toNat < w.Radio.length := by omega
    have hx:wordOk w (w.Radio.getD e.At.toNat default) = true := h.radio _ ha;rw [if_neg (by decide),gd_pos (by omega),if_pos rfl]
    by_cases h3:e.Kind = 3
    · rw [if_pos (by simp [h3]),if_neg (show ¬ e.Kind = 2 by omega),if_pos h3];exact (bd_of (iPutO_p _ _)).trans rfl
    · rw [if_neg (by simp [h3])];unfold slices_Delete_TreeWord_TreeWord_m;rw [wrap_i64 (by omega) (by omega),gd_pos (by omega),bd_val,show (e.At + 1).toNat = e.At.toNat + 1 by omega]
      by_cases h2:e.Kind = 2
      · rw [if_pos (by simp [h2]),if_pos h2];exact (bd_of (iHearO_p (good_out h ha) hx)).trans rfl
      · rw [if_neg (by simp [h2]),if_neg h2,if_neg h3]
        rfl
theorem iBridgeO_p {w:TreeWorld} (h:Good w) (e:TreeEvent):impl_TreeWorld_onBridge_r01_02_05_k00_m w e.Kind e.At = some (bridgeEv w e) := by
  have h8 := h.n8;have h12 := h.l12;unfold impl_TreeWorld_onBridge_r01_02_05_k00_m bridgeEv;rw [wrap_i64 (by omega) (by omega),within_p,bd_val]
  cases hi:inR e.At 0 ((w.Bridges.length:Int) - 1)
  · rfl
  · have hi' := inR_iff.1 hi;have hba:e.At.toNat < w.Bridges.length := by omega
    rw [if_neg (by decide),gd_pos (by omega),if_pos rfl]
    by_cases h7:e.Kind = 7
    · rw [if_pos (by simp [h7]),if_pos h7]
      cases hu:(w.Bridges.getD e.At.toNat default).Up
      · rw [if_pos (show (!false) = true from rfl),if_neg (show ¬ (false = true) by decide),selfMind_p,bd_val,bd_val,List.set_set,getD_set hba]
        rfl
      · rfl
    · rw [if_neg (by simp [h7]),if_neg h7,bd_val,bd_val,List.set_set,getD_set hba];obtain ⟨i1,i2,i3⟩ := wiped_in h e.At _ (Nat.le_refl _);generalize hB0:w.Bridges.set e.At.toNat _ = B0;refine (bd_fold (fun (v:TreeWorld) i => (B0,v.Links,v.Down,v.AtA,v.AtB,v.Radio,(i:Int))) w.Links.length (wipeStep e.At) (fun v => (B0.length,v.Links.length,v.Down.length,v.AtA.length,v.AtB.length,v.Radio.length,B0,v.Links,v.Down,v.AtA,v.AtB,v.Radio)) w (fun _ v => Good v ∧ Slots w v) rfl ⟨h,rfl⟩ (fun i v hi hv => ⟨good_wipe hv.1 (by rw [hv.2]; exact hi),slots_wipe hv.2⟩) ?_ ?_).trans ?_
      · intro i v hi hv;have hl:v.Links = w.Links := hv.2.links;have ha := hv.1.a;have hb := hv.1.b;rw [hl] at ha hb;rw [if_pos (by simp; omega)];refine (bd_of (m := lp _ _) (x := (B0.length,v.Links.length,v.Down.length,(wipeStep e.At v i).AtA.length,(wipeStep e.At v i).AtB.length,v.Radio.length,B0,v.Links,v.Down,(wipeStep e.At v i).AtA,(wipeStep e.At v i).AtB,v.Radio)) ?_).trans ?_
        · have vA:(wipeStep e.At v i).AtA = if (w.Links.getD i default).A = e.At then v.AtA.set i noSlot else v.AtA := by
            unfold wipeStep;rw [hl];dsimp only;split <;> split <;> rfl
          have vB:(wipeStep e.At v i).AtB = if (w.Links.getD i default).B = e.At then v.AtB.set i noSlot else v.AtB := by
            unfold wipeStep;rw [hl];dsimp only;split <;> split <;> rfl
          refine (lp_more (s' := (B0,v.Links,v.Down,(wipeStep e.At v i).AtA,v.AtB,v.Radio,1)) ?_).trans ((lp_more (s' := (B0,v.Links,v.Down,(wipeStep e.At v i).AtA,(wipeStep e.At v i).AtB,v.Radio,2)) ?_).trans (lp_done ?_))
          · dsimp only;rw [if_pos (by simp)];refine (bd_of (bridgeAt_p (w := ⟨B0,v.Links,v.Down,v.AtA,v.AtB,v.Radio⟩) (by show i < v.Links.length; rw [hl]; exact hi) 0)).trans ?_;rw [vA];show (if ((v.Links.getD i default).A == e.At) = true then _ else _) = _;rw [show (v.Links.getD i default).A = (w.Links.getD i default).A by rw [hl]]
            by_cases c:(w.Links.getD i default).A = e.At
            · rw [if_pos (c := ((w.Links.getD i default).A == e.At) = true) (by simpa using c),if_pos (c := (w.Links.getD i default).A = e.At) c,if_pos (by simp)];unfold impl_TreeWorld_slot_r00_01_02_03_04_05_at_s1_m;dsimp only;rw [gd_pos (by omega),bd_val,Int.toNat_natCast]
              rfl
            · rw [if_neg (c := ((w.Links.getD i default).A == e.At) = true) (by simpa using c),if_neg (c := (w.Links.getD i default).A = e.At) c]
              rfl
          · dsimp only;rw [if_pos (by simp)];refine (bd_of (bridgeAt_p (w := ⟨B0,v.Links,v.Down,(wipeStep e.At v i).AtA,v.AtB,v.Radio⟩) (by show i < v.Links.length; rw [hl]; exact hi) 1)).trans ?_;rw [vB];show (if ((v.Links.getD i default).B == e.At) = true then _ else _) = _;rw [show (v.Links.getD i default).B = (w.Links.getD i default).B by rw [hl]]
            by_cases c:(w.Links.getD i default).B = e.At
            · rw [if_pos (c := ((w.Links.getD i default).B == e.At) = true) (by simpa using c),if_pos (c := (w.Links.getD i default).B = e.At) c,if_neg (by simp)];unfold impl_TreeWorld_slot_r00_01_02_03_04_05_at_s0_m;dsimp only;rw [gd_pos (by omega),bd_val,Int.toNat_natCast]
              rfl
            · rw [if_neg (c := ((w.Links.getD i default).B == e.At) = true) (by simpa using c),if_neg (c := (w.Links.getD i default).B = e.At) c]
              rfl
          · rw [if_neg (by simp)]
        · dsimp only;rw [wrap_succ hi (by omega)];have sl:(wipeStep e.At v i).Links = v.Links ∧ (wipeStep e.At v i).Down = v.Down ∧ (wipeStep e.At v i).Radio = v.Radio := by
            have := slots_wipe (b := e.At) (i := i) hv.2;exact ⟨this.links.trans hl.symm,this.down.trans hv.2.down.symm,this.radio.trans hv.2.radio.symm⟩
          rw [sl.1,sl.2.1,sl.2.2]
      · intro v hv;rw [if_neg (by simp)]
      · have hw:wiped w e.At = { w with AtA := (wiped w e.At).AtA,AtB := (wiped w e.At).AtB } := i2;show some (⟨B0,(wiped w e.At).Links,(wiped w e.At).Down,(wiped w e.At).AtA,(wiped w e.At).AtB,(wiped w e.At).Radio⟩:TreeWorld) = some (setBr (wiped w e.At) _ _);rw [hw,← hB0]
        rfl
theorem iForgetO_p {w:TreeWorld} (h:WOk w) {a:Nat} (ha:a < w.Links.length) {e:Int} (hw:WOk (setSlot w a e noSlot)):(bd (impl_TreeWorld_bridgeAt_m (setSlot w a e noSlot) (a:Int) e) fun x =>
    impl_TreeWorld_rethink_r01_02_03_04_05_m (setSlot w a e noSlot) x) = some (forget w a e) := by
  have hl := linkAt h.link ha;have hbr:0 ≤ brAt w a e ∧ brAt w a e < w.Bridges.length := by unfold brAt; split <;> omega
  have tp := iThinksO_p hw (b := (brAt w a e).toNat) (by rw [same_setSlot.n]; omega);have eb:(((brAt w a e).toNat:Nat):Int) = brAt w a e := by omega
  rw [eb] at tp;have el:(setSlot w a e noSlot).Links = w.Links := same_setSlot.links;rw [bridgeAt_p (by rw [el]; exact ha),bd_val,show brAt (setSlot w a e noSlot) a e = brAt w a e by unfold brAt; rw [el],tp]
  rfl
theorem iLinkO_p {w:TreeWorld} (h:Good w) (e:TreeEvent):impl_TreeWorld_onLink_r01_k00_01_02_03_04_05_m w e = some (if e.Kind = 1 then sayEv w e else if e.Kind = 8 ∨ e.Kind = 9 then linkEv w e else w) := by
  have h12 := h.l12;have hd12 := h.d12;have hp := (downs_pw h.down).1;unfold impl_TreeWorld_onLink_r01_k00_01_02_03_04_05_m linkEv sayEv;rw [isLink_p (by omega),bd_val];unfold isLink
  cases hi:inR e.At 0 ((w.Links.length:Int) - 1)
  · rw [if_pos (show (!false) = true from rfl)];simp
  · have hi' := inR_iff.1 hi;have ha:e.At.toNat < w.Links.length := by omega
    have ea:((e.At.toNat:Nat):Int) = e.At := by omega
    rw [if_neg (by decide),bsearch_p hp (by omega),bd_val]
    by_cases k1:e.Kind = 1
    · rw [if_pos (c := (e.Kind == 1) = true) (by simpa using k1),if_pos k1,within_p,bd_val]
      by_cases c2:inR e.End 0 1 = true
      · have he := inR_iff.1 c2;have he':e.End = 0 ∨ e.End = 1 := by omega
        have ho := implOpenL_p h.wok (by omega) ha;rw [ea] at ho;rw [c2,ho,gcall_pos rfl,bd_val]
        by_cases c3:isOpen w e.At.toNat = true
        · have tp := told_p h ha he';rw [ea] at tp;rw [c3,if_pos (by decide),if_pos ⟨⟨rfl,rfl⟩,rfl⟩,tp,bd_val,iPutO_p,bd_val];have e1:(⟨e.At,e.End,(wordFor w e.At.toNat e.End).Vector⟩:TreeWord) = wordFor w e.At.toNat e.End := by unfold wordFor; rw [ea]
          rw [e1]
        · rw [if_neg (by simpa using c3),if_neg (fun h => c3 h.2)]
      · rw [gcall_neg c2,bd_val,if_neg (by simp [c2]),if_neg (fun h => c2 h.1.2)]
    · rw [if_neg (c := (e.Kind == 1) = true) (by simpa using k1),if_neg k1]
      by_cases k8:e.Kind = 8
      · rw [if_pos (c := (e.Kind == 8) = true) (by simpa using k8),if_pos (c := e.Kind = 8 ∨ e.Kind = 9) (.inl k8),if_pos (c := true = true) rfl,if_pos (c := e.Kind = 8) k8];dsimp only;have e8:((if (!hasI w.Down e.At) = true then bd (slices_Insert_int_int_m w.Down ((downL w.Down e.At).length:Int) ([e.At]:List Int)) fun x10 => some x10 else some w.Down):Option (List Int)) = some (downN w.Down e.At e.Kind) := by
          have lL:(downL w.Down e.At).length ≤ w.Down.length := by
            have := congrArg List.length (downLR w.Down e.At);rw [List.length_append] at this;omega
          rw [k8]
          cases hh:hasI w.Down e.At
          · unfold slices_Insert_int_int_m;rw [if_pos (show (!false) = true from rfl),gd_pos (by simp; omega),bd_val,Int.toNat_natCast,ins_p hh]
          · rw [if_neg (by decide),← keep8_p hp hh]
        rw [e8,bd_val];obtain ⟨p1,p2⟩ := downs_pw h.down;have n1 := downN_pw (a := e.At) (k := e.Kind) p1;have n2:∀ x ∈ downN w.Down e.At e.Kind,0 ≤ x ∧ x ≤ (w.Links.length:Int) - 1 := fun x hx => by
          rcases downN_mem hx with ⟨_,rfl⟩ | ⟨hx,_⟩
          · exact hi'
          · exact p2 x hx
        obtain ⟨c1,c2⟩ := cut_good h ha n1 n2 (fun x hx => by
          rcases downN_mem hx with ⟨_,rfl⟩ | ⟨hx,_⟩
          · exact .inl ea.symm
          · exact .inr hx)
        have hA := h.a;have hB := h.b;have f1 := iForgetO_p (w := setDown w (downN w.Down e.At e.Kind)) ⟨h.wok.l,h.link,h.a,h.b,h.wok.slots,h.br⟩ ha c1;have s0:Same w (setDown w (downN w.Down e.At e.Kind)) := ⟨rfl,rfl⟩;have s1:Same w (forget (setDown w (downN w.Down e.At e.Kind)) e.At.toNat 0) := (s0.trans same_setSlot).trans same_thinks;rw [ea] at f1;have wv:WOk (forget (setDown w (downN w.Down e.At e.Kind)) e.At.toNat 0) := by
          unfold forget;have gb := c2.br;refine ⟨by rw [same_thinks.links]; exact c1.l,by rw [same_thinks.n,same_thinks.links]; exact c1.link,?_,?_,?_,fun i hi => ?_⟩
          · rw [same_thinks.links];unfold thinks; split <;> exact c1.a
          · rw [same_thinks.links];unfold thinks; split <;> exact c1.b
          · intro i hi;rw [same_thinks.links] at hi;unfold thinks; split <;> exact c1.slots i hi
          · have := gb i (by rw [same_setSlot.n]; exact hi);exact this
        have f2 := iForgetO_p wv (a := e.At.toNat) (by rw [s1.links]; exact ha) c2.wok;rw [ea] at f2;have sh1 := forget_sh (setDown w (downN w.Down e.At e.Kind)) e.At.toNat 0;have sh2 := forget_sh (forget (setDown w (downN w.Down e.At e.Kind)) e.At.toNat 0) e.At.toNat 1;generalize hd:downN w.Down e.At e.Kind = d at *;have aB:(forget (setDown w d) e.At.toNat 0).AtB = w.AtB := by unfold forget; rw [thinks_sh]; rfl
        generalize hv:forget (setDown w d) e.At.toNat 0 = v at *;refine (bd_of (m := lp _ _) (x := ((forget v e.At.toNat 1).Down,(forget v e.At.toNat 1).Down.length,(forget v e.At.toNat 1).Bridges.length,(forget v e.At.toNat 1).Links.length,(forget v e.At.toNat 1).AtA.length,(forget v e.At.toNat 1).AtB.length,(forget v e.At.toNat 1).Radio.length,(forget v e.At.toNat 1).Bridges,(forget v e.At.toNat 1).Links,(forget v e.At.toNat 1).AtA,(forget v e.At.toNat 1).AtB,(forget v e.At.toNat 1).Radio)) ?_).trans ?_
        · refine (lp_more (s' := (v.Down,v.Bridges,v.Links,v.AtA,v.AtB,v.Radio,1)) ?_).trans ((lp_more (s' := ((forget v e.At.toNat 1).Down,(forget v e.At.toNat 1).Bridges,(forget v e.At.toNat 1).Links,(forget v e.At.toNat 1).AtA,(forget v e.At.toNat 1).AtB,(forget v e.At.toNat 1).Radio,2)) ?_).trans (lp_done ?_))
          · unfold impl_TreeWorld_slot_r00_01_02_03_04_05_at_s1_m;dsimp only;rw [if_pos (by simp),if_pos (by simp),gd_pos (by omega),bd_val];obtain ⟨b,e1,e2⟩ := bd_some f1;refine (bd_of (x := b) e1).trans ((bd_of (x := v) ?_).trans rfl);exact e2
          · unfold impl_TreeWorld_slot_r00_01_02_03_04_05_at_s0_m;dsimp only;rw [if_pos (by simp),if_neg (by simp),gd_pos (by rw [aB]; omega),bd_val];obtain ⟨b,e1,e2⟩ := bd_some f2;refine (bd_of (x := b) e1).trans ((bd_of (x := forget v e.At.toNat 1) ?_).trans rfl);exact e2
          · rw [if_neg (by simp)]
        · rfl
      · rw [if_neg (c := (e.Kind == 8) = true) (by simpa using k8)]
        by_cases k9:e.Kind = 9
        · rw [if_pos (c := (e.Kind == 9) = true) (by simpa using k9),if_pos (c := e.Kind = 8 ∨ e.Kind = 9) (.inr k9),if_pos (c := true = true) rfl,if_neg (c := e.Kind = 8) k8];dsimp only;have lL:(downL w.Down e.At).length + (downR w.Down e.At).length = w.Down.length := by
            have := congrArg List.length (downLR w.Down e.At);rw [List.length_append] at this;omega
          cases hh:hasI w.Down e.At
          · rw [if_neg (by decide)];exact congrArg some (show w = { w with Down := downN w.Down e.At e.Kind } by rw [← keep9_p hh k8])
          · obtain ⟨t,et,_⟩ := downR_cons hp (mem_hasI.1 hh);rw [et,List.length_cons] at lL;unfold slices_Delete_int_int_m;rw [if_pos rfl,wrap_i64 (by omega) (by omega),gd_pos (by omega),bd_val,Int.toNat_natCast,show (((downL w.Down e.At).length:Int) + 1).toNat = (downL w.Down e.At).length + 1 by omega,del_p hp hh k8]
            rfl
        · rw [if_neg (c := (e.Kind == 9) = true) (by simpa using k9),if_neg (by omega)]
theorem iStepO_p {w:TreeWorld} (h:Good w) (e:TreeEvent):impl_TreeStep_pu_o00_01_02_03_04_05_m w e = some (doEv w e) := by
  have hl := h.len;unfold impl_TreeStep_pu_o00_01_02_03_04_05_m doEv;rw [implWorldOk_p (by have := hl.b; omega) (by have := hl.l; omega) (by have := hl.d; omega) (by have := hl.r; omega),bd_val,good_iff.2 h,if_neg (by decide),iCopy_p (Len.mono hl (by omega)),bd_val];have e2:((if (e.Kind == 2) = true then some (e.Kind == 2) else (if (e.Kind == 3) = true then some (e.Kind == 3) else some (e.Kind == 4))):Option Bool) = some (decide (e.Kind = 2 ∨ e.Kind = 3 ∨ e.Kind = 4)) := by
    by_cases a:e.Kind = 2
    · simp [a]
    · by_cases b:e.Kind = 3
      · simp [b]
      · by_cases c:e.Kind = 4
        · simp [c]
        · simp [a,b,c]
  have e6:((if (e.Kind == 6) = true then some (e.Kind == 6) else some (e.Kind == 7)):Option Bool) = some (decide (e.Kind = 6 ∨ e.Kind = 7)) := by
    by_cases a:e.Kind = 6
    · simp [a]
    · by_cases b:e.Kind = 7
      · simp [b]
      · simp [a,b]
  rw [e2,bd_val]
  by_cases k2:e.Kind = 2 ∨ e.Kind = 3 ∨ e.Kind = 4
  · rw [if_pos (by simpa using k2),if_neg (show ¬ e.Kind = 1 by omega),if_pos k2,iWordsO_p h,bd_val]
  · rw [if_neg (by simpa using k2)]
    by_cases k5:e.Kind = 5
    · rw [if_pos (by simpa using k5),if_neg (show ¬ e.Kind = 1 by omega),if_neg k2,if_pos k5,iTickO_p h,bd_val]
    · rw [if_neg (by simpa using k5),e6,bd_val]
      by_cases k6:e.Kind = 6 ∨ e.Kind = 7
      · rw [if_pos (by simpa using k6),if_neg (show ¬ e.Kind = 1 by omega),if_neg k2,if_neg k5,if_pos k6,iBridgeO_p h,bd_val]
      · rw [if_neg (by simpa using k6),iLinkO_p h,bd_val];have eq:(if e.Kind = 1 then sayEv w e else if e.Kind = 2 ∨ e.Kind = 3 ∨ e.Kind = 4 then words w e else if e.Kind = 5 then ticked w else if e.Kind = 6 ∨ e.Kind = 7 then bridgeEv w e else if e.Kind = 8 ∨ e.Kind = 9 then linkEv w e else w) = if e.Kind = 1 then sayEv w e else if e.Kind = 8 ∨ e.Kind = 9 then linkEv w e else w := by
          rw [if_neg k2,if_neg k5,if_neg k6]
        rw [eq]
theorem iStepO_no {w:TreeWorld} (hl:w.Len 9223372036854775807) (h:worldOk w = false) (e:TreeEvent):impl_TreeStep_pu_o00_01_02_03_04_05_m w e = some ⟨[],[],[],[],[],[]⟩ := by
  unfold impl_TreeStep_pu_o00_01_02_03_04_05_m;rw [implWorldOk_p hl.b hl.l hl.d hl.r,bd_val,h]; rfl
end Go.Proofs.YtfgmolljcgnafabGreat
