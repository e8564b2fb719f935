/-
  Plain Lean: words, ticks, bridges, links: what the reference's steps do, and that they leave a world ok.
-/
import Derived.Test.YtejhbiefhpgjeaaGreatKz5
import Derived.Test.YtejhbiefhpgjeaaGreatTreeSz
set_option linter.all false
namespace Go.Proofs.YtejhbiefhpgjeaaGreat
open Go Go.Ab
set_option maxHeartbeats 400000
def setRadio (w:TreeWorld) (rs:List TreeWord):TreeWorld:={ w with Radio:=rs }
theorem mem_getD {α:Type} [Inhabited α] {xs:List α} {p:α→Prop} (h:∀ i,i < xs.length→p (xs.getD i default)):∀ x ∈ xs,p x:=fun x hx=>by
  obtain ⟨i,hi,e⟩:=List.getElem_of_mem hx;have:=h i hi;rw [List.getD_eq_getElem?_getD,List.getElem?_eq_getElem hi] at this;exact e ▸ this
theorem getD_mem {α:Type} [Inhabited α] {xs:List α} {i:Nat} (hi:i < xs.length):xs.getD i default ∈ xs:=by
  rw [List.getD_eq_getElem?_getD,List.getElem?_eq_getElem hi];exact List.getElem_mem hi
theorem good_radio {w:TreeWorld} (h:Good w) {rs:List TreeWord} (hl:rs.length≤12) (hr:∀ x ∈ rs,wordOk w x=true):Good (setRadio w rs) :=
  ⟨h.link,h.br,h.a,h.b,hl,h.down,fun _ hi=>hr _ (getD_mem hi),h.ends⟩
theorem Good.words {w:TreeWorld} (h:Good w):∀ x ∈ w.Radio,wordOk w x=true:=mem_getD (p:=fun x=>wordOk w x=true) h.radio
def outR (w:TreeWorld) (a:Nat):TreeWorld:=setRadio w (w.Radio.take a ++ w.Radio.drop (a+1))
theorem outR_len {w:TreeWorld} {a:Nat} (ha:a < w.Radio.length):(outR w a).Radio.length=w.Radio.length - 1:=by
  show (w.Radio.take a ++ w.Radio.drop (a+1)).length=_;rw [List.length_append,List.length_take,List.length_drop];omega
theorem good_out {w:TreeWorld} (h:Good w) {a:Nat} (ha:a < w.Radio.length):Good (outR w a):=by
  have hr:=h.rl;refine good_radio h (by have:=outR_len ha; unfold outR setRadio at this; dsimp only at this; omega) fun x hx=>h.words x ?_;rcases List.mem_append.1 hx with hx | hx
  · exact List.mem_of_mem_take hx
  · exact List.mem_of_mem_drop hx
theorem out_p {w:TreeWorld} (h:Good w) {a:Nat} (ha:a < w.Radio.length):spec_l83Out_m w (a:Int)=some (outR w a):=by
  have hr:=h.rl;unfold spec_l83Out_m outR setRadio;rw [wrap_i64 (n:=(a:Int)+1) (by omega) (by omega),dsub_eq,gd_pos (by omega),gd_pos (by omega),gd_pos (by omega),gd_pos (by rw [List.length_take]; omega)];rw [show ((a:Int)+1).toNat=a+1 by omega,Int.toNat_natCast,show w.Radio.take (a+1+((w.Radio.length:Int) - ((a:Int)+1)).toNat)=w.Radio from List.take_of_length_le (by omega)]
theorem out5_p (w:TreeWorld) (a:Int):spec_l83Out_o00_03_04_05f_m w a=spec_l83Out_m w a:=rfl
theorem hear4_p (w:TreeWorld) (x:TreeWord):spec_l83Hear_o00_03_04_05_m w x=spec_l83Hear_m w x:=rfl
def putR (w:TreeWorld) (x:TreeWord):TreeWorld:=if w.Radio.length < 12 then setRadio w (w.Radio ++ [x]) else w
theorem put_p (w:TreeWorld) (x:TreeWord):spec_l83Put_m w x=some (putR w x):=by
  unfold spec_l83Put_m putR
  by_cases h:w.Radio.length < 12
  · rw [if_pos (by simp; omega),if_pos h,gd_pos (by simp; omega)]; rfl
  · rw [if_neg (by simp; omega),if_neg h]
theorem good_put {w:TreeWorld} (h:Good w) {x:TreeWord} (hx:wordOk w x=true):Good (putR w x):=by
  unfold putR;split
  · refine good_radio h (by simp; omega) fun y hy=>?_;rcases List.mem_append.1 hy with hy | hy
    · exact h.words y hy
    · rw [List.mem_singleton.1 hy]; exact hx
  · exact h
def words (w:TreeWorld) (e:TreeEvent):TreeWorld :=
  if inR e.At 0 ((w.Radio.length:Int) - 1)=true then
    if e.Kind=2 then hear (outR w e.At.toNat) (w.Radio.getD e.At.toNat default)
    else if e.Kind=3 then putR w (w.Radio.getD e.At.toNat default) else outR w e.At.toNat
  else w
theorem good_words {w:TreeWorld} (h:Good w) (e:TreeEvent):Good (words w e):=by
  unfold words;split
  · rename_i hi;rw [inR_iff] at hi;have ha:e.At.toNat < w.Radio.length:=by omega
    have hx:wordOk w (w.Radio.getD e.At.toNat default)=true:=h.radio _ ha;split
    · exact good_hear (good_out h ha) hx
    · split
      · exact good_put h hx
      · exact good_out h ha
  · exact h
theorem words_p {w:TreeWorld} (h:Good w) (e:TreeEvent):spec_l83Words_m w e=some (words w e):=by
  have hr:=h.rl;unfold spec_l83Words_m words;rw [wrap_i64 (by omega) (by omega),l81In_p,bd_val]
  cases hi:inR e.At 0 ((w.Radio.length:Int) - 1)
  · rfl
  · have hi':=inR_iff.1 hi;have ha:e.At.toNat < w.Radio.length:=by omega
    have hx:wordOk w (w.Radio.getD e.At.toNat default)=true:=h.radio _ ha;have ea:((e.At.toNat:Nat):Int)=e.At:=by omega
    have o:=out_p h ha;rw [ea] at o;rw [if_neg (by decide),gd_pos (by omega),if_pos rfl,out5_p,o,bd_val]
    by_cases h2:e.Kind=2
    · rw [if_pos (by simp [h2]),if_pos h2];exact (bd_of (hear_p (good_out h ha) hx)).trans rfl
    · rw [if_neg (by simp [h2]),if_neg h2]
      by_cases h3:e.Kind=3
      · rw [if_pos (by simp [h3]),if_pos h3];exact (bd_of (put_p _ _)).trans rfl
      · rw [if_neg (by simp [h3]),if_neg h3,bd_val]
theorem words4_p (w:TreeWorld) (e:TreeEvent):spec_l83Words_o00_03_04_05_m w e=spec_l83Words_m w e:=rfl
theorem same_words {w:TreeWorld} {e:TreeEvent}:Same w (words w e):=by
  unfold words;split
  · split
    · exact Same.trans (v:=outR w e.At.toNat) ⟨rfl,rfl⟩ same_hear
    · split
      · unfold putR;split
        · exact ⟨rfl,rfl⟩
        · exact .refl _
      · exact ⟨rfl,rfl⟩
  · exact .refl _
def older (s:TreeSlot):TreeSlot:=if s.Left≤1 then ⟨⟨0,0,0⟩,0⟩ else ⟨s.Vector,s.Left - 1⟩
theorem slotLeft {s:TreeSlot} (h:slotOk s=true):0≤s.Left∧s.Left≤3∧((s.Left == 0)=nothing s.Vector):=by
  unfold slotOk at h;rw [Bool.and_eq_true,Bool.and_eq_true,inR_iff,beq_iff_eq] at h;exact ⟨h.1.2.1,h.1.2.2,h.2⟩
theorem older_p {s:TreeSlot} (h:slotOk s=true):spec_l83Older_m s=some (older s):=by
  have:=slotLeft h;unfold spec_l83Older_m older
  by_cases hl:s.Left≤1
  · rw [if_pos (by simpa using hl),if_pos hl]
  · rw [if_neg (by simpa using hl),if_neg hl,wrap_i64 (by omega) (by omega)]
theorem older_ok {w:TreeWorld} {i:Nat} {s:TreeSlot} {b:Int} (h:endOk w i s b=true):endOk w i (older s) b=true:=by
  unfold older;split
  · exact empty_end w i b
  · rename_i hl;unfold endOk at h ⊢;rw [Bool.and_eq_true] at h ⊢;have hs:=slotLeft h.1;have hv:vecOk s.Vector=true:=by
      have:=h.1;unfold slotOk at this;rw [Bool.and_eq_true,Bool.and_eq_true] at this;exact this.1.1
    refine ⟨?_,h.2⟩;unfold slotOk;rw [hv,inR_iff.2 ⟨by dsimp only; omega,by dsimp only; omega⟩,← hs.2.2];have e1:(s.Left == 0)=false:=by simp; omega
    have e2:(s.Left - 1 == 0)=false:=by simp; omega
    dsimp only;rw [e1,e2]; rfl
def ageStep (w:TreeWorld) (i:Nat):TreeWorld:=setSlot (setSlot w i 0 (older (w.AtA.getD i default))) i 1 (older (w.AtB.getD i default))
theorem good_age {w:TreeWorld} (h:Good w) {i:Nat} (hi:i < w.Links.length):Good (ageStep w i):=by
  have he:=h.ends i hi;unfold endsOk at he;rw [Bool.and_eq_true] at he;have g:=good_setSlot (e:=0) h hi (older_ok he.1);exact good_setSlot (e:=1) g hi (older_ok he.2)
def aged (w:TreeWorld):TreeWorld:=(List.range w.Links.length).foldl ageStep w
def Slots (w v:TreeWorld):Prop:=v={ w with AtA:=v.AtA,AtB:=v.AtB }
theorem Slots.br {w v:TreeWorld} (h:Slots w v):v.Bridges=w.Bridges:=by unfold Slots at h; rw [h]
theorem Slots.links {w v:TreeWorld} (h:Slots w v):v.Links=w.Links:=by unfold Slots at h; rw [h]
theorem Slots.down {w v:TreeWorld} (h:Slots w v):v.Down=w.Down:=by unfold Slots at h; rw [h]
theorem Slots.radio {w v:TreeWorld} (h:Slots w v):v.Radio=w.Radio:=by unfold Slots at h; rw [h]
theorem slots_age {w v:TreeWorld} {i:Nat} (h:Slots w v):Slots w (ageStep v i):=by
  unfold Slots at h ⊢;rw [h]; rfl
theorem aged_in {w:TreeWorld} (h:Good w):∀ j,j≤w.Links.length→Good ((List.range j).foldl ageStep w)∧Slots w ((List.range j).foldl ageStep w):=by
  intro j
  induction j with
  | zero=>exact fun _=>⟨h,rfl⟩
  | succ j ih =>
    intro hj;obtain ⟨i1,i2⟩:=ih (by omega);rw [List.range_succ,List.foldl_append];refine ⟨good_age i1 ?_,slots_age i2⟩;rw [i2]; exact hj
theorem ageLoop {w:TreeWorld} (h:Good w):lp (σ:=List TreeSlot × List TreeSlot × Int) (β:=(Nat × Nat × (List TreeSlot) × (List TreeSlot))) (fun s1 =>
    (if (decide (s1.2.2 < ((w.Links.length:Nat):Int)))=true then
    gd ((0:Int)≤s1.2.2∧s1.2.2 < ((s1.1.length:Nat):Int)) <|
    bd (spec_l83Older_m (⟨((s1.1.getD s1.2.2.toNat default).Vector),(s1.1.getD s1.2.2.toNat default).Left⟩:TreeSlot)) fun x6 =>
    gd ((0:Int)≤s1.2.2∧s1.2.2 < ((s1.1.length:Nat):Int)) <|
    gd ((0:Int)≤s1.2.2∧s1.2.2 < ((s1.2.1.length:Nat):Int)) <|
    bd (spec_l83Older_m (⟨((s1.2.1.getD s1.2.2.toNat default).Vector),(s1.2.1.getD s1.2.2.toNat default).Left⟩:TreeSlot)) fun x9 =>
    gd ((0:Int)≤s1.2.2∧s1.2.2 < ((s1.2.1.length:Nat):Int)) <|
    some (.inl (s1.1.set s1.2.2.toNat x6,s1.2.1.set s1.2.2.toNat x9,IntKind.i64.wrap (s1.2.2+1)))
    else
    some (.inr (s1.1.length,s1.2.1.length,s1.1,s1.2.1)))) (w.AtA,w.AtB,0)=some ((aged w).AtA.length,(aged w).AtB.length,(aged w).AtA,(aged w).AtB):=by
  have h12:=h.l12;refine (lp_foldE (fun (v:TreeWorld) i=>(v.AtA,v.AtB,(i:Int))) w.Links.length ageStep (fun v=>(v.AtA.length,v.AtB.length,v.AtA,v.AtB)) w (fun i v=>Good v∧Slots w v) ⟨h,rfl⟩ (fun i v hi hv=>⟨good_age hv.1 (by rw [hv.2]; exact hi),slots_age hv.2⟩) ?_ ?_).1
  · intro i v hi hv;have hl:v.Links.length=w.Links.length:=by rw [hv.2]
    have ha:=hv.1.a;have hb:=hv.1.b;have he:=hv.1.ends i (by omega);unfold endsOk endOk at he;rw [Bool.and_eq_true,Bool.and_eq_true,Bool.and_eq_true] at he;rw [if_pos (by simp; omega),gd_pos (by dsimp only; omega)];dsimp only;rw [Int.toNat_natCast,show (⟨(v.AtA.getD i default).Vector,(v.AtA.getD i default).Left⟩:TreeSlot)=v.AtA.getD i default from rfl,older_p he.1.1,bd_val,gd_pos (by omega),gd_pos (by omega),
      show (⟨(v.AtB.getD i default).Vector,(v.AtB.getD i default).Left⟩:TreeSlot)=v.AtB.getD i default from rfl,older_p he.2.1,bd_val,gd_pos (by omega),wrap_succ hi (by omega)]
    rfl
  · intro v hv;rw [if_neg (by simp)]
def ticked (w:TreeWorld):TreeWorld:=(List.range w.Bridges.length).foldl thinks (aged w)
theorem aged_good {w:TreeWorld} (h:Good w):Good (aged w)∧Slots w (aged w):=aged_in h _ (Nat.le_refl _)
theorem ticked_in {w:TreeWorld} (h:Good w):∀ j,j≤w.Bridges.length→Good ((List.range j).foldl thinks (aged w))∧Same w ((List.range j).foldl thinks (aged w)):=by
  have g:=aged_good h;intro j
  induction j with
  | zero=>exact fun _=>⟨g.1,⟨congrArg List.length g.2.br,g.2.links⟩⟩
  | succ j ih =>
    intro hj;obtain ⟨i1,i2⟩:=ih (by omega);rw [List.range_succ,List.foldl_append];exact ⟨good_thinks i1 (by rw [i2.n]; omega),i2.trans same_thinks⟩
theorem good_ticked {w:TreeWorld} (h:Good w):Good (ticked w):=(ticked_in h _ (Nat.le_refl _)).1
theorem same_ticked {w:TreeWorld} (h:Good w):Same w (ticked w):=(ticked_in h _ (Nat.le_refl _)).2
theorem tick_p {w:TreeWorld} (h:Good w):spec_l83Tick_m w=some (ticked w):=by
  have g:=aged_good h;have h8:=h.n8;have e1:(aged w).Bridges=w.Bridges:=g.2.br;have e2:(aged w).Links=w.Links:=g.2.links;have e3:(aged w).Down=w.Down:=g.2.down;have e4:(aged w).Radio=w.Radio:=g.2.radio;unfold spec_l83Tick_m;refine (bd_of (ageLoop h)).trans ?_;dsimp only;refine (bd_fold (fun (v:TreeWorld) i=>(v.Bridges,v.Links,v.Down,v.AtA,v.AtB,v.Radio,(i:Int))) w.Bridges.length thinks (fun v=>(v.Bridges.length,v.Links,v.Down,v.AtA,v.AtB,v.Radio,v.Bridges)) (aged w) (fun _ v=>Good v∧v.Bridges.length=w.Bridges.length) (by rw [e1,e2,e3,e4]; rfl) ⟨g.1,by rw [e1]⟩ (fun i v hi hv=>⟨good_thinks hv.1 (by omega),same_thinks.n.trans hv.2⟩) ?_ ?_).trans rfl
  · intro i v hi hv;rw [if_pos (by simp; omega)];exact (bd_of (thinks_p hv.1 (by omega))).trans (by rw [wrap_succ hi (by omega)])
  · intro v hv;rw [if_neg (by simp [hv.2])]
theorem tick4_p {w:TreeWorld} (h:Good w):spec_l83Tick_o03_04_05_m w=some (ticked w):=by
  have g:=aged_good h;have h8:=h.n8;have e1:(aged w).Bridges=w.Bridges:=g.2.br;have e2:(aged w).Links=w.Links:=g.2.links;have e3:(aged w).Down=w.Down:=g.2.down;have e4:(aged w).Radio=w.Radio:=g.2.radio;unfold spec_l83Tick_o03_04_05_m;refine (bd_of (ageLoop h)).trans ?_;dsimp only;refine (bd_fold (fun (v:TreeWorld) i=>(v.Bridges,v.AtA,v.AtB,v.Radio,v.Links,v.Down,(i:Int))) w.Bridges.length thinks (fun v=>(v.Bridges.length,v.Links,v.Down,v.AtA.length,v.AtB.length,v.Radio.length,v.Bridges,v.AtA,v.AtB,v.Radio)) (aged w) (fun _ v=>Good v∧v.Bridges.length=w.Bridges.length) (by rw [e1,e2,e3,e4]; rfl) ⟨g.1,by rw [e1]⟩ (fun i v hi hv=>⟨good_thinks hv.1 (by omega),same_thinks.n.trans hv.2⟩) ?_ ?_).trans rfl
  · intro i v hi hv;rw [if_pos (by simp; omega)];exact (bd_of (thinks_p hv.1 (by omega))).trans (by rw [wrap_succ hi (by omega)])
  · intro v hv;rw [if_neg (by simp [hv.2])]
def noSlot:TreeSlot:=⟨⟨0,0,0⟩,0⟩
def wipeStep (b:Int) (w:TreeWorld) (i:Nat):TreeWorld :=
  let v:=if (w.Links.getD i default).A=b then setSlot w i 0 noSlot else w
  if (w.Links.getD i default).B=b then setSlot v i 1 noSlot else v
def wiped (w:TreeWorld) (b:Int):TreeWorld:=(List.range w.Links.length).foldl (wipeStep b) w
theorem slots_setSlot {w v:TreeWorld} {i:Nat} {e:Int} {s:TreeSlot} (h:Slots w v):Slots w (setSlot v i e s):=by
  unfold Slots at h ⊢;unfold setSlot;split
  · rw [h]
  · rw [h]
theorem slots_wipe {w v:TreeWorld} {b:Int} {i:Nat} (h:Slots w v):Slots w (wipeStep b v i):=by
  unfold wipeStep;dsimp only;split <;> split <;> first | exact slots_setSlot (slots_setSlot h) | exact slots_setSlot h | exact h
theorem good_wipe {w:TreeWorld} (h:Good w) {b:Int} {i:Nat} (hi:i < w.Links.length):Good (wipeStep b w i):=by
  unfold wipeStep;dsimp only;split <;> split
  · exact good_setSlot (good_setSlot h hi (empty_end _ _ _)) hi (empty_end _ _ _)
  · exact good_setSlot h hi (empty_end _ _ _)
  · exact good_setSlot h hi (empty_end _ _ _)
  · exact h
theorem setSlot_A {w:TreeWorld} {i k:Nat} {s:TreeSlot} (hi:i < w.AtA.length):(setSlot w i 0 s).AtA.getD k default=if k=i then s else w.AtA.getD k default:=by
  unfold setSlot;rw [if_pos rfl];exact getD_setS hi
theorem setSlot_B {w:TreeWorld} {i k:Nat} {s:TreeSlot} (hi:i < w.AtB.length):(setSlot w i 1 s).AtB.getD k default=if k=i then s else w.AtB.getD k default:=by
  unfold setSlot;rw [if_neg (by decide)];exact getD_setS hi
theorem wipe_A {b:Int} {w:TreeWorld} (h:Good w) {i k:Nat} (hi:i < w.Links.length):(wipeStep b w i).AtA.getD k default=if k=i∧(w.Links.getD i default).A=b then noSlot else w.AtA.getD k default:=by
  have ha:=h.a;unfold wipeStep;dsimp only
  by_cases c1:(w.Links.getD i default).A=b
  · have e:∀ v:TreeWorld,(if (w.Links.getD i default).B=b then setSlot v i 1 noSlot else v).AtA=v.AtA:=fun v=>by split <;> rfl
    rw [e,if_pos c1,setSlot_A (by omega)]
    by_cases hk:k=i
    · rw [if_pos hk,if_pos ⟨hk,c1⟩]
    · rw [if_neg hk,if_neg (fun h=>hk h.1)]
  · have e:∀ v:TreeWorld,(if (w.Links.getD i default).B=b then setSlot v i 1 noSlot else v).AtA=v.AtA:=fun v=>by split <;> rfl
    rw [e,if_neg c1,if_neg (fun h=>c1 h.2)]
theorem wipe_B {b:Int} {w:TreeWorld} (h:Good w) {i k:Nat} (hi:i < w.Links.length):(wipeStep b w i).AtB.getD k default=if k=i∧(w.Links.getD i default).B=b then noSlot else w.AtB.getD k default:=by
  have hb:=h.b;unfold wipeStep;dsimp only;have e:(if (w.Links.getD i default).A=b then setSlot w i 0 noSlot else w).AtB=w.AtB:=by split <;> rfl
  by_cases c1:(w.Links.getD i default).B=b
  · rw [if_pos c1,setSlot_B (by rw [e]; omega),e]
    by_cases hk:k=i
    · rw [if_pos hk,if_pos ⟨hk,c1⟩]
    · rw [if_neg hk,if_neg (fun h=>hk h.1)]
  · rw [if_neg c1,e,if_neg (c:=k=i∧(w.Links.getD i default).B=b) (fun h=>c1 h.2)]
theorem wiped_in {w:TreeWorld} (h:Good w) (b:Int):∀ j,j≤w.Links.length→Good ((List.range j).foldl (wipeStep b) w)∧Slots w ((List.range j).foldl (wipeStep b) w) ∧
    (∀ k,k < j→((w.Links.getD k default).A=b→((List.range j).foldl (wipeStep b) w).AtA.getD k default=noSlot)∧((w.Links.getD k default).B=b→((List.range j).foldl (wipeStep b) w).AtB.getD k default=noSlot)):=by
  intro j
  induction j with
  | zero=>exact fun _=>⟨h,rfl,fun k hk=>absurd hk (Nat.not_lt_zero _)⟩
  | succ j ih =>
    intro hj;obtain ⟨i1,i2,i3⟩:=ih (by omega);rw [List.range_succ,List.foldl_append];have hl:((List.range j).foldl (wipeStep b) w).Links=w.Links:=i2.links;refine ⟨good_wipe i1 (by rw [hl]; exact hj),slots_wipe i2,fun k hk=>?_⟩;show (_→(wipeStep b ((List.range j).foldl (wipeStep b) w) j).AtA.getD k default=noSlot)∧(_→(wipeStep b ((List.range j).foldl (wipeStep b) w) j).AtB.getD k default=noSlot);rw [wipe_A i1 (by rw [hl]; exact hj),wipe_B i1 (by rw [hl]; exact hj),hl]
    by_cases e:k=j
    · subst e;exact ⟨fun hA=>if_pos ⟨rfl,hA⟩,fun hB=>if_pos ⟨rfl,hB⟩⟩
    · rw [if_neg (fun h=>e h.1),if_neg (fun h=>e h.1)];exact i3 k (by omega)
def bridgeEv (w:TreeWorld) (e:TreeEvent):TreeWorld :=
  if inR e.At 0 ((w.Bridges.length:Int) - 1)=true then
    if e.Kind=7 then
      if (w.Bridges.getD e.At.toNat default).Up=true then w else setBr w e.At.toNat ⟨(w.Bridges.getD e.At.toNat default).Id,true,⟨⟨(w.Bridges.getD e.At.toNat default).Id,0,0⟩,-1⟩⟩
    else setBr (wiped w e.At) e.At.toNat ⟨(w.Bridges.getD e.At.toNat default).Id,false,⟨⟨0,0,0⟩,0⟩⟩
  else w
theorem same_bridgeEv {w:TreeWorld} (h:Good w) (e:TreeEvent):Same w (bridgeEv w e):=by
  unfold bridgeEv;split
  · split
    · split
      · exact .refl _
      · exact ⟨by simp [setBr],rfl⟩
    · obtain ⟨_,i2,_⟩:=wiped_in h e.At _ (Nat.le_refl _);have hb:(wiped w e.At).Bridges=w.Bridges:=i2.br;have hl:(wiped w e.At).Links=w.Links:=i2.links;exact ⟨by simp [setBr,hb],hl⟩
  · exact .refl _
theorem good_bridgeEv {w:TreeWorld} (h:Good w) (e:TreeEvent):Good (bridgeEv w e):=by
  unfold bridgeEv;split
  · rename_i hi;rw [inR_iff] at hi;have ha:e.At.toNat < w.Bridges.length:=by omega
    have hid:=(bridge_iff.1 (h.br _ ha)).1;split
    · split
      · exact h
      · refine good_setBr h ha rfl ?_ fun i hi'=>?_
        · rw [if_pos rfl];obtain ⟨v1,v2⟩:=vec_ok (c:=0) (g:=0) hid ⟨Int.le_refl _,by decide⟩ ⟨Int.le_refl _,by decide⟩;exact ⟨v1,v2,inR_iff.2 ⟨Int.le_refl _,(show (-1:Int)≤(w.Links.length:Int) - 1 by omega)⟩⟩
        · have he:=h.ends i hi';unfold endsOk at he ⊢;rw [Bool.and_eq_true] at he ⊢;have up:∀ c:Int,upAt w c=true→upAt (setBr w e.At.toNat ⟨(w.Bridges.getD e.At.toNat default).Id,true,⟨⟨(w.Bridges.getD e.At.toNat default).Id,0,0⟩,-1⟩⟩) c=true:=fun c hc=>by
            unfold upAt at hc ⊢;rw [getD_setB ha];split
            · rfl
            · exact hc
          exact ⟨endOk_up (w:=w) rfl (up _) he.1,endOk_up (w:=w) rfl (up _) he.2⟩
    · obtain ⟨i1,i2,i3⟩:=wiped_in h e.At _ (Nat.le_refl _);have hb:(wiped w e.At).Bridges=w.Bridges:=i2.br;have hl:(wiped w e.At).Links=w.Links:=i2.links;have hd:(wiped w e.At).Down=w.Down:=i2.down;refine good_setBr (w:=wiped w e.At) i1 (by rw [hb]; exact ha) (by rw [hb]) (by rw [if_neg (show ¬ (false=true) by decide)]; rfl) fun i hi'=>?_;have hi':i < w.Links.length:=by rw [hl] at hi'; exact hi'
      have hlk:=linkAt h.link hi';have he:=i1.ends i (by show i < (wiped w e.At).Links.length; rw [hl]; exact hi');have hz:=i3 i hi';unfold endsOk at he ⊢;rw [Bool.and_eq_true] at he ⊢;have up:∀ c:Int,0≤c→c ≠ e.At→upAt (wiped w e.At) c=true→upAt (setBr (wiped w e.At) e.At.toNat ⟨(w.Bridges.getD e.At.toNat default).Id,false,⟨⟨0,0,0⟩,0⟩⟩) c=true:=fun c h0 hne hc=>by
        unfold upAt at hc ⊢;rw [getD_setB (by rw [hb]; exact ha),if_neg (by omega)];exact hc
      refine ⟨?_,?_⟩
      · by_cases c:(w.Links.getD i default).A=e.At
        · show endOk _ i ((wiped w e.At).AtA.getD i default) _=true;rw [show (wiped w e.At).AtA.getD i default=noSlot from hz.1 c];exact empty_end _ _ _
        · exact endOk_up (w:=wiped w e.At) rfl (up _ (by show 0≤((wiped w e.At).Links.getD i default).A; rw [hl]; omega) (by show ((wiped w e.At).Links.getD i default).A ≠ _; rw [hl]; exact c)) he.1
      · by_cases c:(w.Links.getD i default).B=e.At
        · show endOk _ i ((wiped w e.At).AtB.getD i default) _=true;rw [show (wiped w e.At).AtB.getD i default=noSlot from hz.2 c];exact empty_end _ _ _
        · exact endOk_up (w:=wiped w e.At) rfl (up _ (by show 0≤((wiped w e.At).Links.getD i default).B; rw [hl]; omega) (by show ((wiped w e.At).Links.getD i default).B ≠ _; rw [hl]; exact c)) he.2
  · exact h
theorem bridge_p {w:TreeWorld} (h:Good w) (e:TreeEvent):spec_l83Bridge_m w e=some (bridgeEv w e):=by
  have h8:=h.n8;have h12:=h.l12;unfold spec_l83Bridge_m bridgeEv;rw [wrap_i64 (by omega) (by omega),l81In_p,bd_val]
  cases hi:inR e.At 0 ((w.Bridges.length:Int) - 1)
  · rfl
  · have hi':=inR_iff.1 hi;rw [if_neg (by decide),gd_pos (by omega),if_pos rfl]
    by_cases h7:e.Kind=7
    · rw [if_pos (by simp [h7]),if_pos h7]
      cases hu:(w.Bridges.getD e.At.toNat default).Up
      · rw [if_pos (show (!false)=true from rfl),if_neg (show ¬ (false=true) by decide),show ∀ a,spec_l82Self_m a=some ⟨⟨a,0,0⟩,-1⟩ from fun _=>rfl,bd_val,gd_pos (by omega),bd_val]
        rfl
      · rfl
    · rw [if_neg (by simp [h7]),if_neg h7,gd_pos (by omega),bd_val];obtain ⟨i1,i2,i3⟩:=wiped_in h e.At _ (Nat.le_refl _);have wl:=lp_foldE (σ:=List TreeSlot × List TreeSlot × Int) (β:=(Nat × Nat × (List TreeSlot) × (List TreeSlot))) (step:=(fun s8 =>
        (if (decide (s8.2.2 < ((w.Links.length:Nat):Int)))=true then
        bd (α:=List TreeSlot) (gd ((0:Int)≤s8.2.2∧s8.2.2 < ((w.Links.length:Nat):Int)) <|
        (if (((w.Links.getD s8.2.2.toNat default).A) == e.At)=true then
        gd ((0:Int)≤s8.2.2∧s8.2.2 < ((s8.1.length:Nat):Int)) <|
        some (s8.1.set s8.2.2.toNat (⟨(⟨0,0,0⟩:TreeVector),0⟩:TreeSlot))
        else
        some s8.1)) fun x12 =>
        gd ((0:Int)≤s8.2.2∧s8.2.2 < ((w.Links.length:Nat):Int)) <|
        (if (((w.Links.getD s8.2.2.toNat default).B) == e.At)=true then
        gd ((0:Int)≤s8.2.2∧s8.2.2 < ((s8.2.1.length:Nat):Int)) <|
        some (.inl (x12,s8.2.1.set s8.2.2.toNat (⟨(⟨0,0,0⟩:TreeVector),0⟩:TreeSlot),IntKind.i64.wrap (s8.2.2+1)))
        else
        some (.inl (x12,s8.2.1,IntKind.i64.wrap (s8.2.2+1))))
        else
        some (.inr (s8.1.length,s8.2.1.length,s8.1,s8.2.1))))) (fun (v:TreeWorld) i=>(v.AtA,v.AtB,(i:Int))) w.Links.length (wipeStep e.At) (fun v=>(v.AtA.length,v.AtB.length,v.AtA,v.AtB)) w (fun _ v=>Good v∧Slots w v) ⟨h,rfl⟩ (fun i v hi hv=>⟨good_wipe hv.1 (by rw [hv.2]; exact hi),slots_wipe hv.2⟩) (fun i v hi hv=>by
          have hl:v.Links=w.Links:=hv.2.links;have ha:=hv.1.a;have hb:=hv.1.b;rw [hl] at ha hb;rw [if_pos (by simp; omega),gd_pos (by dsimp only; omega)];dsimp only;rw [Int.toNat_natCast,wrap_succ hi (by omega)];unfold wipeStep;rw [hl];dsimp only
          by_cases c1:(w.Links.getD i default).A=e.At
          · rw [if_pos (c:=((w.Links.getD i default).A == e.At)=true) (by simpa using c1),gd_pos (by omega),bd_val,gd_pos (by omega),if_pos (c:=(w.Links.getD i default).A=e.At) c1]
            by_cases c2:(w.Links.getD i default).B=e.At
            · rw [if_pos (c:=((w.Links.getD i default).B == e.At)=true) (by simpa using c2),gd_pos (by omega),if_pos (c:=(w.Links.getD i default).B=e.At) c2]
              rfl
            · rw [if_neg (c:=((w.Links.getD i default).B == e.At)=true) (by simpa using c2),if_neg (c:=(w.Links.getD i default).B=e.At) c2]
              rfl
          · rw [if_neg (c:=((w.Links.getD i default).A == e.At)=true) (by simpa using c1),bd_val,gd_pos (by omega),if_neg (c:=(w.Links.getD i default).A=e.At) c1]
            by_cases c2:(w.Links.getD i default).B=e.At
            · rw [if_pos (c:=((w.Links.getD i default).B == e.At)=true) (by simpa using c2),gd_pos (by omega),if_pos (c:=(w.Links.getD i default).B=e.At) c2]
              rfl
            · rw [if_neg (c:=((w.Links.getD i default).B == e.At)=true) (by simpa using c2),if_neg (c:=(w.Links.getD i default).B=e.At) c2]) (fun v hv=>by rw [if_neg (by simp)])
      refine (bd_of wl.1).trans ?_;have hw:wiped w e.At={ w with AtA:=(wiped w e.At).AtA,AtB:=(wiped w e.At).AtB }:=i2;show some _=some (setBr (wiped w e.At) _ _);rw [hw]
      rfl
end Go.Proofs.YtejhbiefhpgjeaaGreat
