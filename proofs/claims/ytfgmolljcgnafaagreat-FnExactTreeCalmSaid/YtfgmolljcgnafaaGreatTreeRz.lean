/-
  Plain Lean: rounds of calm: the program's and the reference's are the same function; the row FnTreeRounds.
-/
import Derived.Test.YtfgmolljcgnafaaGreatKz4
import Derived.Test.YtfgmolljcgnafaaGreatTreeI3z
import Derived.Test.YtfgmolljcgnafaaGreatTreeI2bz
set_option linter.all false
namespace Go.Proofs.YtfgmolljcgnafaaGreat
open Go Go.Ab
set_option maxHeartbeats 400000
theorem hear_down (w:TreeWorld) (x:TreeWord):(hear w x).Down = w.Down := by rw [hear_sh]
theorem words_down (w:TreeWorld) (e:TreeEvent):(words w e).Down = w.Down := by rw [words_sh]
theorem tick_down {w:TreeWorld} (h:Good w):(ticked w).Down = w.Down := by rw [tick_sh h]
structure Kp (w v:TreeWorld):Prop where
  g:Good v
  s:Same w v
  d:v.Down = w.Down
theorem Kp.refl {w:TreeWorld} (h:Good w):Kp w w := ⟨h,.refl _,rfl⟩
theorem Kp.trans {u v w:TreeWorld} (h:Kp u v) (k:Kp v w):Kp u w := ⟨k.g,h.s.trans k.s,k.d.trans h.d⟩
def drainStep (w:TreeWorld) (_:Nat):TreeWorld := words w ⟨2,0,0⟩
def drain (w:TreeWorld):TreeWorld := (List.range w.Radio.length).foldl drainStep w
theorem drain_len {w:TreeWorld} (h:0 < w.Radio.length):(words w ⟨2,0,0⟩).Radio.length = w.Radio.length - 1 := by
  unfold words;rw [if_pos (inR_iff.2 ⟨Int.le_refl _,(show (0:Int) ≤ (w.Radio.length:Int) - 1 by omega)⟩),if_pos rfl,hear_radio];exact outR_len h
def DrI (w:TreeWorld) (n:Nat) (i:Nat) (v:TreeWorld):Prop := Kp w v ∧ v.Radio.length + i = n
theorem dri_step {w v:TreeWorld} {n i:Nat} (hi:i < n) (h:DrI w n i v):DrI w n (i + 1) (drainStep v i) := by
  have := h.2;refine ⟨h.1.trans ⟨good_words h.1.g _,same_words,words_down _ _⟩,?_⟩;show (words v ⟨2,0,0⟩).Radio.length + (i + 1) = n;rw [drain_len (by omega)];omega
def linkR (t:Nat) (w:TreeWorld) (i:Nat):TreeWorld :=
  if isOpen w ((i + t) % w.Links.length) = true then hear (hear w (wordFor w ((i + t) % w.Links.length) 0)) (wordFor (hear w (wordFor w ((i + t) % w.Links.length) 0)) ((i + t) % w.Links.length) 1) else w
theorem linkR_ok {w:TreeWorld} (h:Good w) {k:Nat} (hk:k < w.Links.length) (ho:isOpen w k = true):wordOk w (wordFor w k 0) = true ∧ Good (hear w (wordFor w k 0)) ∧ k < (hear w (wordFor w k 0)).Links.length ∧ wordOk (hear w (wordFor w k 0)) (wordFor (hear w (wordFor w k 0)) k 1) = true := by
  have w1 := wordFor_ok h hk (e := 0) (.inl rfl) (open_up ho _);have g1 := good_hear h w1;have sm1:Same w (hear w (wordFor w k 0)) := same_hear;have hkl1:k < (hear w (wordFor w k 0)).Links.length := by rw [sm1.links]; exact hk
  exact ⟨w1,g1,hkl1,wordFor_ok g1 hkl1 (e := 1) (.inr rfl) (by rw [up_hear h w1,br_same sm1]; exact open_up ho _)⟩
theorem kp_hear {w:TreeWorld} (h:Good w) {x:TreeWord} (hx:wordOk w x = true):Kp w (hear w x) := ⟨good_hear h hx,same_hear,hear_down _ _⟩
theorem kp_linkR {t:Nat} {w:TreeWorld} (h:Good w) {i:Nat} (hi:0 < w.Links.length):Kp w (linkR t w i) := by
  unfold linkR;split
  · rename_i ho;obtain ⟨a,b,c,d⟩ := linkR_ok h (Nat.mod_lt _ hi) ho;exact (kp_hear h a).trans (kp_hear b d)
  · exact .refl h
def roundR (t:Nat) (w:TreeWorld):TreeWorld := ticked ((List.range w.Links.length).foldl (linkR t) (drain w))
theorem kp_drain {w:TreeWorld} (h:Good w):Kp w (drain w) := by
  have key:∀ j,j ≤ w.Radio.length → DrI w w.Radio.length j ((List.range j).foldl drainStep w) := by
    intro j
    induction j with
    | zero => exact fun _ => ⟨.refl h,by simp⟩
    | succ j ih => intro hj; rw [List.range_succ,List.foldl_append]; exact dri_step (by omega) (ih (by omega))
  exact (key _ (Nat.le_refl _)).1
theorem kp_links {t:Nat} {w u:TreeWorld} (h:Kp w u):∀ j,j ≤ w.Links.length → Kp w ((List.range j).foldl (linkR t) u) := by
  intro j
  induction j with
  | zero => exact fun _ => h
  | succ j ih =>
    intro hj;have i := ih (by omega);rw [List.range_succ,List.foldl_append];exact i.trans (kp_linkR i.g (by rw [i.s.links]; omega))
theorem kp_round {t:Nat} {w:TreeWorld} (h:Good w):Kp w (roundR t w) := by
  have k := kp_links (t := t) (kp_drain h) _ (Nat.le_refl _);exact k.trans ⟨good_ticked k.g,same_ticked k.g,tick_down k.g⟩
theorem modI {a b l:Nat}:((a:Int) + (b:Int)).tmod (l:Int) = (((a + b) % l:Nat):Int) := by
  rw [← Int.natCast_add,Int.ofNat_tmod]
theorem sRound_p {w:TreeWorld} (h:Good w) {t:Nat} (ht:t ≤ 1000):spec_l83Round_o03_04_05_m w (t:Int) = some (roundR t w) := by
  have h12 := h.l12;unfold spec_l83Round_o03_04_05_m;refine (bd_fold (fun (v:TreeWorld) _ => (v.Bridges,v.AtA,v.AtB,v.Radio,v.Links,v.Down)) w.Radio.length drainStep (fun v => (v.Bridges.length,v.Links,v.Down,v.AtA.length,v.AtB.length,v.Radio.length,v.Bridges,v.AtA,v.AtB,v.Radio)) w (DrI w w.Radio.length) rfl ⟨.refl h,by simp⟩ (fun i v hi hv => dri_step hi hv) ?_ ?_).trans ?_
  · intro i v hi hv;have := hv.2;dsimp only;rw [if_pos (decide_eq_true (by omega)),words4_p];exact (bd_of (words_p hv.1.g _)).trans rfl
  · intro v hv;have := hv.2;dsimp only;rw [if_neg (fun hh => by have := of_decide_eq_true hh; omega)]
  · have kd := kp_drain h;have hl:((List.range w.Radio.length).foldl drainStep w).Links.length = w.Links.length := congrArg List.length kd.s.links;dsimp only;rw [hl]
    change bd (lp _ ((drain w).Bridges,(drain w).AtA,(drain w).AtB,(drain w).Radio,(drain w).Links,(drain w).Down,0)) _ = _
    refine (bd_fold (fun (v:TreeWorld) i => (v.Bridges,v.AtA,v.AtB,v.Radio,v.Links,v.Down,(i:Int))) w.Links.length (linkR t) (fun v => (v.Bridges.length,v.Links,v.Down,v.AtA.length,v.AtB.length,v.Radio.length,v.Bridges,v.AtA,v.AtB,v.Radio)) (drain w) (fun _ v => Kp w v) rfl kd (fun i v hi hv => hv.trans (kp_linkR hv.g (by rw [hv.s.links]; omega))) ?_ ?_).trans ?_
    · intro i v hi hv;have hvl:v.Links.length = w.Links.length := congrArg List.length hv.s.links;dsimp only;rw [if_pos (decide_eq_true (by omega)),gd_pos (by omega),wrap_i64 (n := (i:Int) + (t:Int)) (by omega) (by omega),modI];have hk:(i + t) % w.Links.length < v.Links.length := by rw [hvl]; exact Nat.mod_lt _ (by omega)
      rw [specOpenL_p hv.g.wok (by have := hv.g.len.d; omega) hk,bd_val];unfold linkR;rw [hvl]
      by_cases ho:isOpen v ((i + t) % w.Links.length) = true
      · obtain ⟨a,b,c,d⟩ := linkR_ok hv.g hk ho;rw [if_pos ho,if_pos ho,wrap_succ hi (by omega)];refine (bd_of (word_p hv.g hk (.inl rfl))).trans ?_;refine (bd_of ((hear4_p _ _).trans (hear_p hv.g a))).trans ?_;refine (bd_of (word_p b c (.inr rfl))).trans ?_;exact (bd_of ((hear4_p _ _).trans (hear_p b d))).trans rfl
      · rw [if_neg ho,if_neg ho,wrap_succ hi (by omega)]
    · intro v hv;dsimp only;rw [if_neg (by simp)]
    · have k := kp_links (t := t) kd _ (Nat.le_refl _);exact (bd_of (tick4_p k.g)).trans rfl
def itN (f:TreeWorld → TreeWorld):Nat → TreeWorld → TreeWorld
  | 0,w => w
  | n + 1,w => f (itN f n w)
theorem itN_fold (f:TreeWorld → TreeWorld) (w:TreeWorld):∀ n,(List.range n).foldl (fun v _ => f v) w = itN f n w
  | 0 => rfl
  | n + 1 => by rw [List.range_succ,List.foldl_append,itN_fold f w n]; rfl
theorem kp_it {t:Nat} {w:TreeWorld} (h:Good w):∀ n,Kp w (itN (roundR t) n w)
  | 0 => .refl h
  | n + 1 => (kp_it h n).trans (kp_round (kp_it h n).g)
def off (w:TreeWorld) (a:Int):Nat := if w.Links.length = 0 then 0 else a.toNat % w.Links.length
def rnds (r:Int):Nat := min 60 r.toNat
theorem off_le {w:TreeWorld} (h:Good w) (a:Int):off w a ≤ 12 := by
  have := h.l12;unfold off;split
  · omega
  · have := Nat.mod_lt a.toNat (show 0 < w.Links.length by omega); omega
theorem sCalm_p {w:TreeWorld} (h:Good w) (r a:Int):spec_TreeCalm_m w r a = some (itN (roundR (off w a)) (rnds r) w) := by
  have hl := h.len;unfold spec_TreeCalm_m;rw [specWorldOk_p (by have := hl.b; omega) (by have := hl.l; omega) (by have := hl.d; omega) (by have := hl.r; omega),bd_val,good_iff.2 h,if_neg (by decide),copyB_p,h.copy,bd_val];have eo:((if ((decide (a > 0)) && (decide (((w.Links.length:Nat):Int) > 0))) = true then gd ((((w.Links.length:Nat):Int):Int) ≠ 0) <| some ((a:Int).tmod ((w.Links.length:Nat):Int)) else some 0):Option Int) = some ((off w a:Nat):Int) := by
    unfold off
    by_cases c:0 < a ∧ 0 < w.Links.length
    · rw [if_pos (by simp; omega),gd_pos (by omega),if_neg (by omega)];have ea:((a.toNat:Nat):Int) = a := by omega
      rw [Int.ofNat_tmod,ea]
    · rw [if_neg (fun hh => by rw [Bool.and_eq_true,decide_eq_true_eq,decide_eq_true_eq] at hh; omega)]
      by_cases c2:w.Links.length = 0
      · rw [if_pos c2]; rfl
      · rw [if_neg c2,show a.toNat = 0 by omega,Nat.zero_mod]; rfl
  rw [eo,bd_val];refine (bd_fold (fun (v:TreeWorld) i => (v.Bridges,v.AtA,v.AtB,v.Radio,v.Links,v.Down,(i:Int))) (rnds r) (fun v _ => roundR (off w a) v) (fun v => (v.Bridges.length,v.Links,v.Down,v.AtA.length,v.AtB.length,v.Radio.length,v.Bridges,v.AtA,v.AtB,v.Radio)) w (fun _ v => Kp w v) rfl (.refl h) (fun i v hi hv => hv.trans (kp_round hv.g)) ?_ ?_).trans ?_
  · intro i v hi hv;unfold rnds at hi;dsimp only;rw [if_pos (by simp; omega),wrap_i64 (n := (i:Int) + 1) (by omega) (by omega)];exact (bd_of (sRound_p hv.g (by have := off_le h a; omega))).trans rfl
  · intro v hv;dsimp only;rw [if_neg (by unfold rnds; simp; omega)]
  · rw [itN_fold];exact (bd_of (kp_it h _).g.copy).trans rfl
theorem rnds_p (r:Int):(if 60 < (if 0 > r then 0 else r) then 60 else (if 0 > r then 0 else r)) = ((rnds r:Nat):Int) := by
  unfold rnds
  by_cases c:0 > r
  · rw [if_pos c,if_neg (by decide)]; omega
  · rw [if_neg c]
    by_cases c2:60 < r
    · rw [if_pos c2]; omega
    · rw [if_neg c2]; omega
end Go.Proofs.YtfgmolljcgnafaaGreat
