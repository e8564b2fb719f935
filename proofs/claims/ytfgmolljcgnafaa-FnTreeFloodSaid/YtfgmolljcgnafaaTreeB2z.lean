/-
  Plain Lean: the root that one is joined with, the link towards it, and the way there; impl's and the reference's alike.
-/
import Derived.Test.YtfgmolljcgnafaaKz5
import Derived.Test.YtfgmolljcgnafaaTreeBz
set_option linter.all false
namespace Go.Proofs.Ytfgmolljcgnafaa
open Go Go.Ab
set_option maxHeartbeats 400000
def near (x:Int):Bool := decide (x < far)
def idAt (w:TreeWorld) (v:Nat):Int := (w.Bridges.getD v default).Id
def leastStep (w:TreeWorld) (D:List Int) (best i:Nat):Nat := if near (D.getD i default) = true ∧ idAt w i < idAt w best then i else best
def leastOf (w:TreeWorld) (D:List Int) (b:Nat):Nat := (List.range w.Bridges.length).foldl (leastStep w D) b
def rootOf (w:TreeWorld) (b:Nat):Nat := leastOf w ((netOf w).costs b) b
theorem leastStep_in {w:TreeWorld} {D:List Int} {n best i:Nat} (h:best < n ∧ near (D.getD best default) = true) (hi:i < n):leastStep w D best i < n ∧ near (D.getD (leastStep w D best i) default) = true := by
  unfold leastStep;split
  · rename_i hh; exact ⟨hi,hh.1⟩
  · exact h
theorem fold_in {α:Type} {f:α → Nat → α} {p:α → Prop} (n:Nat) (hf:∀ a i,i < n → p a → p (f a i)) {a:α} (h:p a):∀ j,j ≤ n → p ((List.range j).foldl f a)
  | 0,_ => h
  | j + 1,hj => by
    rw [List.range_succ,List.foldl_append];exact hf _ _ hj (fold_in n hf h j (by omega))
theorem rootOf_in {w:TreeWorld} (hw:WOk w) {b:Nat} (hb:b < w.Bridges.length):rootOf w b < w.Bridges.length ∧ near (((netOf w).costs b).getD (rootOf w b) default) = true := by
  refine fold_in (p := fun x => x < w.Bridges.length ∧ near (((netOf w).costs b).getD x default) = true) w.Bridges.length (fun a i hi h => leastStep_in h hi) ⟨hb,?_⟩ _ (Nat.le_refl _);have := ((netOf w).inv_after (netOk hw) (r := b) (k := (netOf w).n) hb).root;unfold Net.costs;rw [this]; decide
theorem costs_bd {w:TreeWorld} (hw:WOk w) {r:Nat} (hr:r < w.Bridges.length):Bd 96 ((netOf w).costs r) := by
  have h := (netOf w).bd_after (netOk hw) (r := r) (k := (netOf w).n) hr;have hs := netSize hw;intro v hv;have := h v hv;unfold Net.costs;omega
structure Up where
  link:Int
  next:Int
def upEnd (w:TreeWorld) (D:List Int) (v:Nat) (i:Nat) (s:Up) (e:Nat):Up :=
  if isOpen w i = true ∧ brAt w i (e:Int) = (v:Int) ∧ D.getD (brAt w i (1 - (e:Int))).toNat default + (w.Links.getD i default).Cost = D.getD v default ∧ (s.link < 0 ∨ idAt w (brAt w i (1 - (e:Int))).toNat < idAt w s.next.toNat)
  then ⟨i,brAt w i (1 - (e:Int))⟩ else s
def upStep (w:TreeWorld) (D:List Int) (v:Nat) (s:Up) (i:Nat):Up := upEnd w D v i (upEnd w D v i s 0) 1
def upOf (w:TreeWorld) (D:List Int) (v:Nat):Up := (List.range w.Links.length).foldl (upStep w D v) ⟨-1,-1⟩
def othOf (w:TreeWorld) (v:Nat) (i:Nat):Int := if (v:Int) = (w.Links.getD i default).A then (w.Links.getD i default).B else if (v:Int) = (w.Links.getD i default).B then (w.Links.getD i default).A else -1
def Up.In (w:TreeWorld) (D:List Int) (v:Nat) (s:Up):Prop := s.link < 0 ∨ (0 ≤ s.link ∧ s.link < w.Links.length ∧ 0 ≤ s.next ∧ s.next < w.Bridges.length ∧ D.getD s.next.toNat default < D.getD v default ∧ othOf w v s.link.toNat = s.next)
theorem brAt_in {w:TreeWorld} (hw:WOk w) {i:Nat} (hi:i < w.Links.length) (e:Int):0 ≤ brAt w i e ∧ brAt w i e < w.Bridges.length := by
  have hl := linkAt hw.link hi;unfold brAt;split <;> omega
theorem upEnd_in {w:TreeWorld} (hw:WOk w) {D:List Int} {v i e:Nat} {s:Up} (hi:i < w.Links.length) (he:e = 0 ∨ e = 1) (h:s.In w D v):(upEnd w D v i s e).In w D v := by
  have hl := linkAt hw.link hi;unfold upEnd;split
  · rename_i hh;have hb := brAt_in hw hi (1 - (e:Int));refine .inr ⟨by dsimp only; omega,by dsimp only; omega,hb.1,hb.2,by dsimp only; omega,?_⟩;have h2 := hh.2.1;dsimp only;rw [Int.toNat_natCast];unfold othOf;rcases he with rfl | rfl
    · rw [if_pos (show (v:Int) = (w.Links.getD i default).A from h2.symm)]; rfl
    · have h3:(w.Links.getD i default).B = (v:Int) := h2;rw [if_neg (by omega),if_pos h3.symm]; rfl
  · exact h
theorem upStep_in {w:TreeWorld} (hw:WOk w) {D:List Int} {v i:Nat} {s:Up} (hi:i < w.Links.length) (h:s.In w D v):(upStep w D v s i).In w D v := upEnd_in hw hi (.inr rfl) (upEnd_in hw hi (.inl rfl) h)
theorem upOf_in {w:TreeWorld} (hw:WOk w) (D:List Int) (v:Nat):(upOf w D v).In w D v := fold_in (p := fun s => Up.In w D v s) w.Links.length (fun _ _ hi h => upStep_in hw hi h) (.inl (by decide)) _ (Nat.le_refl _)
theorem upEnd_keeps {w:TreeWorld} {D:List Int} {v i e:Nat} {s:Up} (h:0 ≤ s.link):0 ≤ (upEnd w D v i s e).link := by
  unfold upEnd;split
  · dsimp only; omega
  · exact h
theorem upEnd_takes {w:TreeWorld} {D:List Int} {v i e:Nat} {s:Up} (h1:isOpen w i = true) (h2:brAt w i (e:Int) = (v:Int)) (h3:D.getD (brAt w i (1 - (e:Int))).toNat default + (w.Links.getD i default).Cost = D.getD v default):0 ≤ (upEnd w D v i s e).link := by
  unfold upEnd;split
  · dsimp only; omega
  · rename_i hh;refine Int.not_lt.1 fun hl => hh ⟨h1,h2,h3,.inl hl⟩
theorem upOf_takes {w:TreeWorld} {D:List Int} {v i e:Nat} (hi:i < w.Links.length) (he:e = 0 ∨ e = 1) (h1:isOpen w i = true) (h2:brAt w i (e:Int) = (v:Int)) (h3:D.getD (brAt w i (1 - (e:Int))).toNat default + (w.Links.getD i default).Cost = D.getD v default):0 ≤ (upOf w D v).link := by
  have key:∀ j,i < j → 0 ≤ ((List.range j).foldl (upStep w D v) ⟨-1,-1⟩).link := by
    intro j
    induction j with
    | zero => exact fun h => absurd h (Nat.not_lt_zero _)
    | succ j ih =>
      intro h;rw [List.range_succ,List.foldl_append];show 0 ≤ (upStep w D v _ j).link
      by_cases e2:i = j
      · subst e2;unfold upStep;rcases he with rfl | rfl
        · exact upEnd_keeps (upEnd_takes h1 h2 h3)
        · exact upEnd_takes h1 h2 h3
      · exact upEnd_keeps (upEnd_keeps (ih (by omega)))
  exact key _ hi
theorem implUp_p {w:TreeWorld} (hw:WOk w) (hd:w.Down.length ≤ 9223372036854775807) {D:List Int} (hD:D.length = w.Bridges.length) {k:Nat} (hB:Bd k D) (hk:k ≤ 100000) {v:Nat} (hv:v < w.Bridges.length):impl_TreeWorld_uplink_m w (v:Int) D = some ((upOf w D v).link,(upOf w D v).next) := by
  have h12 := linksLen hw;have far_:far = 1073741824 := rfl;unfold impl_TreeWorld_uplink_m;refine (bd_fold (fun (s:Up) i => ((i:Int),s.link,s.next)) w.Links.length (upStep w D v) (fun s => (s.link,s.next)) ⟨-1,-1⟩ (fun _ s => s.In w D v) rfl (.inl (by decide)) (fun i s hi h => upStep_in hw hi h) ?_ ?_).trans rfl
  · intro i s hi hs;have hl := linkAt hw.link hi;rw [if_pos (by simp; omega),gd_pos (by dsimp only; omega)];dsimp only;refine (bd_fold (fun (s:Up) e => ((e:Int),s.link,s.next)) 2 (upEnd w D v i) (fun s => (s.link,s.next)) s (fun e s => s.In w D v) rfl hs (fun e s he h => upEnd_in hw hi (by omega) h) ?_ ?_).trans (by dsimp only; rw [wrap_succ hi (by omega)]; rfl)
    · intro e s he hs;rw [if_pos (by simp; omega)];dsimp only;rw [wrap_i64 (n := 1 - (e:Int)) (by omega) (by omega),bridgeAt_p hi,bd_val,implOpenL_p hw hd hi,bd_val,bridgeAt_p hi,gcall_val,bd_val,wrap_succ he (by decide),Int.toNat_natCast,Int.toNat_natCast];have hb := brAt_in hw hi (1 - (e:Int));have hbd := bd_get hB (v := (brAt w i (1 - (e:Int))).toNat) (by omega);rw [gd_pos (fun _ => by omega),gd_pos (fun _ => by omega),wrap_i64 (n := D.getD (brAt w i (1 - (e:Int))).toNat default + _) (by omega) (by omega)];unfold upEnd
      cases ho:isOpen w i
      · rw [if_pos (by simp),if_neg (by simp)]
      · simp only [Bool.not_true,if_true,Bool.false_or]
        by_cases h1:brAt w i (e:Int) = (v:Int)
        · by_cases h2:D.getD (brAt w i (1 - (e:Int))).toNat default + (w.Links.getD i default).Cost = D.getD v default
          · rw [if_neg (by rw [h1,h2]; simp)];have hn:decide (s.link < 0) = false → 0 ≤ s.next ∧ s.next < ((w.Bridges.length:Nat):Int) := fun h => by
              rcases hs with hs | hs
              · simp only [decide_eq_false_iff_not] at h; omega
              · omega
            rw [gd_pos (fun _ => hb),gd_pos hn]
            by_cases h3:s.link < 0 ∨ idAt w (brAt w i (1 - (e:Int))).toNat < idAt w s.next.toNat
            · rw [if_pos (by simpa only [Bool.or_eq_true,decide_eq_true_eq,idAt] using h3),if_pos ⟨trivial,h1,h2,h3⟩]
            · rw [if_neg (by simpa only [Bool.or_eq_true,decide_eq_true_eq,idAt] using h3),if_neg (fun h => h3 h.2.2.2)]
          · rw [if_pos (by rw [h1]; simp only [bne_self_eq_false,Bool.false_or,bne_iff_ne]; exact h2),if_neg (fun h => h2 h.2.2.1)]
        · rw [if_pos (by simp only [Bool.or_eq_true,bne_iff_ne]; exact .inl h1),if_neg (fun h => h1 h.2.1)]
    · intro s hs
      rfl
  · intro s hs;rw [if_neg (by simp)]
theorem othOf_p {w:TreeWorld} (hw:WOk w) {v i:Nat} (hi:i < w.Links.length):∃ t,spec_l82At_m w (v:Int) (i:Int) = some (t,othOf w v i) := by
  have ha := hw.a;have hb := hw.b;unfold spec_l82At_m othOf;rw [gd_pos (by omega),gd_pos (by omega),gd_pos (by omega),Int.toNat_natCast]
  by_cases h1:(v:Int) = (w.Links.getD i default).A
  · rw [if_pos (by simpa using h1),if_pos h1]; exact ⟨_,rfl⟩
  · rw [if_neg (by simpa using h1),if_neg h1]
    by_cases h2:(v:Int) = (w.Links.getD i default).B
    · rw [if_pos (by simpa using h2),if_pos h2]; exact ⟨_,rfl⟩
    · rw [if_neg (by simpa using h2),if_neg h2]; exact ⟨_,rfl⟩
theorem upStep_eq {w:TreeWorld} (hw:WOk w) {D:List Int} {v i:Nat} {s:Up} (hi:i < w.Links.length):upStep w D v s i =
    if 0 ≤ othOf w v i ∧ isOpen w i = true ∧ D.getD (othOf w v i).toNat default + (w.Links.getD i default).Cost = D.getD v default ∧ (s.link < 0 ∨ idAt w (othOf w v i).toNat < idAt w s.next.toNat) then ⟨i,othOf w v i⟩ else s := by
  have hl := linkAt hw.link hi;have a0:brAt w i ((0:Nat):Int) = (w.Links.getD i default).A := rfl;have a1:brAt w i ((1:Nat):Int) = (w.Links.getD i default).B := rfl;have b0:brAt w i (1 - ((0:Nat):Int)) = (w.Links.getD i default).B := rfl;have b1:brAt w i (1 - ((1:Nat):Int)) = (w.Links.getD i default).A := rfl;unfold upStep upEnd;rw [a0,a1,b0,b1]
  by_cases h1:(v:Int) = (w.Links.getD i default).A
  · have h2:¬ (w.Links.getD i default).B = (v:Int) := by omega
    have eo:othOf w v i = (w.Links.getD i default).B := if_pos h1;rw [if_neg (fun h => h2 h.2.1),eo]
    by_cases hc:isOpen w i = true ∧ D.getD (w.Links.getD i default).B.toNat default + (w.Links.getD i default).Cost = D.getD v default ∧ (s.link < 0 ∨ idAt w (w.Links.getD i default).B.toNat < idAt w s.next.toNat)
    · rw [if_pos ⟨hc.1,h1.symm,hc.2⟩,if_pos ⟨by omega,hc⟩]
    · rw [if_neg (fun h => hc ⟨h.1,h.2.2⟩),if_neg (fun h => hc h.2)]
  · have h1':¬ (w.Links.getD i default).A = (v:Int) := fun e => h1 e.symm;rw [if_neg (c := isOpen w i = true ∧ (w.Links.getD i default).A = (v:Int) ∧ _) (fun h => h1' h.2.1)]
    by_cases h2:(v:Int) = (w.Links.getD i default).B
    · have eo:othOf w v i = (w.Links.getD i default).A := (if_neg h1).trans (if_pos h2);rw [eo]
      by_cases hc:isOpen w i = true ∧ D.getD (w.Links.getD i default).A.toNat default + (w.Links.getD i default).Cost = D.getD v default ∧ (s.link < 0 ∨ idAt w (w.Links.getD i default).A.toNat < idAt w s.next.toNat)
      · rw [if_pos ⟨hc.1,h2.symm,hc.2⟩,if_pos ⟨by omega,hc⟩]
      · rw [if_neg (fun h => hc ⟨h.1,h.2.2⟩),if_neg (fun h => hc h.2)]
    · have h2':¬ (w.Links.getD i default).B = (v:Int) := fun e => h2 e.symm;have eo:othOf w v i = -1 := (if_neg h1).trans (if_neg h2);rw [eo,if_neg (fun h => h2' h.2.1),if_neg (fun h => by have := h.1; omega)]
theorem othOf_in {w:TreeWorld} (hw:WOk w) {v i:Nat} (hi:i < w.Links.length):othOf w v i = -1 ∨ (0 ≤ othOf w v i ∧ othOf w v i < w.Bridges.length) := by
  have hl := linkAt hw.link hi;unfold othOf;split
  · right; omega
  · split
    · right; omega
    · left; rfl
theorem near_other {w:TreeWorld} (hw:WOk w) {r:Nat} (hr:r < w.Bridges.length) {v i:Nat} (hv:v < w.Bridges.length) (hi:i < w.Links.length) (ho:isOpen w i = true) (h0:0 ≤ othOf w v i) (hn:((netOf w).costs r).getD v default < far):((netOf w).costs r).getD (othOf w v i).toNat default < far := by
  have hl := linkAt hw.link hi;have st := (netOf w).stable_ab (netOk hw) Net.after_len ((netOf w).final (netOk hw) (r := r) hr) (i := i) hi ho;have bd := bd_get (costs_bd hw hr) (v := v) (by rw [Net.costs,Net.after_len]; exact hv);have far_:far = 1073741824 := rfl;have ea:(netOf w).a i = (w.Links.getD i default).A.toNat := rfl;have eb:(netOf w).b i = (w.Links.getD i default).B.toNat := rfl;have ec:(netOf w).c i = (w.Links.getD i default).Cost := rfl;rw [ea,eb,ec] at st;have st':((netOf w).costs r).getD (w.Links.getD i default).A.toNat default ≤ ((netOf w).costs r).getD (w.Links.getD i default).B.toNat default + (w.Links.getD i default).Cost ∧ ((netOf w).costs r).getD (w.Links.getD i default).B.toNat default ≤ ((netOf w).costs r).getD (w.Links.getD i default).A.toNat default + (w.Links.getD i default).Cost := st;unfold othOf at h0 ⊢
  by_cases h1:(v:Int) = (w.Links.getD i default).A
  · rw [if_pos h1];rw [← h1,Int.toNat_natCast] at st';omega
  · rw [if_neg h1] at h0 ⊢
    by_cases h2:(v:Int) = (w.Links.getD i default).B
    · rw [if_pos h2];rw [← h2,Int.toNat_natCast] at st';omega
    · rw [if_neg h2] at h0;exact absurd h0 (by decide)
theorem specUp_p {w:TreeWorld} (hw:WOk w) (hd:w.Down.length ≤ 9223372036854775807) {r:Nat} (hr:r < w.Bridges.length) {v:Nat} (hv:v < w.Bridges.length) (hn:((netOf w).costs r).getD v default < far):spec_l84Up_m w (((netOf w).costs r).map unfar) (v:Int) = some (upOf w ((netOf w).costs r) v).link := by
  have h12 := linksLen hw;have far_:far = 1073741824 := rfl;have hB := costs_bd hw hr;have hl:((netOf w).costs r).length = w.Bridges.length := Net.after_len;have hno:∀ i,i < w.Links.length → isOpen w i = true → 0 ≤ othOf w v i → ((netOf w).costs r).getD (othOf w v i).toNat default < far := fun i hi ho h0 => near_other hw hr hv hi ho h0 hn;generalize hD:(netOf w).costs r = D at *;unfold spec_l84Up_m;refine (bd_fold (fun (s:Up) i => (s.link,(if s.link < 0 then 0 else idAt w s.next.toNat),(i:Int))) w.Links.length (upStep w D v) (fun s => s.link) ⟨-1,-1⟩ (fun _ s => Up.In w D v s) rfl (.inl (by decide)) (fun i s hi h => upStep_in hw hi h) ?_ ?_).trans rfl
  · intro i s hi hs;have hlk := linkAt hw.link hi;obtain ⟨t,ht⟩ := othOf_p hw (v := v) hi;rw [if_pos (by simp; omega)];dsimp only;rw [ht,bd_val,specOpenL_p hw hd hi,gcall_val,bd_val,wrap_succ hi (by omega),upStep_eq hw hi,List.length_map,Int.toNat_natCast,Int.toNat_natCast];dsimp only;rcases othOf_in hw (v := v) hi with h0 | ⟨h0,h1⟩
    · rw [h0];simp [gd]
    · have hneg:decide (othOf w v i < 0) = false := by simp; omega
      rw [hneg];simp only [if_true,Bool.false_or]
      cases ho:isOpen w i
      · simp [gd]
      · have hf := hno i hi ho h0;have b1 := bd_get hB (v := (othOf w v i).toNat) (by omega);have u1:(D.map unfar).getD (othOf w v i).toNat default = D.getD (othOf w v i).toNat default := by
          rw [map_get (by omega)];exact if_neg (by omega)
        have u2:(D.map unfar).getD v default = D.getD v default := by
          rw [map_get (by omega)];exact if_neg (by omega)
        rw [u1,u2,gd_pos (fun _ => by omega),gd_pos (fun _ => by omega),gd_pos (fun _ => by omega),wrap_i64 (n := D.getD (othOf w v i).toNat default + _) (by omega) (by omega)]
        by_cases h2:D.getD (othOf w v i).toNat default + (w.Links.getD i default).Cost = D.getD v default
        · rw [if_neg (by rw [h2]; simp)];rw [gd_pos (fun _ => by omega)]
          by_cases h3:s.link < 0 ∨ idAt w (othOf w v i).toNat < idAt w s.next.toNat
          · have c3:(decide (s.link < 0) || decide ((w.Bridges.getD (othOf w v i).toNat default).Id < if s.link < 0 then 0 else idAt w s.next.toNat)) = true := by
              simp only [Bool.or_eq_true,decide_eq_true_eq]
              by_cases h4:s.link < 0
              · exact .inl h4
              · rw [if_neg h4]; exact h3
            rw [if_pos c3,gd_pos (by omega),if_pos (c := 0 ≤ othOf w v i ∧ _) ⟨h0,rfl,h2,h3⟩];dsimp only;rw [if_neg (by omega)]
            rfl
          · have c3:¬ (decide (s.link < 0) || decide ((w.Bridges.getD (othOf w v i).toNat default).Id < if s.link < 0 then 0 else idAt w s.next.toNat)) = true := by
              simp only [Bool.or_eq_true,decide_eq_true_eq];intro h;refine h3 (h.imp id fun h => ?_)
              by_cases h4:s.link < 0
              · exact absurd (.inl h4) h3
              · rwa [if_neg h4] at h
            rw [if_neg c3,if_neg (c := 0 ≤ othOf w v i ∧ _) (fun h => h3 h.2.2.2)]
        · rw [if_pos (by simp only [Bool.not_true,Bool.false_or,bne_iff_ne]; exact h2),if_neg (c := 0 ≤ othOf w v i ∧ _) (fun h => h2 h.2.2.1)]
  · intro s hs;rw [if_neg (by simp)]
theorem up_next {w:TreeWorld} (hw:WOk w) {r:Nat} (hr:r < w.Bridges.length) {v:Nat} (hv:v < w.Bridges.length) (hvr:v ≠ r) (hn:((netOf w).costs r).getD v default < far) :
    0 ≤ (upOf w ((netOf w).costs r) v).link ∧ (upOf w ((netOf w).costs r) v).link < w.Links.length ∧ 0 ≤ (upOf w ((netOf w).costs r) v).next ∧ (upOf w ((netOf w).costs r) v).next < w.Bridges.length ∧ ((netOf w).costs r).getD (upOf w ((netOf w).costs r) v).next.toNat default < ((netOf w).costs r).getD v default ∧ othOf w v (upOf w ((netOf w).costs r) v).link.toNat = (upOf w ((netOf w).costs r) v).next := by
  have h1:0 ≤ (upOf w ((netOf w).costs r) v).link := by
    obtain ⟨i,hi,ho,hx⟩ := (netOf w).tight (netOk hw) (r := r) hr (v := v) hv hvr hn;have hl := linkAt hw.link hi;have ea:(netOf w).a i = (w.Links.getD i default).A.toNat := rfl;have eb:(netOf w).b i = (w.Links.getD i default).B.toNat := rfl;have ec:(netOf w).c i = (w.Links.getD i default).Cost := rfl;rw [ea,eb,ec] at hx;rcases hx with ⟨e,hx⟩ | ⟨e,hx⟩
    · exact upOf_takes (e := 0) hi (.inl rfl) ho (show (w.Links.getD i default).A = (v:Int) by omega) hx
    · exact upOf_takes (e := 1) hi (.inr rfl) ho (show (w.Links.getD i default).B = (v:Int) by omega) hx
  rcases upOf_in hw ((netOf w).costs r) v with h | h
  · omega
  · exact h
theorem way {w:TreeWorld} (hw:WOk w) (hd:w.Down.length ≤ 9223372036854775807) {r:Nat} (hr:r < w.Bridges.length) (b:Nat):∀ k v,v < w.Bridges.length → ((netOf w).costs r).getD v default < far → (((netOf w).costs r).getD v default).toNat ≤ k →
    ∃ n:Nat,(∀ (age link:Int),0 ≤ age → age + cntN (fun u => decide (((netOf w).costs r).getD u default < ((netOf w).costs r).getD v default)) w.Bridges.length ≤ 1000 → ((netOf w).costs r).getD v default < ((netOf w).costs r).getD b default → lp (σ := Int × Int × Int) (β := (Int × Int)) (fun s5 =>
      (if (s5.2.2 != (r:Int)) = true then
      bd (impl_TreeWorld_uplink_m w s5.2.2 ((netOf w).costs r)) fun x9 =>
      (if (s5.2.2 == (b:Int)) = true then
      some (.inl (IntKind.i64.wrap (s5.1 + 1),x9.1,x9.2))
      else
      some (.inl (IntKind.i64.wrap (s5.1 + 1),s5.2.1,x9.2)))
      else
      some (.inr (s5.1,s5.2.1)))) (age,link,(v:Int)) = some (age + n,link)) ∧
    (∀ age:Int,0 ≤ age → age + cntN (fun u => decide (((netOf w).costs r).getD u default < ((netOf w).costs r).getD v default)) w.Bridges.length < w.Bridges.length → lp (σ := Int × Int) (β := (Int)) (fun s9 =>
      (if ((s9.2 != (r:Int)) && (decide (s9.1 < ((w.Bridges.length:Nat):Int)))) = true then
      bd (spec_l84Up_m w (((netOf w).costs r).map unfar) s9.2) fun x13 =>
      bd (spec_l82At_m w s9.2 x13) fun x14 =>
      some (.inl (IntKind.i64.wrap (s9.1 + 1),x14.2))
      else
      some (.inr s9.1))) (age,(v:Int)) = some (age + n)) := by
  have h8 := bridgesLen hw;have hl:((netOf w).costs r).length = w.Bridges.length := Net.after_len;have hB := costs_bd hw hr;intro k
  induction k with
  | zero =>
    intro v hv hn hk;have e:v = r := Classical.byContradiction fun e => by
      have := up_next hw hr hv e hn;have := bd_get hB (v := (upOf w ((netOf w).costs r) v).next.toNat) (by omega);omega
    subst e;refine ⟨0,fun age link _ _ _ => ?_,fun age _ _ => ?_⟩
    · rw [lp_done (b := (age,link)) (by rw [if_neg (by simp)])]; simp
    · rw [lp_done (b := age) (by rw [if_neg (by simp)])]; simp
  | succ k ih =>
    intro v hv hn hk
    by_cases e:v = r
    · subst e;refine ⟨0,fun age link _ _ _ => ?_,fun age _ _ => ?_⟩
      · rw [lp_done (b := (age,link)) (by rw [if_neg (by simp)])]; simp
      · rw [lp_done (b := age) (by rw [if_neg (by simp)])]; simp
    · obtain ⟨u1,u2,u3,u4,u5,u6⟩ := up_next hw hr hv e hn;have bv := bd_get hB (v := v) (by omega);have bu := bd_get hB (v := (upOf w ((netOf w).costs r) v).next.toNat) (by omega);obtain ⟨n,n1,n2⟩ := ih (upOf w ((netOf w).costs r) v).next.toNat (by omega) (by omega) (by omega);have cl := cntN_lt (p := fun u => decide (((netOf w).costs r).getD u default < ((netOf w).costs r).getD v default)) (q := fun u => decide (((netOf w).costs r).getD u default < ((netOf w).costs r).getD (upOf w ((netOf w).costs r) v).next.toNat default)) (n := w.Bridges.length) (fun x _ h => by
        simp only [decide_eq_true_eq] at h ⊢; omega) (v := (upOf w ((netOf w).costs r) v).next.toNat) (by omega) (by simp only [decide_eq_true_eq]; exact u5) (by simp)
      have en:(((upOf w ((netOf w).costs r) v).next.toNat:Nat):Int) = (upOf w ((netOf w).costs r) v).next := by omega
      refine ⟨n + 1,fun age link h0 h1 h2 => ?_,fun age h0 h1 => ?_⟩
      · have hne:¬ ((v:Int) == (b:Int)) = true := by
          rw [beq_iff_eq];intro h;have:v = b := by omega
          subst this;omega
        rw [lp_more (s' := (age + 1,link,(upOf w ((netOf w).costs r) v).next))]
        · have := n1 (age + 1) link (by omega) (by omega) (by omega);rw [en] at this;rw [this];refine congrArg some (Prod.ext ?_ rfl);dsimp only;omega
        · rw [if_pos (by simp; omega)];dsimp only;rw [implUp_p hw hd hl hB (by omega) hv,bd_val,if_neg hne,wrap_i64 (by omega) (by omega)]
      · obtain ⟨t,ht⟩ := othOf_p hw (v := v) (i := (upOf w ((netOf w).costs r) v).link.toNat) (by omega);rw [lp_more (s' := (age + 1,(upOf w ((netOf w).costs r) v).next))]
        · have := n2 (age + 1) (by omega) (by omega);rw [en] at this;rw [this];refine congrArg some ?_;omega
        · rw [if_pos (by simp; omega)];dsimp only;rw [specUp_p hw hd hr hv hn,bd_val];have el:(((upOf w ((netOf w).costs r) v).link.toNat:Nat):Int) = (upOf w ((netOf w).costs r) v).link := by omega
          rw [el] at ht;rw [ht,bd_val,u6,wrap_i64 (by omega) (by omega)]
end Go.Proofs.Ytfgmolljcgnafaa
