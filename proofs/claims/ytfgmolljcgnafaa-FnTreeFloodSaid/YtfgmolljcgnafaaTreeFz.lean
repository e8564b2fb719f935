/-
  Plain Lean: copies of a frame, impl's and the reference's alike; the row FnExactTreeFlood.
-/
import Derived.Test.YtfgmolljcgnafaaKz5
import Derived.Test.YtfgmolljcgnafaaTreeK5z
import Derived.Test.YtfgmolljcgnafaaTreeAz
import Derived.Test.YtfgmolljcgnafaaTreeMz
import Derived.Test.YtfgmolljcgnafaaTreeB2z
set_option linter.all false
namespace Go.Proofs.Ytfgmolljcgnafaa
open Go Go.Ab
set_option maxHeartbeats 400000
theorem lp_run {σ β:Type} {step:σ → Option (σ ⊕ β)} (st:Nat → σ) (d:Nat → β) (c:Nat → Bool) (N:Nat) (h1:∀ i,i ≤ N → step (st i) = some (if c i = true then .inl (st (i + 1)) else .inr (d i))) (h2:c N = false) :
    ∃ K,K ≤ N ∧ c K = false ∧ (∀ i,i < K → c i = true) ∧ lp step (st 0) = some (d K) := by
  have key:∀ m i,i + m = N → (∀ k,k < i → c k = true) → ∃ K,K ≤ N ∧ c K = false ∧ (∀ i,i < K → c i = true) ∧ lp step (st i) = some (d K) := by
    intro m
    induction m with
    | zero =>
      intro i hi hk;have e:i = N := by omega
      subst e;exact ⟨i,Nat.le_refl _,h2,hk,lp_done (by rw [h1 i (Nat.le_refl _),if_neg (by rw [h2]; decide)])⟩
    | succ m ih =>
      intro i hi hk
      cases hc:c i
      · exact ⟨i,by omega,hc,hk,lp_done (by rw [h1 i (by omega),if_neg (by rw [hc]; decide)])⟩
      · obtain ⟨K,a,b,e,f⟩ := ih (i + 1) (by omega) (fun k hk' => by
          by_cases e:k = i
          · rw [e]; exact hc
          · exact hk k (by omega))
        exact ⟨K,a,b,e,by rw [lp_more (s' := st (i + 1)) (by rw [h1 i (by omega),if_pos hc])]; exact f⟩
  exact key N 0 (by omega) (fun k hk => absurd hk (Nat.not_lt_zero _))
def cpAt (w:TreeWorld) (f:frame) (i:Nat):Bool := (decide (0 ≤ othOf w f.bridge.toNat i) && decide ((i:Int) ≠ f.link)) && passAt w i
def cpOf (w:TreeWorld) (f:frame) (i:Nat):frame := ⟨othOf w f.bridge.toNat i,i⟩
def cps (w:TreeWorld) (f:frame) (m:Nat):List frame := ((List.range m).filter (cpAt w f)).map (cpOf w f)
theorem cps_succ (w:TreeWorld) (f:frame) (m:Nat):cps w f (m + 1) = if cpAt w f m = true then cps w f m ++ [cpOf w f m] else cps w f m := by
  unfold cps;rw [List.range_succ,List.filter_append,List.map_append]
  cases h:cpAt w f m <;> simp [h]
theorem cps_len (w:TreeWorld) (f:frame) (m:Nat):(cps w f m).length ≤ m := by
  unfold cps;rw [List.length_map];exact Nat.le_trans (List.length_filter_le _ _) (by simp)
def FOk (w:TreeWorld) (f:frame):Prop := 0 ≤ f.bridge ∧ f.bridge < w.Bridges.length
theorem cps_ok {w:TreeWorld} (hw:WOk w) (f:frame):∀ g ∈ cps w f w.Links.length,FOk w g := by
  intro g hg;simp only [cps,List.mem_map,List.mem_filter,List.mem_range] at hg;obtain ⟨i,⟨hi,hc⟩,rfl⟩ := hg;simp only [cpAt,Bool.and_eq_true,decide_eq_true_eq] at hc;rcases othOf_in hw (v := f.bridge.toNat) hi with h | h
  · omega
  · exact h
theorem copies_p {w:TreeWorld} (hw:WOk w) (hd:w.Down.length ≤ 9223372036854775807) {f:frame} (hf:FOk w f):spec_l84Copies_m w f.bridge f.link = some ((cps w f w.Links.length).map (·.bridge),(cps w f w.Links.length).map (·.link)) := by
  have h12 := linksLen hw;have eb:((f.bridge.toNat:Nat):Int) = f.bridge := by have := hf.1; omega
  unfold spec_l84Copies_m;have := lp_at (σ := List Int × List Int × Int) (β := Nat × Nat × List Int × List Int) (step := fun s1 =>
    (if (decide (s1.2.2 < ((w.Links.length:Nat):Int))) = true then
    bd (spec_l82At_m w f.bridge s1.2.2) fun x5 =>
    bd (gcall (((decide (x5.2 ≥ 0)) && (s1.2.2 != f.link)) = true) (spec_l84Passes_m w s1.2.2)) fun x6 =>
    (if (((decide (x5.2 ≥ 0)) && (s1.2.2 != f.link)) && x6) = true then
    gd (((s1.1.length) + (([x5.2]:List Int).length)) * (8 + 1) ≤ 70368744177664) <|
    gd (((s1.2.1.length) + (([s1.2.2]:List Int).length)) * (8 + 1) ≤ 70368744177664) <|
    some (.inl ((s1.1 ++ ([x5.2]:List Int)),(s1.2.1 ++ ([s1.2.2]:List Int)),IntKind.i64.wrap (s1.2.2 + 1)))
    else
    some (.inl (s1.1,s1.2.1,IntKind.i64.wrap (s1.2.2 + 1))))
    else
    some (.inr (s1.1.length,s1.2.1.length,s1.2.1,s1.1)))) w.Links.length (fun i => ((cps w f i).map (·.bridge),(cps w f i).map (·.link),(i:Int))) (((cps w f w.Links.length).map (·.bridge)).length,((cps w f w.Links.length).map (·.link)).length,(cps w f w.Links.length).map (·.link),(cps w f w.Links.length).map (·.bridge)) (fun i hi => by
      have hl := cps_len w f i;obtain ⟨t,ht⟩ := othOf_p hw (v := f.bridge.toNat) hi;rw [eb] at ht;rw [if_pos (by simp; omega)];dsimp only;rw [ht,bd_val,specPassAt_p hw hd hi,gcall_val,bd_val,wrap_succ hi (by omega),cps_succ];dsimp only;have e1:((i:Int) != f.link) = decide ((i:Int) ≠ f.link) := by rw [Bool.eq_iff_iff]; simp
      have e2:decide (othOf w f.bridge.toNat i ≥ 0) = decide (0 ≤ othOf w f.bridge.toNat i) := rfl;rw [e1,e2];unfold cpAt;generalize (decide (0 ≤ othOf w f.bridge.toNat i) && decide ((i:Int) ≠ f.link)) = c
      cases c
      · rfl
      · cases passAt w i
        · rfl
        · simp only [Bool.and_self,if_true];rw [gd_pos (by simp; omega),gd_pos (by simp; omega),List.map_append,List.map_append]
          rfl) (by rw [if_neg (by simp)])
  exact (bd_of this).trans rfl
def endCp (w:TreeWorld) (f:frame) (i:Nat) (q:List frame) (e:Nat):List frame := if (i:Int) ≠ f.link ∧ brAt w i (e:Int) = f.bridge then q ++ [⟨brAt w i (1 - (e:Int)),i⟩] else q
theorem ends_eq {w:TreeWorld} (hw:WOk w) {f:frame} (hf:FOk w f) {i:Nat} (hi:i < w.Links.length) (hp:passAt w i = true) (q:List frame):endCp w f i (endCp w f i q 0) 1 = if cpAt w f i = true then q ++ [cpOf w f i] else q := by
  have hl := linkAt hw.link hi;have eb:((f.bridge.toNat:Nat):Int) = f.bridge := by have := hf.1; omega
  have a0:brAt w i ((0:Nat):Int) = (w.Links.getD i default).A := rfl;have a1:brAt w i ((1:Nat):Int) = (w.Links.getD i default).B := rfl;have b0:brAt w i (1 - ((0:Nat):Int)) = (w.Links.getD i default).B := rfl;have b1:brAt w i (1 - ((1:Nat):Int)) = (w.Links.getD i default).A := rfl;unfold endCp cpAt cpOf;rw [a0,a1,b0,b1,hp,Bool.and_true]
  by_cases hn:(i:Int) ≠ f.link
  · by_cases h1:(w.Links.getD i default).A = f.bridge
    · have h2:¬ (w.Links.getD i default).B = f.bridge := by omega
      have eo:othOf w f.bridge.toNat i = (w.Links.getD i default).B := if_pos (by rw [eb]; exact h1.symm);rw [if_neg (c := (i:Int) ≠ f.link ∧ (w.Links.getD i default).B = f.bridge) (fun h => h2 h.2),if_pos (c := (i:Int) ≠ f.link ∧ (w.Links.getD i default).A = f.bridge) ⟨hn,h1⟩,eo,if_pos (by simp only [Bool.and_eq_true,decide_eq_true_eq]; exact ⟨by omega,hn⟩)]
    · rw [if_neg (c := (i:Int) ≠ f.link ∧ (w.Links.getD i default).A = f.bridge) (fun h => h1 h.2)]
      by_cases h2:(w.Links.getD i default).B = f.bridge
      · have eo:othOf w f.bridge.toNat i = (w.Links.getD i default).A := (if_neg (by rw [eb]; exact fun e => h1 e.symm)).trans (if_pos (by rw [eb]; exact h2.symm));rw [if_pos ⟨hn,h2⟩,eo,if_pos (by simp only [Bool.and_eq_true,decide_eq_true_eq]; exact ⟨by omega,hn⟩)]
      · have eo:othOf w f.bridge.toNat i = -1 := (if_neg (by rw [eb]; exact fun e => h1 e.symm)).trans (if_neg (by rw [eb]; exact fun e => h2 e.symm));rw [if_neg (fun h => h2 h.2),eo,if_neg (by simp)]
  · rw [if_neg (c := (i:Int) ≠ f.link ∧ (w.Links.getD i default).A = f.bridge) (fun h => hn h.1),if_neg (c := (i:Int) ≠ f.link ∧ (w.Links.getD i default).B = f.bridge) (fun h => hn h.1),if_neg (by simp only [Bool.and_eq_true,decide_eq_true_eq]; exact fun h => hn h.2)]
def passN (w:TreeWorld) (n:Nat):List Nat := (List.range n).filter (passAt w)
theorem passL_map (w:TreeWorld) (n:Nat):passL w n = (passN w n).map (fun i:Nat => (i:Int)) := rfl
theorem passN_get {w:TreeWorld} {n k:Nat} (hk:k < (passN w n).length):(passN w n).getD k default < n ∧ passAt w ((passN w n).getD k default) = true := by
  have:(passN w n).getD k default ∈ passN w n := by
    rw [List.getD_eq_getElem?_getD,List.getElem?_eq_getElem hk];exact List.getElem_mem hk
  simpa [passN] using this
def cpsN (w:TreeWorld) (f:frame) (k:Nat):List frame := (((passN w w.Links.length).take k).filter (cpAt w f)).map (cpOf w f)
theorem cpsN_succ {w:TreeWorld} {f:frame} {k:Nat} (hk:k < (passN w w.Links.length).length):cpsN w f (k + 1) = if cpAt w f ((passN w w.Links.length).getD k default) = true then cpsN w f k ++ [cpOf w f ((passN w w.Links.length).getD k default)] else cpsN w f k := by
  have e:(passN w w.Links.length)[k]? = some ((passN w w.Links.length).getD k default) := by
    rw [List.getD_eq_getElem?_getD,List.getElem?_eq_getElem hk]; rfl
  unfold cpsN;rw [List.take_succ,e,Option.toList_some,List.filter_append,List.map_append];generalize (passN w w.Links.length).getD k default = v
  cases h:cpAt w f v <;> simp [h]
theorem cpsN_all (w:TreeWorld) (f:frame):cpsN w f (passN w w.Links.length).length = cps w f w.Links.length := by
  unfold cpsN cps passN;rw [List.take_length,List.filter_filter];refine congrArg (List.map (cpOf w f)) (congrArg (fun p => List.filter p (List.range w.Links.length)) (funext fun i => ?_));unfold cpAt
  cases passAt w i <;> simp
theorem cpsN_len (w:TreeWorld) (f:frame) (k:Nat):(cpsN w f k).length ≤ w.Links.length := by
  unfold cpsN;rw [List.length_map];refine Nat.le_trans (List.length_filter_le _ _) ?_;rw [List.length_take];have:(passN w w.Links.length).length ≤ w.Links.length := Nat.le_trans (List.length_filter_le _ _) (by simp);omega
def queue (w:TreeWorld) (f0:frame):Nat → List frame
  | 0 => [f0]
  | i + 1 => if i < (queue w f0 i).length then queue w f0 i ++ cps w ((queue w f0 i).getD i default) w.Links.length else queue w f0 i
theorem queue_succ {w:TreeWorld} {f0:frame} {i:Nat} (h:i < (queue w f0 i).length):queue w f0 (i + 1) = queue w f0 i ++ cps w ((queue w f0 i).getD i default) w.Links.length := if_pos h
theorem queue_len {w:TreeWorld} (hw:WOk w) (f0:frame):∀ i,1 ≤ (queue w f0 i).length ∧ (queue w f0 i).length ≤ 1 + 12 * i
  | 0 => ⟨Nat.le_refl _,Nat.le_refl _⟩
  | i + 1 => by
    have := queue_len hw f0 i;have h12 := linksLen hw;have hc := cps_len w ((queue w f0 i).getD i default) w.Links.length;unfold queue;split
    · rw [List.length_append]; omega
    · omega
theorem queue_ok {w:TreeWorld} (hw:WOk w) {f0:frame} (h0:FOk w f0):∀ i,∀ g ∈ queue w f0 i,FOk w g
  | 0 => fun g hg => by
    simp only [queue,List.mem_singleton] at hg;exact hg ▸ h0
  | i + 1 => fun g hg => by
    unfold queue at hg;split at hg
    · rcases List.mem_append.1 hg with hg | hg
      · exact queue_ok hw h0 i g hg
      · exact cps_ok hw _ g hg
    · exact queue_ok hw h0 i g hg
theorem queue_get {w:TreeWorld} (hw:WOk w) {f0:frame} (h0:FOk w f0) {i k:Nat} (hk:k < (queue w f0 i).length):FOk w ((queue w f0 i).getD k default) := by
  refine queue_ok hw h0 i _ ?_;rw [List.getD_eq_getElem?_getD,List.getElem?_eq_getElem hk];exact List.getElem_mem hk
theorem queue_pre {w:TreeWorld} {f0:frame} {i:Nat}:∀ {j:Nat},i ≤ j → ∃ more,queue w f0 j = queue w f0 i ++ more
  | 0,h => ⟨[],by rw [show i = 0 by omega]; simp⟩
  | j + 1,h => by
    by_cases e:i = j + 1
    · subst e; exact ⟨[],by simp⟩
    · obtain ⟨more,hm⟩ := queue_pre (w := w) (f0 := f0) (i := i) (j := j) (by omega)
      by_cases hj:j < (queue w f0 j).length
      · rw [queue_succ hj,hm,List.append_assoc]; exact ⟨_,rfl⟩
      · exact ⟨more,by rw [← hm]; exact if_neg hj⟩
def mostOf (most:Int):Int := if 100 < (if 0 > most then 0 else most) then 100 else (if 0 > most then 0 else most)
theorem mostOf_in (most:Int):0 ≤ mostOf most ∧ mostOf most ≤ 100 ∧ (mostOf most = most ∨ (most < 0 ∧ mostOf most = 0) ∨ (100 < most ∧ mostOf most = 100)) := by
  unfold mostOf;split <;> split <;> omega
theorem getD_app {α:Type} [Inhabited α] {xs ys:List α} {i:Nat} (h:i < xs.length):(xs ++ ys).getD i default = xs.getD i default := by
  simp [List.getD_eq_getElem?_getD,List.getElem?_append_left h]
theorem implCopies_p {w:TreeWorld} (hw:WOk w) {q:List frame} {j:Nat} (hj:j < q.length) (hf:FOk w (q.getD j default)) (hq:q.length ≤ 100000):lp (σ := List frame × Int) (β := (Nat × (List frame))) (fun s8 =>
    (if (decide (s8.2 < (((passL w w.Links.length).length:Nat):Int))) = true then
    gd ((0:Int) ≤ s8.2 ∧ s8.2 < (((passL w w.Links.length).length:Nat):Int)) <|
    bd (lp (σ := List frame × Int) (β := (Nat × (List frame))) (fun s13 =>
    (if (decide (s13.2 < 2)) = true then
    gd ((0:Int) ≤ (j:Int) ∧ (j:Int) < ((s13.1.length:Nat):Int)) <|
    bd (gcall ((((passL w w.Links.length).getD s8.2.toNat default) != ((s13.1.getD (j:Int).toNat default).link)) = true) (impl_TreeWorld_bridgeAt_m w ((passL w w.Links.length).getD s8.2.toNat default) s13.2)) fun x18 =>
    gd ((((passL w w.Links.length).getD s8.2.toNat default) != ((s13.1.getD (j:Int).toNat default).link)) = true → ((0:Int) ≤ (j:Int) ∧ (j:Int) < ((s13.1.length:Nat):Int))) <|
    (if ((((passL w w.Links.length).getD s8.2.toNat default) != ((s13.1.getD (j:Int).toNat default).link)) && (x18 == ((s13.1.getD (j:Int).toNat default).bridge))) = true then
    bd (impl_TreeWorld_bridgeAt_m w ((passL w w.Links.length).getD s8.2.toNat default) (IntKind.i64.wrap (1 - s13.2))) fun x20 =>
    gd (((s13.1.length) + (([(⟨x20,((passL w w.Links.length).getD s8.2.toNat default)⟩:frame)]:List frame).length)) * (16 + 1) ≤ 70368744177664) <|
    some (.inl ((s13.1 ++ ([(⟨x20,((passL w w.Links.length).getD s8.2.toNat default)⟩:frame)]:List frame)),IntKind.i64.wrap (s13.2 + 1)))
    else
    some (.inl (s13.1,IntKind.i64.wrap (s13.2 + 1))))
    else
    some (.inr (s13.1.length,s13.1)))) (s8.1,0)) fun x16 =>
    some (.inl (x16.2,IntKind.i64.wrap (s8.2 + 1)))
    else
    some (.inr (s8.1.length,s8.1)))) (q,0) = some ((q ++ cps w (q.getD j default) w.Links.length).length,q ++ cps w (q.getD j default) w.Links.length) := by
  have h12 := linksLen hw;have hlen:(passL w w.Links.length).length = (passN w w.Links.length).length := by rw [passL_map]; simp
  have hpl:(passN w w.Links.length).length ≤ w.Links.length := Nat.le_trans (List.length_filter_le _ _) (by simp);generalize hF:q.getD j default = f at *;rw [← cpsN_all];have st0:(q ++ cpsN w f 0,((0:Nat):Int)) = (q,0) := by simp [cpsN]
  rw [← st0];refine (lp_at (σ := List frame × Int) (β := (Nat × (List frame))) (passN w w.Links.length).length (fun k => (q ++ cpsN w f k,(k:Int))) ((q ++ cpsN w f (passN w w.Links.length).length).length,q ++ cpsN w f (passN w w.Links.length).length) (fun k hk => ?_) ?_)
  · have hcl := cpsN_len w f k;obtain ⟨p1,p2⟩ := passN_get hk;have eg:(passL w w.Links.length).getD k default = (((passN w w.Links.length).getD k default:Nat):Int) := by
      rw [passL_map];simp [List.getD_eq_getElem?_getD,hk]
    rw [if_pos (by simp; omega),gd_pos (by dsimp only; omega)];dsimp only;rw [Int.toNat_natCast,eg,Int.toNat_natCast,cpsN_succ hk];generalize (passN w w.Links.length).getD k default = i at *;refine (bd_fold (fun (a:List frame) e => (a,(e:Int))) 2 (endCp w f i) (fun a => (a.length,a)) (q ++ cpsN w f k) (fun e a => a.length ≤ q.length + w.Links.length + e ∧ j < a.length ∧ a.getD j default = f) rfl ⟨by rw [List.length_append]; omega,by rw [List.length_append]; omega,by rw [getD_app hj]; exact hF⟩ (fun e a he h => ?_) ?_ ?_).trans ?_
    · unfold endCp;split
      · exact ⟨by rw [List.length_append]; simp only [List.length_singleton]; omega,by rw [List.length_append]; omega,by rw [getD_app h.2.1]; exact h.2.2⟩
      · exact ⟨by omega,h.2.1,h.2.2⟩
    · intro e a he h;rw [if_pos (by simp; omega),gd_pos (by dsimp only; omega)];dsimp only;rw [h.2.2,bridgeAt_p p1,gcall_val,bd_val,gd_pos (fun _ => by omega),wrap_i64 (n := 1 - (e:Int)) (by omega) (by omega),bridgeAt_p p1,bd_val,wrap_succ he (by decide)];unfold endCp
      by_cases hn:(i:Int) ≠ f.link
      · rw [if_pos (c := ((i:Int) != f.link) = true) (by simpa using hn)]
        by_cases hb:brAt w i (e:Int) = f.bridge
        · rw [if_pos (c := (i:Int) ≠ f.link ∧ _) ⟨hn,hb⟩,if_pos (by simp only [Bool.and_eq_true,bne_iff_ne,beq_iff_eq]; exact ⟨hn,hb⟩),gd_pos (by simp; omega)]
        · rw [if_neg (c := (i:Int) ≠ f.link ∧ _) (fun h => hb h.2),if_neg (by simp only [Bool.and_eq_true,bne_iff_ne,beq_iff_eq]; exact fun h => hb h.2)]
      · rw [if_neg (c := (i:Int) ≠ f.link ∧ _) (fun h => hn h.1),if_neg (by simp only [Bool.and_eq_true,bne_iff_ne,beq_iff_eq]; exact fun h => hn h.1)]
    · intro a h
      rfl
    · dsimp only;rw [wrap_succ hk (by omega),show (List.range 2).foldl (endCp w f i) (q ++ cpsN w f k) = endCp w f i (endCp w f i (q ++ cpsN w f k) 0) 1 from rfl,ends_eq hw hf p1 p2];split
      · rw [List.append_assoc]
      · rfl
  · rw [if_neg (by simp only [hlen,decide_eq_true_eq]; omega)]
theorem first_p {xs:List Int} (h:xs.length ≤ 100000) {most:Int} (hf:Fits most):spec_l84First_m xs most = some (xs.take (mostOf most).toNat) := by
  unfold Fits at hf;have hm := mostOf_in most;have cut:∀ x:Int,0 ≤ x → x ≤ 100 → (if (decide (((xs.length:Nat):Int) > x)) = true then
      gd ((0:Int) ≤ (0:Int) ∧ (0:Int) ≤ x ∧ x ≤ ((xs.length:Nat):Int)) <|
      gd (((0) + (x.toNat)) * (8 + 1) ≤ 70368744177664) <|
      some (xs.take x.toNat)
      else
      some xs) = some (xs.take x.toNat) := fun x h0 h1 => by
    by_cases hx:((xs.length:Nat):Int) > x
    · rw [if_pos (by simpa using hx),gd_pos (by omega),gd_pos (by omega)]
    · rw [if_neg (by simpa using hx),List.take_of_length_le (by omega)]
  unfold spec_l84First_m
  by_cases h0:most < 0
  · rw [if_pos (by simpa using h0),bd_val,if_neg (by decide),cut 0 (by omega) (by omega),show mostOf most = 0 by omega]
  · rw [if_neg (by simpa using h0),bd_val]
    by_cases h1:most > 100
    · rw [if_pos (by simpa using h1),cut 100 (by omega) (by omega),show mostOf most = 100 by omega]
    · rw [if_neg (by simpa using h1),cut most (by omega) (by omega),show mostOf most = most by omega]
theorem drop1_get {xs:List Int} {i:Nat}:(xs.drop 1).getD i default = xs.getD (i + 1) default := by
  simp [List.getD_eq_getElem?_getD,List.getElem?_drop,Nat.add_comm]
theorem map_getF {β:Type} [Inhabited β] {xs:List frame} {g:frame → β} {i:Nat} (hi:i < xs.length):(xs.map g).getD i default = g (xs.getD i default) := by
  simp [List.getD_eq_getElem?_getD,hi]
theorem drop1_app {xs ys:List Int} (h:1 ≤ xs.length):(xs ++ ys).drop 1 = xs.drop 1 ++ ys := by
  cases xs with
  | nil => exact absurd h (by decide)
  | cons x xs => rfl
def outOf (w:TreeWorld) (f0:frame) (i:Nat):List Int := ((queue w f0 i).map (·.bridge)).drop 1
theorem implFlood_p {w:TreeWorld} (h:w.Len 9223372036854775807) (hw:worldOk w = true) {a1 a2:Int} (hu:isUp w a1 = true):∃ K,impl_TreeFlood_m w a1 a2 = some ((outOf w ⟨a1,-1⟩ K).take (mostOf a2).toNat) ∧
    (decide (K < (queue w ⟨a1,-1⟩ K).length) && decide (((queue w ⟨a1,-1⟩ K).length:Int) ≤ mostOf a2)) = false ∧ ∀ i,i < K → (decide (i < (queue w ⟨a1,-1⟩ i).length) && decide (((queue w ⟨a1,-1⟩ i).length:Int) ≤ mostOf a2)) = true := by
  have hk := wOk h hw;have hm := mostOf_in a2;have h0:FOk w ⟨a1,-1⟩ := isUp_in hu;unfold impl_TreeFlood_m;rw [implWorldOk_p h.b h.l h.d h.r,bd_val,hw,isUp_p h.b,hu,gcall_val,bd_val,if_neg (by simp),implPasses_p hk h.d,bd_val,show (if 100 < (if 0 > a2 then 0 else a2) then 100 else (if 0 > a2 then 0 else a2)) = mostOf a2 from rfl];have run := lp_run (σ := List frame × Int) (β := Nat × List frame) (step := fun s4 =>
    (if ((decide (s4.2 < ((s4.1.length:Nat):Int))) && (decide (((s4.1.length:Nat):Int) ≤ mostOf a2))) = true then
    bd (lp (σ := List frame × Int) (β := (Nat × (List frame))) (fun s8 =>
    (if (decide (s8.2 < (((passL w w.Links.length).length:Nat):Int))) = true then
    gd ((0:Int) ≤ s8.2 ∧ s8.2 < (((passL w w.Links.length).length:Nat):Int)) <|
    bd (lp (σ := List frame × Int) (β := (Nat × (List frame))) (fun s13 =>
    (if (decide (s13.2 < 2)) = true then
    gd ((0:Int) ≤ s4.2 ∧ s4.2 < ((s13.1.length:Nat):Int)) <|
    bd (gcall ((((passL w w.Links.length).getD s8.2.toNat default) != ((s13.1.getD s4.2.toNat default).link)) = true) (impl_TreeWorld_bridgeAt_m w ((passL w w.Links.length).getD s8.2.toNat default) s13.2)) fun x18 =>
    gd ((((passL w w.Links.length).getD s8.2.toNat default) != ((s13.1.getD s4.2.toNat default).link)) = true → ((0:Int) ≤ s4.2 ∧ s4.2 < ((s13.1.length:Nat):Int))) <|
    (if ((((passL w w.Links.length).getD s8.2.toNat default) != ((s13.1.getD s4.2.toNat default).link)) && (x18 == ((s13.1.getD s4.2.toNat default).bridge))) = true then
    bd (impl_TreeWorld_bridgeAt_m w ((passL w w.Links.length).getD s8.2.toNat default) (IntKind.i64.wrap (1 - s13.2))) fun x20 =>
    gd (((s13.1.length) + (([(⟨x20,((passL w w.Links.length).getD s8.2.toNat default)⟩:frame)]:List frame).length)) * (16 + 1) ≤ 70368744177664) <|
    some (.inl ((s13.1 ++ ([(⟨x20,((passL w w.Links.length).getD s8.2.toNat default)⟩:frame)]:List frame)),IntKind.i64.wrap (s13.2 + 1)))
    else
    some (.inl (s13.1,IntKind.i64.wrap (s13.2 + 1))))
    else
    some (.inr (s13.1.length,s13.1)))) (s8.1,0)) fun x16 =>
    some (.inl (x16.2,IntKind.i64.wrap (s8.2 + 1)))
    else
    some (.inr (s8.1.length,s8.1)))) (s4.1,0)) fun x11 =>
    some (.inl (x11.2,IntKind.i64.wrap (s4.2 + 1)))
    else
    some (.inr (s4.1.length,s4.1)))) (fun i => (queue w ⟨a1,-1⟩ i,(i:Int))) (fun i => ((queue w ⟨a1,-1⟩ i).length,queue w ⟨a1,-1⟩ i)) (fun i => decide (i < (queue w ⟨a1,-1⟩ i).length) && decide (((queue w ⟨a1,-1⟩ i).length:Int) ≤ mostOf a2)) 101 (fun i hi => by
      have hq := queue_len hk ⟨a1,-1⟩ i;dsimp only;rw [show decide ((i:Int) < (((queue w ⟨a1,-1⟩ i).length:Nat):Int)) = decide (i < (queue w ⟨a1,-1⟩ i).length) from decide_eq_decide.2 (by omega)]
      cases hc:(decide (i < (queue w ⟨a1,-1⟩ i).length) && decide (((queue w ⟨a1,-1⟩ i).length:Int) ≤ mostOf a2))
      · rfl
      · simp only [Bool.and_eq_true,decide_eq_true_eq] at hc;rw [if_pos rfl,if_pos rfl];refine (bd_of (implCopies_p hk hc.1 (queue_get hk h0 hc.1) (by omega))).trans ?_;rw [queue_succ hc.1,wrap_i64 (by omega) (by omega)]
        rfl) (by
      simp only [Bool.and_eq_false_imp,decide_eq_true_eq,decide_eq_false_iff_not];intro h; omega)
  obtain ⟨K,k1,k2,k3,k4⟩ := run;refine ⟨K,?_,k2,k3⟩;refine (bd_of k4).trans ?_;have hq := queue_len hk ⟨a1,-1⟩ K;dsimp only;rw [wrap_i64 (n := mostOf a2 + 1) (by omega) (by omega)];generalize hL:queue w ⟨a1,-1⟩ K = L at *;have hc:∃ c:Nat,(if mostOf a2 + 1 < ((L.length:Nat):Int) then mostOf a2 + 1 else ((L.length:Nat):Int)) = (c:Int) + 1 ∧ c + 1 ≤ L.length ∧ (c = (mostOf a2).toNat ∨ (c + 1 = L.length ∧ c ≤ (mostOf a2).toNat)) := by
    split
    · exact ⟨(mostOf a2).toNat,by omega,by omega,.inl rfl⟩
    · exact ⟨L.length - 1,by omega,by omega,.inr ⟨by omega,by omega⟩⟩
  obtain ⟨c,c1,c2,c3⟩ := hc;rw [c1,gd_pos (by omega),dsub_eq,show ((c:Int) + 1 - 1).toNat = c by omega];have fin := lp_at (σ := List Int × Int) (β := Nat × List Int) (step := fun s26 =>
    (if (decide (s26.2 < ((c:Nat):Int))) = true then
    gd ((0:Int) ≤ s26.2 ∧ s26.2 < ((c:Nat):Int)) <|
    gd (((s26.1.length) + (([(L.getD ((1:Int).toNat + s26.2.toNat) default).bridge]:List Int).length)) * (8 + 1) ≤ 70368744177664) <|
    some (.inl ((s26.1 ++ ([(L.getD ((1:Int).toNat + s26.2.toNat) default).bridge]:List Int)),IntKind.i64.wrap (s26.2 + 1)))
    else
    some (.inr (s26.1.length,s26.1)))) c (fun k => (((L.map (·.bridge)).drop 1).take k,(k:Int))) ((((L.map (·.bridge)).drop 1).take c).length,((L.map (·.bridge)).drop 1).take c) (fun k hk' => by
      have e:((L.map (·.bridge)).drop 1)[k]? = some (L.getD (1 + k) default).bridge := by
        rw [List.getElem?_drop,List.getElem?_map,List.getD_eq_getElem?_getD,List.getElem?_eq_getElem (by omega)]
        rfl
      rw [if_pos (by simp; omega),gd_pos (by dsimp only; omega)];dsimp only;rw [gd_pos (by simp; omega),wrap_succ hk' (by omega),List.take_succ,e]
      rfl) (by rw [if_neg (by simp)])
  rw [List.take_zero] at fin;refine (bd_of fin).trans ?_;dsimp only;unfold outOf;rw [hL];refine congrArg some ?_;rcases c3 with e | ⟨e1,e2⟩
  · rw [e]
  · rw [List.take_of_length_le (by simp; omega),List.take_of_length_le (by simp; omega)]
theorem specFlood_p {w:TreeWorld} (h:w.Len 9223372036854775807) (hw:worldOk w = true) {a1 a2:Int} (hu:isUp w a1 = true) (hf:Fits a2):∃ J,spec_TreeFlood_m w a1 a2 = some ((outOf w ⟨a1,-1⟩ (J + 1)).take (mostOf a2).toNat) ∧
    ((decide (J + 1 < (queue w ⟨a1,-1⟩ (J + 1)).length) && decide (((queue w ⟨a1,-1⟩ (J + 1)).length:Int) - 1 < a2)) && decide (J < 100)) = false ∧ ∀ i,i < J → ((decide (i + 1 < (queue w ⟨a1,-1⟩ (i + 1)).length) && decide (((queue w ⟨a1,-1⟩ (i + 1)).length:Int) - 1 < a2)) && decide (i < 100)) = true := by
  have hk := wOk h hw;have hb := h.b;have h0:FOk w ⟨a1,-1⟩ := isUp_in hu;have hu' := hu;simp only [isUp,Bool.and_eq_true] at hu';unfold spec_TreeFlood_m;rw [specWorldOk_p h.b h.l h.d h.r,bd_val,hw,wrap_i64 (by omega) (by omega),l81In_p,hu'.1,gcall_val,bd_val,gd_pos (fun _ => (isUp_in hu:0 ≤ a1 ∧ a1 < w.Bridges.length)),hu'.2,if_neg (by simp)];have c0:spec_l84Copies_m w a1 (-1) = _ := copies_p hk h.d h0;have hc0 := cps_len w ⟨a1,-1⟩ w.Links.length;have h12 := linksLen hk;rw [c0,bd_val];dsimp only;rw [gd_pos (by simp; omega),gd_pos (by simp; omega)];have q1:queue w ⟨a1,-1⟩ 1 = [⟨a1,-1⟩] ++ cps w ⟨a1,-1⟩ w.Links.length := queue_succ (Nat.zero_lt_one:0 < (queue w ⟨a1,-1⟩ 0).length);have run := lp_run (σ := List Int × List Int × Int) (β := Nat × List Int) (step := fun s5 =>
    (if (((decide (s5.2.2 < ((s5.1.length:Nat):Int))) && (decide (((s5.1.length:Nat):Int) < a2))) && (decide (s5.2.2 < 100))) = true then
    gd ((0:Int) ≤ s5.2.2 ∧ s5.2.2 < ((s5.1.length:Nat):Int)) <|
    gd ((0:Int) ≤ s5.2.2 ∧ s5.2.2 < ((s5.2.1.length:Nat):Int)) <|
    bd (spec_l84Copies_m w (s5.1.getD s5.2.2.toNat default) (s5.2.1.getD s5.2.2.toNat default)) fun x11 =>
    gd (((s5.1.length) + (x11.1.length)) * (8 + 1) ≤ 70368744177664) <|
    gd (((s5.2.1.length) + (x11.2.length)) * (8 + 1) ≤ 70368744177664) <|
    some (.inl ((s5.1 ++ x11.1),(s5.2.1 ++ x11.2),IntKind.i64.wrap (s5.2.2 + 1)))
    else
    some (.inr (s5.1.length,s5.1)))) (fun i => (outOf w ⟨a1,-1⟩ (i + 1),((queue w ⟨a1,-1⟩ (i + 1)).map (·.link)).drop 1,(i:Int))) (fun i => ((outOf w ⟨a1,-1⟩ (i + 1)).length,outOf w ⟨a1,-1⟩ (i + 1))) (fun i => (decide (i + 1 < (queue w ⟨a1,-1⟩ (i + 1)).length) && decide (((queue w ⟨a1,-1⟩ (i + 1)).length:Int) - 1 < a2)) && decide (i < 100)) 100 (fun i hi => by
      have hq := queue_len hk ⟨a1,-1⟩ (i + 1);have hl:((outOf w ⟨a1,-1⟩ (i + 1)).length:Int) = (queue w ⟨a1,-1⟩ (i + 1)).length - 1 := by
        unfold outOf;rw [List.length_drop,List.length_map]; omega
      dsimp only;rw [hl,show decide ((i:Int) < ((queue w ⟨a1,-1⟩ (i + 1)).length:Int) - 1) = decide (i + 1 < (queue w ⟨a1,-1⟩ (i + 1)).length) from decide_eq_decide.2 (by omega),show decide ((i:Int) < 100) = decide (i < 100) from decide_eq_decide.2 (by omega)]
      cases hc:((decide (i + 1 < (queue w ⟨a1,-1⟩ (i + 1)).length) && decide (((queue w ⟨a1,-1⟩ (i + 1)).length:Int) - 1 < a2)) && decide (i < 100))
      · rfl
      · simp only [Bool.and_eq_true,decide_eq_true_eq] at hc;have hi1 := hc.1.1;have hfr := queue_get hk h0 hi1;have hcl := cps_len w ((queue w ⟨a1,-1⟩ (i + 1)).getD (i + 1) default) w.Links.length;rw [if_pos rfl,if_pos rfl,gd_pos (by omega),gd_pos (by rw [List.length_drop,List.length_map]; omega)];have g1:(outOf w ⟨a1,-1⟩ (i + 1)).getD (i:Int).toNat default = ((queue w ⟨a1,-1⟩ (i + 1)).getD (i + 1) default).bridge := by
          unfold outOf;rw [Int.toNat_natCast,drop1_get,map_getF hi1]
        have g2:(((queue w ⟨a1,-1⟩ (i + 1)).map (·.link)).drop 1).getD (i:Int).toNat default = ((queue w ⟨a1,-1⟩ (i + 1)).getD (i + 1) default).link := by
          rw [Int.toNat_natCast,drop1_get,map_getF hi1]
        rw [g1,g2,copies_p hk h.d hfr,bd_val];dsimp only;have e:queue w ⟨a1,-1⟩ (i + 1 + 1) = _ := queue_succ hi1;unfold outOf;rw [gd_pos (by rw [List.length_drop,List.length_map,List.length_map]; omega),gd_pos (by rw [List.length_drop,List.length_map,List.length_map]; omega),e,List.map_append,List.map_append,drop1_app (by simp; omega),drop1_app (by simp; omega),wrap_i64 (by omega) (by omega)]
        rfl) (by simp)
  obtain ⟨J,j1,j2,j3,j4⟩ := run;refine ⟨J,?_,j2,j3⟩;have s0:(outOf w ⟨a1,-1⟩ (0 + 1),((queue w ⟨a1,-1⟩ (0 + 1)).map (·.link)).drop 1,((0:Nat):Int)) = ((cps w ⟨a1,-1⟩ w.Links.length).map (·.bridge),(cps w ⟨a1,-1⟩ w.Links.length).map (·.link),(0:Int)) := by
    unfold outOf;rw [show queue w ⟨a1,-1⟩ (0 + 1) = [⟨a1,-1⟩] ++ cps w ⟨a1,-1⟩ w.Links.length from q1]
    rfl
  rw [s0] at j4;refine (bd_of j4).trans ?_;have hq := queue_len hk ⟨a1,-1⟩ (J + 1);rw [first_p (by unfold outOf; rw [List.length_drop,List.length_map]; omega) hf,bd_val]
theorem flood_both {w:TreeWorld} (h:w.Len 9223372036854775807) (a1:Int) {a2:Int} (hf:Fits a2):∃ r,r.length ≤ 100 ∧ impl_TreeFlood_m w a1 a2 = some r ∧ spec_TreeFlood_m w a1 a2 = some r := by
  by_cases hc:worldOk w = true ∧ isUp w a1 = true
  · have hm := mostOf_in a2;obtain ⟨K,k1,k2,k3⟩ := implFlood_p (a2 := a2) h hc.1 hc.2;obtain ⟨J,j1,j2,j3⟩ := specFlood_p h hc.1 hc.2 hf;refine ⟨_,?_,k1,j1.trans (congrArg some ?_)⟩
    · rw [List.length_take]; omega
    · by_cases h0:mostOf a2 = 0
      · rw [h0]; rfl
      · simp only [Bool.and_eq_false_imp,Bool.and_eq_true,decide_eq_true_eq,decide_eq_false_iff_not] at k2 k3 j2 j3;have hK:1 ≤ K := by
          refine Nat.one_le_iff_ne_zero.2 fun e => ?_;subst e;have l1:(queue w ⟨a1,-1⟩ 0).length = 1 := rfl;rw [l1] at k2;exact k2 (by decide) (by omega)
        have hKJ:K ≤ J + 1 := by
          refine Nat.le_of_not_lt fun hl => ?_;have := k3 (J + 1) hl;exact j2 ⟨this.1,by omega⟩ (by omega)
        have hq := queue_len (wOk h hc.1) ⟨a1,-1⟩ K
        by_cases e:K = J + 1
        · rw [e]
        · have h3 := j3 (K - 1) (by omega);rw [show K - 1 + 1 = K by omega] at h3;have hlen := k2 h3.1.1;obtain ⟨more,hmore⟩ := queue_pre (w := w) (f0 := ⟨a1,-1⟩) hKJ;unfold outOf;rw [hmore,List.map_append,drop1_app (by simp; omega),List.take_append_of_le_length (by simp; omega)]
  · refine ⟨[],by decide,?_,?_⟩
    · unfold impl_TreeFlood_m;rw [implWorldOk_p h.b h.l h.d h.r,bd_val,isUp_p h.b,gcall_nb,bd_val]
      cases hw:worldOk w
      · rfl
      · have:isUp w a1 = false := Bool.eq_false_iff.2 fun e => hc ⟨hw,e⟩;rw [this]; rfl
    · have hb := h.b;unfold spec_TreeFlood_m;rw [specWorldOk_p h.b h.l h.d h.r,bd_val,wrap_i64 (by omega) (by omega),l81In_p,gcall_nb,bd_val]
      cases hw:worldOk w
      · simp [gd]
      · have hn:isUp w a1 = false := Bool.eq_false_iff.2 fun e => hc ⟨hw,e⟩
        cases hi:inR a1 0 ((w.Bridges.length:Int) - 1)
        · simp [gd]
        · have hin := inR_iff.1 hi;unfold isUp at hn;rw [hi,Bool.true_and] at hn;rw [gd_pos (fun _ => by omega),hn]
          rfl
end Go.Proofs.Ytfgmolljcgnafaa
