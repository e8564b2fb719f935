/-
  Plain Lean: what an end uses behind a word; the row FnHelloUse.
-/
import Derived.Test.YtaoeomoepefojaaGreatKz6
import Derived.Test.YtaoeomoepefojaaGreatHelJz
set_option linter.all false
namespace Go.Proofs.YtaoeomoepefojaaGreat
open Go Go.Ab
set_option maxHeartbeats 4000000
set_option maxRecDepth 100000
theorem mem_set_ne {α:Type} {t:List α} {k:Nat} {x:α} {i:Nat} (hi:i<t.length) (h:i ≠ k):t[i] ∈ t.set k x:=by
  have:(t.set k x)[i]'(by rw [List.length_set]; exact hi)=t[i]:=by rw [List.getElem_set,if_neg (fun q=>h q.symm)]
  rw [← this]
  exact List.getElem_mem _
theorem mem_out {t:List HelloRoute} {k i:Nat} (hi:i<t.length) (h:i ≠ k):t[i] ∈ outR t k:=by
  unfold outR
  rcases Nat.lt_or_gt_of_ne h with c | c
  · refine List.mem_append.2 (.inl ?_)
    rw [List.mem_take_iff_getElem]
    exact ⟨i,by omega,rfl⟩
  · refine List.mem_append.2 (.inr ?_)
    rw [List.mem_drop_iff_getElem]
    exact ⟨i - (k+1),by omega,by congr 1; omega⟩
theorem told_in {t:List HelloRoute} {c:HelloChange} {x:HelloRoute} (h:x ∈ (toldV t c).1):x ∈ t ∨ (c.Kind=1∧x.Entry=c.Entry):=by
  unfold toldV at h
  by_cases c1:c.Kind=1
  · rw [if_pos c1] at h
    unfold hasV at h
    cases hh:hasK rE t c.Entry
    · rw [hh] at h
      simp only [Bool.false_eq_true,if_false] at h
      by_cases c2:t.length=16
      · rw [if_pos c2] at h
        cases hf:firstStale t with
        | none=>rw [hf] at h; exact .inl h
        | some s =>
          rw [hf] at h
          rcases mem_ins h with q | q
          · exact .inl ((outR_sub t s).subset q)
          · exact .inr ⟨c1,by rw [q]⟩
      · rw [if_neg c2] at h
        rcases mem_ins h with q | q
        · exact .inl q
        · exact .inr ⟨c1,by rw [q]⟩
    · rw [hh] at h
      simp only [if_true] at h
      rcases mem_set_or h with q | q
      · exact .inl q
      · exact .inr ⟨c1,by rw [q]⟩
  · rw [if_neg c1] at h
    by_cases c2:c.Kind=2
    · rw [if_pos c2] at h
      dsimp only at h
      split at h
      · exact .inl ((outR_sub _ _).subset h)
      · exact .inl h
    · rw [if_neg c2] at h
      exact .inl (List.mem_filter.1 h).1
theorem told_out {t:List HelloRoute} {c:HelloChange} {y:HelloRoute} (h:y ∈ t) (hl:t.length<16) (hc:c.Kind=1 ∨ c.Kind=2):y ∈ (toldV t c).1 ∨ (y.Entry.Addr=c.Entry.Addr∧y.Entry.Len=c.Entry.Len):=by
  obtain ⟨i,hi,e⟩:=List.getElem_of_mem h
  have g:t.getD i default=t[i]:=by rw [List.getD_eq_getElem?_getD,List.getElem?_eq_getElem hi]; rfl
  unfold toldV
  by_cases c1:c.Kind=1
  · rw [if_pos c1]
    unfold hasV
    cases hh:hasK rE t c.Entry
    · simp only [Bool.false_eq_true,if_false]
      rw [if_neg (by omega)]
      refine .inl ?_
      show y ∈ t.take (posK rE t c.Entry) ++ [⟨c.Entry,false⟩] ++ t.drop (posK rE t c.Entry)
      have:=List.take_append_drop (posK rE t c.Entry) t
      rw [← this] at h
      rcases List.mem_append.1 h with q | q
      · exact List.mem_append.2 (.inl (List.mem_append.2 (.inl q)))
      · exact List.mem_append.2 (.inr q)
    · obtain ⟨q1,q2,q3⟩:=hasK_iff.1 hh
      simp only [if_true]
      by_cases c3:i=posK rE t c.Entry
      · refine .inr ?_
        rw [← c3,g,e] at q2 q3
        exact ⟨q2,q3⟩
      · refine .inl ?_
        rw [← e]
        exact mem_set_ne hi c3
  · have c2:c.Kind=2:=hc.resolve_left c1
    rw [if_neg c1,if_pos c2]
    dsimp only
    cases hh:hasK rE t c.Entry
    · exact .inl h
    · obtain ⟨q1,q2,q3⟩:=hasK_iff.1 hh
      simp only [if_true]
      by_cases c3:i=posK rE t c.Entry
      · refine .inr ?_
        rw [← c3,g,e] at q2 q3
        exact ⟨q2,q3⟩
      · refine .inl ?_
        rw [← e]
        exact mem_out hi c3
theorem begun_entries (e:HelloEnd) (w:HelloWord):(begun e w).Heard.map (fun r=>r.Entry)=e.Heard.map (fun r=>r.Entry):=by
  unfold begun
  split
  · show (stales e.Heard).map (fun r=>r.Entry)=_
    simp [stales]
  · rfl
theorem listen_heard (y:HelloEnd) (w:HelloWord):(listenY y w).Heard=y.Heard ∨ (w.Change.Kind ≠ 0∧(listenY y w).Heard=(toldV y.Heard w.Change).1):=by
  have hk:∀ z:HelloEnd,(kept z).Heard=z.Heard:=fun z=>by
    unfold kept
    split <;> rfl
  have ha:(heardA (upTo y w) w).Heard=y.Heard:=by
    unfold heardA
    split <;> rfl
  unfold listenY
  split
  · rw [hk]
    unfold heardC
    rw [ha]
    split
    · rename_i c
      split
      · exact .inr ⟨c.1,rfl⟩
      · exact .inl ha
    · exact .inl ha
  · exact .inl rfl
theorem no_end2:endOk noEnd=false:=by rfl
theorem use_in {e:HelloEnd} {w:HelloWord} {x:HelloEntry} (h:x ∈ useE (helloHear e w)):x ∈ useE e ∨ (w.Change.Kind=1∧x=w.Change.Entry):=by
  cases hok:endOk e
  · have:helloHear e w=noEnd:=by unfold helloHear; rw [hok]; rfl
    rw [this] at h
    unfold useE at h
    rw [no_end2] at h
    cases h
  · have ok2:endOk (helloHear e w)=true:=endOk_iff.2 (hear_eo (endOk_iff.1 hok))
    unfold useE at h ⊢
    rw [if_pos ok2] at h
    rw [if_pos hok]
    cases hn:isNewV e w
    · rw [hear_old hok hn] at h; exact .inl h
    · rw [hear_new hok hn] at h
      obtain ⟨r,hr,rfl⟩:=List.mem_map.1 h
      rw [← begun_entries e w]
      rcases listen_heard (begun e w) w with q | ⟨_,q⟩
      · rw [q] at hr; exact .inl (List.mem_map.2 ⟨r,hr,rfl⟩)
      · rw [q] at hr
        rcases told_in hr with p | p
        · exact .inl (List.mem_map.2 ⟨r,p,rfl⟩)
        · exact .inr p
theorem use_out {e:HelloEnd} {w:HelloWord} {x:HelloEntry} (h:x ∈ useE e) (h3:w.Change.Kind ≠ 3) (hl:(useE e).length<16):x ∈ useE (helloHear e w) ∨ (w.Change.Kind ≠ 0∧x.Addr=w.Change.Entry.Addr∧x.Len=w.Change.Entry.Len):=by
  cases hok:endOk e
  · unfold useE at h
    rw [hok] at h
    cases h
  · have ok2:endOk (helloHear e w)=true:=endOk_iff.2 (hear_eo (endOk_iff.1 hok))
    unfold useE at h hl ⊢
    rw [if_pos hok] at h hl
    rw [if_pos ok2]
    cases hn:isNewV e w
    · rw [hear_old hok hn]; exact .inl h
    · rw [hear_new hok hn]
      have hc:=isNew_right hn
      rw [← begun_entries e w] at h hl
      obtain ⟨r,hr,rfl⟩:=List.mem_map.1 h
      rw [List.length_map] at hl
      rcases listen_heard (begun e w) w with q | ⟨k0,q⟩
      · rw [q]; exact .inl (List.mem_map.2 ⟨r,hr,rfl⟩)
      · rw [q]
        have hk:w.Change.Kind=1 ∨ w.Change.Kind=2:=by
          unfold changeOk at hc
          split at hc
          · omega
          · split at hc
            · omega
            · split at hc
              · omega
              · cases hc
        rcases told_out hr hl hk with p | p
        · exact .inl (List.mem_map.2 ⟨r,p,rfl⟩)
        · exact .inr ⟨k0,p⟩
theorem entry_eq (a b:HelloEntry):(a.Addr == b.Addr && (a.Len == b.Len && (a.Cost == b.Cost && (a.Label == b.Label && true))))=decide (a=b):=by
  cases a; cases b
  rw [Bool.eq_iff_iff]
  simp
theorem whHas_p {t:List HelloEntry} (h:t.length≤1048576) (x:HelloEntry):laws_whHas_m t x=some (decide (x ∈ t)):=by
  unfold laws_whHas_m
  rw [lp_first t.length (fun i=>decide (t.getD i default=x)) (fun _=>Sum.inl ()) (.inr ()) (fun i hi=>?_) (by rw [if_neg (by simp)]),bd_val]
  · cases hf:firstR (fun i=>decide (t.getD i default=x)) t.length with
    | some i =>
      obtain ⟨q1,q2,_⟩:=firstR_some hf
      have:t.getD i default=x:=of_decide_eq_true q2
      rw [decide_eq_true (by rw [← this]; exact getD_mem q1)]
      rfl
    | none =>
      rw [decide_eq_false fun c=>?_]
      · rfl
      · obtain ⟨i,hi,e⟩:=mem_getD c
        have:=firstR_none hf i hi
        rw [decide_eq_true e] at this; cases this
  · rw [if_pos (by simp; omega),gd_pos (by omega),Int.toNat_natCast,wrap_succ hi (by omega),entry_eq]
    split <;> simp_all
theorem fnHelloUse_p {a0:List Int} (h:a0.length≤9223372036854775807∧∀ x ∈ a0,FitsB x):laws_FnHelloUse_m a0=some true:=by
  have key:Post (laws_FnHelloUse_m a0) fun x=>x=true:=by
    unfold laws_FnHelloUse_m
    refine .ite (fun _=>.ret rfl) fun _=>.bd (drawHear_post h.1 h.2) fun x L0=>?_
    obtain ⟨e,w⟩:=x
    dsimp only at L0 ⊢
    have L:=L0.mono (m:=1048576) (by decide)
    have Lh:=(hear_lens L0 w).mono (m:=1048576) (by decide)
    have ul:∀ z:HelloEnd,Lens z 1048576→(useE z).length≤1048576:=fun z hz=>by
      unfold useE
      split
      · simpa using hz.h
      · exact Nat.zero_le _
    rw [iUse_p L,bd_val,sUse_p L,bd_val,whTable_p (ul e L),bd_val]
    refine .ite (fun c=>by simp at c) fun _=>?_
    rw [iHearb_p L,bd_val,iUse_p Lh,bd_val,sHear_p L,bd_val,sUse_p Lh,bd_val,whTable_p (ul _ Lh),bd_val]
    refine .ite (fun c=>by simp at c) fun _=>?_
    have u1:=ul e L
    have u2:=ul _ Lh
    have win:∀ x,x ∈ useE (helloHear e w)→x ∈ useE e ∨ (w.Change.Kind=1∧x=w.Change.Entry):=fun x q=>use_in q
    have wout:∀ x,x ∈ useE e→w.Change.Kind ≠ 3→(useE e).length<16→x ∈ useE (helloHear e w) ∨ (w.Change.Kind ≠ 0∧x.Addr=w.Change.Entry.Addr∧x.Len=w.Change.Entry.Len):=fun x q=>use_out q
    generalize useE (helloHear e w)=I at *
    generalize useE e=W at *
    refine .bd (Q:=fun r=>r=Sum.inr ()) ⟨_,lp_all I.length (fun _=>true) (.inl ()) (.inr ()) (fun i hi _=>?_) (fun _=>by rw [if_neg (by simp)]),by rw [if_pos (allR_of fun _ _=>rfl)]⟩ fun r hr=>?_
    · rw [if_pos (by simp; omega),gd_pos (by omega),Int.toNat_natCast,whHas_p u1,bd_val,gd_pos (fun _ _=>by omega),wrap_succ hi (by omega),entry_eq]
      have:=win _ (getD_mem hi)
      refine (if_neg fun q=>?_).trans (by rw [if_pos rfl])
      simp only [Bool.and_eq_true,Bool.or_eq_true,Bool.not_eq_true',decide_eq_false_iff_not,bne_iff_ne] at q
      rcases this with k | ⟨k1,k2⟩
      · exact q.1 k
      · rcases q.2 with z | z
        · exact z k1
        · exact z k2
    · subst hr
      dsimp only
      refine .bd (Q:=fun r=>r=Sum.inr ()) ⟨_,lp_all W.length (fun _=>true) (.inl ()) (.inr ()) (fun i hi _=>?_) (fun _=>by rw [if_neg (by simp)]),by rw [if_pos (allR_of fun _ _=>rfl)]⟩ fun r hr=>?_
      · rw [if_pos (by simp; omega),gd_pos (by omega),gd_pos (fun _=>by omega),gd_pos (by omega),Int.toNat_natCast,whHas_p u2,bd_val,wrap_succ hi (by omega)]
        refine (if_neg fun q=>?_).trans (by rw [if_pos rfl])
        simp only [Bool.and_eq_true,Bool.or_eq_true,Bool.not_eq_true',decide_eq_false_iff_not,bne_iff_ne,beq_iff_eq,decide_eq_true_eq,Bool.and_eq_false_iff,beq_eq_false_iff_ne] at q
        obtain ⟨⟨⟨z1,z2⟩,z3⟩,z4⟩:=q
        rcases wout _ (getD_mem hi) z2 (by omega) with k | ⟨k0,k1,k2⟩
        · exact z1 k
        · rcases z3 with v | v | v
          · exact k0 v
          · exact v k1
          · exact v k2
      · subst hr
        exact .ret rfl
  obtain ⟨x,e,rfl⟩:=key
  exact e
end Go.Proofs.YtaoeomoepefojaaGreat
