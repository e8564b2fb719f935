/-
  Plain Lean: drawn words; the row FnHelloHear.
-/
import Derived.Test.YtaoeomoepefojaaGreatKz6
import Derived.Test.YtaoeomoepefojaaGreatHelWbz
import Derived.Test.YtaoeomoepefojaaGreatHelIz
import Derived.Test.YtaoeomoepefojaaGreatArgz
set_option linter.all false
namespace Go.Proofs.YtaoeomoepefojaaGreat
open Go Go.Ab
set_option maxHeartbeats 4000000
set_option maxRecDepth 100000
theorem spoilWord_post {b:List Int} {p:Int} {n:Nat} (h:Rd (n+10) ⟨b,p⟩) (w:HelloWord):Post (spec_l46SpoilWord_m ⟨b,p⟩ w) fun x=>Rd n ⟨b,x.2.p⟩:=by
  unfold spec_l46SpoilWord_m;refine .bd (Q:=fun r=>match r with
    | .inl d=>Rd (n+5) ⟨b,d.2.2.2.2.2.2.2.2.2.2.2.2.2⟩
    | .inr d=>Rd n ⟨b,d.2⟩) (.bd (pickR (n:=n+9) h (by decide)) fun x4 ⟨q4,r4⟩=>?_) fun r hr=>?_
  · refine .ite (fun _=>.bd (pickR (n:=n+8) r4 (by decide)) fun x ⟨q,r⟩=>.gd (by simp; omega) (.ret (r.mono (m:=n+5) (by omega)))) fun _=>.ite (fun _=>.bd (pickR (n:=n+8) r4 (by decide)) fun x ⟨q,r⟩=>.gd (by simp; omega) (.ret (r.mono (m:=n+5) (by omega)))) fun _=>.ite (fun _=>.bd (pickR (n:=n+8) r4 (by decide)) fun x ⟨q,r⟩=>.gd (by simp; omega) (.ret (r.mono (m:=n+5) (by omega)))) fun _=>.ite (fun _=>.bd (pickR (n:=n+8) r4 (by decide)) fun x ⟨q,r⟩=>.gd (by simp; omega) (.ret (r.mono (m:=n+5) (by omega)))) fun _=>.ite (fun _=>.bd (pickR (n:=n+8) r4 (by decide)) fun x ⟨q,r⟩=>.gd (by simp; omega) (.ret (r.mono (m:=n+5) (by omega)))) fun _=>.ite (fun _=>.bd (pickR (n:=n+8) r4 (by decide)) fun x ⟨q,r⟩=>.gd (by simp; omega) (.ret (r.mono (m:=n+5) (by omega)))) fun _=>.ite (fun _=>.bd (pickR (n:=n+8) r4 (by decide)) fun x ⟨q,r⟩=>.gd (by simp; omega) (.ret (r.mono (m:=n+5) (by omega)))) fun _=>.ite (fun _=>.bd (pickR (n:=n+8) r4 (by decide)) fun x ⟨q,r⟩=>.gd (by simp; omega) (.ret (r.mono (m:=n+5) (by omega)))) fun _=>.ite (fun _=>.bd (pickR (n:=n+8) r4 (by decide)) fun x ⟨q,r⟩=>.gd (by simp; omega) (.ret (r.mono (m:=n) (by omega)))) fun _=>.ite (fun _=>.bd (spoilEntry_post (n:=n+7) r4 _) fun x r=>.ret (r.mono (m:=n+5) (by omega))) fun _=>.bd (pickR (n:=n+8) r4 (by decide)) fun x ⟨q,r⟩=>.gd (by simp; omega) (.ret (r.mono (m:=n+5) (by omega)))
  · match r,hr with
    | .inl d,hr =>
      refine .bd (pickR (n:=n+4) hr (by decide)) fun x26 ⟨q26,r26⟩=>.ite (fun _=>?_) fun _=>.ret (r26.mono (by omega));rw [sSum_p,bd_val];exact .ret (r26.mono (by omega))
    | .inr d,hr=>exact .ret hr
theorem word_post {b:List Int} {p:Int} {n:Nat} (h:Rd (n+40) ⟨b,p⟩) (e:HelloEnd):Post (spec_l46Word_m ⟨b,p⟩ e) fun x=>Rd n ⟨b,x.2.p⟩:=by
  unfold spec_l46Word_m;refine .bd (pickR (n:=n+39) h (by decide)) fun x1 ⟨q1,r1⟩=>.bd (Q:=fun _=>True) (.ite (fun _=>.ret trivial) fun _=>.ret trivial) fun x2 _=>.bd (Q:=fun x=>Rd (n+37) ⟨b,x.2.2.2.2⟩) ?_ fun x5 r5=>.bd (Q:=fun x=>Rd (n+29) ⟨b,x.2.2.2.2.2⟩) ?_ fun x17 r17=>.bd (Q:=fun x=>Rd (n+27) ⟨b,x.2⟩) ?_ fun x26 r26=>.bd (Q:=fun _=>True) (.ite (fun _=>.ret trivial) fun _=>.ret trivial) fun x32 _=>.bd (Q:=fun x=>Rd (n+26) ⟨b,x.2.2⟩) ?_ fun x35 r35=>.bd (pickR (n:=n+25) r35 (by decide)) fun x41 ⟨q41,r41⟩=>.ite (fun _=>.bd (spoilWord_post (n:=n+15) r41 _) fun x42 r42=>.ret (r42.mono (by omega))) fun _=>.ret (r41.mono (by omega))
  · refine .bd (pickR (n:=n+38) r1 (by decide)) fun x8 ⟨q8,r8⟩=>.ite (fun _=>.bd (pickR (n:=n+37) r8 (by decide)) fun x ⟨q,r⟩=>.gd (by simp; omega) (.ret r)) fun _=>.ite (fun _=>.bd (pickR (n:=n+37) r8 (by decide)) fun x ⟨q,r⟩=>.gd (by simp; omega) (.ret r)) fun _=>.ite (fun _=>.bd (pickR (n:=n+37) r8 (by decide)) fun x ⟨q,r⟩=>.gd (by simp; omega) (.ret r)) fun _=>.ite (fun _=>.bd (pickR (n:=n+37) r8 (by decide)) fun x ⟨q,r⟩=>.gd (by simp; omega) (.ret r)) fun _=>.ret (r8.mono (m:=n+37) (by omega))
  · refine .bd (pickR (n:=n+36) r5 (by decide)) fun x20 ⟨q20,r20⟩=>.ite (fun _=>.ret (r20.mono (m:=n+29) (by omega))) fun _=>.ite (fun _=>.bd (prefix_post (n:=n+33) r20) fun x21 ⟨q21,r21⟩=>?_) fun _=>.ite (fun _=>.ite (fun _=>.bd (entry_post (n:=n+30) r20) fun x ⟨q,r⟩=>.ret (r.mono (m:=n+29) (by omega))) fun _=>.ret (r20.mono (m:=n+29) (by omega))) fun _=>.ite (fun _=>.bd (entry_post (n:=n+30) r20) fun x ⟨q,r⟩=>.ret (r.mono (m:=n+29) (by omega))) fun _=>.ret (r20.mono (m:=n+29) (by omega));refine .ite (fun c=>?_) fun _=>.ret (r21.mono (m:=n+29) (by omega));have:=of_decide_eq_true c;exact .bd (pickR (n:=n+32) r21 (by omega)) fun x22 ⟨q22,r22⟩=>.gd q22 (.ret (r22.mono (m:=n+29) (by omega)))
  · exact .bd (pickR (n:=n+28) r17 (by decide)) fun x29 ⟨q29,r29⟩=>.ite (fun _=>.bd (pickR (n:=n+27) r29 (by decide)) fun x ⟨q,r⟩=>.gd (by simp; omega) (.ret r)) fun _=>.ret (r29.mono (m:=n+27) (by omega))
  · refine .ite (fun c=>?_) fun _=>.ret (r26.mono (m:=n+26) (by omega));have:=of_decide_eq_true c;refine .bd (pickR (n:=n+26) r26 (by omega)) fun x38 ⟨q38,r38⟩=>.gd q38 ?_;rw [sSum_p,bd_val];exact .ret r38
theorem drawHear_post {b:List Int} (hb:b.length≤9223372036854775807) (h:∀ x ∈ b,FitsB x):Post (spec_DrawHelloHear_m b) fun x=>Lens x.1 40:=by
  unfold spec_DrawHelloHear_m;exact .bd (open_rd hb h) fun r hr=>.bd (anyEnd_post (n:=100) (b:=r.b) (p:=r.p) (hr.mono (by decide))) fun x ⟨h1,r1⟩=>.bd (word_post (n:=60) r1 x.1) fun y _=>.ret h1
theorem iHearF_p {e:HelloEnd} (h:Lens e 1048576) (w:HelloWord):impl_HelloHear_fz_m e w=some (helloHear e w):=iHearb_p h w
theorem hear_lens {e:HelloEnd} (h:Lens e 40) (w:HelloWord):Lens (helloHear e w) 40:=by
  cases hok:endOk e
  · have:helloHear e w=noEnd:=by unfold helloHear; rw [hok]; rfl
    rw [this];exact ⟨Nat.zero_le _,Nat.zero_le _,Nat.zero_le _,Nat.zero_le _⟩
  · exact (eo_lens (hear_eo (endOk_iff.1 hok))).mono (by decide)
theorem hear_new {e:HelloEnd} {w:HelloWord} (h:endOk e=true) (hn:isNewV e w=true):helloHear e w=listenY (begun e w) w:=by
  unfold helloHear;rw [if_pos h,if_pos hn]
theorem hear_old {e:HelloEnd} {w:HelloWord} (h:endOk e=true) (hn:isNewV e w=false):helloHear e w=e:=by
  unfold helloHear;rw [if_pos h,hn]; rfl
theorem listen_peer {y:HelloEnd} {w:HelloWord}:(listenY y w).PeerBoot=y.PeerBoot∧(listenY y w).PeerTurn=w.Turn:=by
  have hk:∀ z:HelloEnd,(kept z).PeerBoot=z.PeerBoot∧(kept z).PeerTurn=z.PeerTurn:=fun z=>by
    unfold kept;split <;> exact ⟨rfl,rfl⟩
  have hc:∀ z:HelloEnd,(heardC z w).PeerBoot=z.PeerBoot∧(heardC z w).PeerTurn=z.PeerTurn:=fun z=>by
    unfold heardC;split
    · split <;> exact ⟨rfl,rfl⟩
    · exact ⟨rfl,rfl⟩
  have ha:(heardA (upTo y w) w).PeerBoot=y.PeerBoot∧(heardA (upTo y w) w).PeerTurn=w.Turn:=by
    unfold heardA;split <;> exact ⟨rfl,rfl⟩
  unfold listenY;split
  · rw [(hk _).1,(hk _).2,(hc _).1,(hc _).2];exact ha
  · exact ⟨rfl,rfl⟩
theorem hear_twice {e:HelloEnd} {w:HelloWord} (h:endOk e=true) (hn:isNewV e w=true):helloHear (helloHear e w) w=helloHear e w:=by
  have hx:=hear_eo (w:=w) (endOk_iff.1 h);refine hear_old (endOk_iff.2 hx) ?_;rw [hear_new h hn,Bool.eq_false_iff];intro c;simp only [isNewV,Bool.and_eq_true,Bool.or_eq_true,decide_eq_true_eq,beq_iff_eq] at c;obtain ⟨p1,p2⟩:=listen_peer (y:=begun e w) (w:=w);rw [p1,p2] at c;have hp:w.Boot=(begun e w).PeerBoot ∨ w.Boot < (begun e w).PeerBoot:=by
    unfold begun
    by_cases q:w.Boot > e.PeerBoot
    · rw [if_pos q]; exact .inl rfl
    · rw [if_neg q]; omega
  omega
theorem fnHelloHear_p {a0:List Int} (h:a0.length≤9223372036854775807∧∀ x ∈ a0,FitsB x):laws_FnHelloHear_m a0=some true:=by
  have key:Post (laws_FnHelloHear_m a0) fun x=>x=true:=by
    unfold laws_FnHelloHear_m;refine .ite (fun _=>.ret rfl) fun _=>.bd (drawHear_post h.1 h.2) fun x L0=>?_;obtain ⟨e,w⟩:=x;dsimp only at L0 ⊢;have L:=L0.mono (m:=1048576) (by decide);have Lh:=(hear_lens L0 w).mono (m:=1048576) (by decide);rw [iHearb_p L,bd_val,sHear_p L,bd_val,whEnd_p Lh,bd_val,iRight_p L.k,gcall_val,bd_val,sRight_p L.k,gcall_val,bd_val];refine .ite (fun c=>by simp at c) fun _=>?_;rw [sEnd_p L.k L.t,bd_val];refine .ite (fun c=>?_) fun c=>?_
    · have hok:endOk e=false:=by simpa using c
      have:helloHear e w=noEnd:=by unfold helloHear; rw [hok]; rfl
      rw [this];refine (congrArg (fun m=>Post (bd m _) _) (whEnd_p (e:=noEnd) ⟨Nat.zero_le _,Nat.zero_le _,Nat.zero_le _,Nat.zero_le _⟩)).mpr ?_;rw [bd_val];exact .ret rfl
    · have hok:endOk e=true:=by simpa using c
      have hv:isNewV e w=(!(e.Boot == 1000) && rightV e.Keys w && (w.From == e.Peer) && (w.To == e.Name) && (decide (w.Boot > e.PeerBoot) || ((w.Boot == e.PeerBoot) && decide (w.Turn > e.PeerTurn)))):=rfl;have hlt:(decide (w.Boot < e.PeerBoot) || ((w.Boot == e.PeerBoot) && decide (w.Turn≤e.PeerTurn)))=!(decide (w.Boot > e.PeerBoot) || ((w.Boot == e.PeerBoot) && decide (w.Turn > e.PeerTurn))):=by
        rw [Bool.eq_iff_iff];simp only [Bool.or_eq_true,Bool.and_eq_true,Bool.not_eq_true',Bool.or_eq_false_iff,Bool.and_eq_false_iff,decide_eq_true_eq,decide_eq_false_iff_not,beq_iff_eq,beq_eq_false_iff_ne];omega
      rw [hlt];refine .ite (fun c2=>?_) fun c2=>?_
      · have hn:isNewV e w=false:=by rw [hv]; clear hlt hv; grind
        rw [hear_old hok hn,whEnd_p L,bd_val];exact .ret rfl
      · have same:(helloHear e w).Boot=e.Boot:=by
          unfold helloHear;rw [if_pos hok];split
          · rw [(listen_same (y:=begun e w) (w:=w)).2.2.1];unfold begun;split <;> rfl
          · rfl
        have tw:helloHear (helloHear e w) w=helloHear e w:=by
          cases hn:isNewV e w
          · rw [hear_old hok hn,hear_old hok hn]
          · exact hear_twice hok hn
        have ok2:endOk (helloHear e w)=true:=endOk_iff.2 (hear_eo (endOk_iff.1 hok));rw [iEnd_p Lh.k Lh.w Lh.t Lh.h,bd_val,ok2,iHearF_p Lh,tw,gcall_pos rfl,bd_val,whEnd_p Lh,gcall_pos rfl,bd_val,same];refine .ret ?_;simp
  obtain ⟨x,e,rfl⟩:=key;exact e
end Go.Proofs.YtaoeomoepefojaaGreat
