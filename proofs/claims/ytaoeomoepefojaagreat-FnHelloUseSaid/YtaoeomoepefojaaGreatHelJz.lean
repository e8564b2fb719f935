/-
  Plain Lean: drawn words; the row FnHelloHear.
-/
import Derived.Test.YtaoeomoepefojaaGreatKz6
import Derived.Test.YtaoeomoepefojaaGreatHelWbz
import Derived.Test.YtaoeomoepefojaaGreatHelIz
import Derived.Test.YtaoeomoepefojaaGreatArgz
set_option linter.all false
namespace Go.Proofs.YtaoeomoepefojaaGreat
open Go Go.Ab
set_option maxHeartbeats 4000000
set_option maxRecDepth 100000
theorem spoilWord_post {b:List Int} {p:Int} {n:Nat} (h:Rd (n+10) ⟨b,p⟩) (w:HelloWord):Post (spec_l46SpoilWord_m ⟨b,p⟩ w) fun x=>Rd n ⟨b,x.2.p⟩:=by
  unfold spec_l46SpoilWord_m;refine .bd (Q:=fun r=>match r with
    | .inl d=>Rd (n+5) ⟨b,d.2.2.2.2.2.2.2.2.2.2.2.2.2⟩
    | .inr d=>Rd n ⟨b,d.2⟩) (.bd (pickR (n:=n+9) h (by decide)) fun x4 ⟨q4,r4⟩=>?_) fun r hr=>?_
  · refine .ite (fun _=>.bd (pickR (n:=n+8) r4 (by decide)) fun x ⟨q,r⟩=>.gd (by simp; omega) (.ret (r.mono (m:=n+5) (by omega)))) fun _=>.ite (fun _=>.bd (pickR (n:=n+8) r4 (by decide)) fun x ⟨q,r⟩=>.gd (by simp; omega) (.ret (r.mono (m:=n+5) (by omega)))) fun _=>.ite (fun _=>.bd (pickR (n:=n+8) r4 (by decide)) fun x ⟨q,r⟩=>.gd (by simp; omega) (.ret (r.mono (m:=n+5) (by omega)))) fun _=>.ite (fun _=>.bd (pickR (n:=n+8) r4 (by decide)) fun x ⟨q,r⟩=>.gd (by simp; omega) (.ret (r.mono (m:=n+5) (by omega)))) fun _=>.ite (fun _=>.bd (pickR (n:=n+8) r4 (by decide)) fun x ⟨q,r⟩=>.gd (by simp; omega) (.ret (r.mono (m:=n+5) (by omega)))) fun _=>.ite (fun _=>.bd (pickR (n:=n+8) r4 (by decide)) fun x ⟨q,r⟩=>.gd (by simp; omega) (.ret (r.mono (m:=n+5) (by omega)))) fun _=>.ite (fun _=>.bd (pickR (n:=n+8) r4 (by decide)) fun x ⟨q,r⟩=>.gd (by simp; omega) (.ret (r.mono (m:=n+5) (by omega)))) fun _=>.ite (fun _=>.bd (pickR (n:=n+8) r4 (by decide)) fun x ⟨q,r⟩=>.gd (by simp; omega) (.ret (r.mono (m:=n+5) (by omega)))) fun _=>.ite (fun _=>.bd (pickR (n:=n+8) r4 (by decide)) fun x ⟨q,r⟩=>.gd (by simp; omega) (.ret (r.mono (m:=n) (by omega)))) fun _=>.ite (fun _=>.bd (spoilEntry_post (n:=n+7) r4 _) fun x r=>.ret (r.mono (m:=n+5) (by omega))) fun _=>.bd (pickR (n:=n+8) r4 (by decide)) fun x ⟨q,r⟩=>.gd (by simp; omega) (.ret (r.mono (m:=n+5) (by omega)))
  · match r,hr with
    | .inl d,hr =>
      refine .bd (pickR (n:=n+4) hr (by decide)) fun x26 ⟨q26,r26⟩=>.ite (fun _=>?_) fun _=>.ret (r26.mono (by omega));rw [sSum_p,bd_val];exact .ret (r26.mono (by omega))
    | .inr d,hr=>exact .ret hr
theorem word_post {b:List Int} {p:Int} {n:Nat} (h:Rd (n+40) ⟨b,p⟩) (e:HelloEnd):Post (spec_l46Word_m ⟨b,p⟩ e) fun x=>Rd n ⟨b,x.2.p⟩:=by
  unfold spec_l46Word_m;refine .bd (pickR (n:=n+39) h (by decide)) fun x1 ⟨q1,r1⟩=>.bd (Q:=fun _=>True) (.ite (fun _=>.ret trivial) fun _=>.ret trivial) fun x2 _=>.bd (Q:=fun x=>Rd (n+37) ⟨b,x.2.2.2.2⟩) ?_ fun x5 r5=>.bd (Q:=fun x=>Rd (n+29) ⟨b,x.2.2.2.2.2⟩) ?_ fun x17 r17=>.bd (Q:=fun x=>Rd (n+27) ⟨b,x.2⟩) ?_ fun x26 r26=>.bd (Q:=fun _=>True) (.ite (fun _=>.ret trivial) fun _=>.ret trivial) fun x32 _=>.bd (Q:=fun x=>Rd (n+26) ⟨b,x.2.2⟩) ?_ fun x35 r35=>.bd (pickR (n:=n+25) r35 (by decide)) fun x41 ⟨q41,r41⟩=>.ite (fun _=>.bd (spoilWord_post (n:=n+15) r41 _) fun x42 r42=>.ret (r42.mono (by omega))) fun _=>.ret (r41.mono (by omega))
  · refine .bd (pickR (n:=n+38) r1 (by decide)) fun x8 ⟨q8,r8⟩=>.ite (fun _=>.bd (pickR (n:=n+37) r8 (by decide)) fun x ⟨q,r⟩=>.gd (by simp; omega) (.ret r)) fun _=>.ite (fun _=>.bd (pickR (n:=n+37) r8 (by decide)) fun x ⟨q,r⟩=>.gd (by simp; omega) (.ret r)) fun _=>.ite (fun _=>.bd (pickR (n:=n+37) r8 (by decide)) fun x ⟨q,r⟩=>.gd (by simp; omega) (.ret r)) fun _=>.ite (fun _=>.bd (pickR (n:=n+37) r8 (by decide)) fun x ⟨q,r⟩=>.gd (by simp; omega) (.ret r)) fun _=>.ret (r8.mono (m:=n+37) (by omega))
  · refine .bd (pickR (n:=n+36) r5 (by decide)) fun x20 ⟨q20,r20⟩=>.ite (fun _=>.ret (r20.mono (m:=n+29) (by omega))) fun _=>.ite (fun _=>.bd (prefix_post (n:=n+33) r20) fun x21 ⟨q21,r21⟩=>?_) fun _=>.ite (fun _=>.ite (fun _=>.bd (entry_post (n:=n+30) r20) fun x ⟨q,r⟩=>.ret (r.mono (m:=n+29) (by omega))) fun _=>.ret (r20.mono (m:=n+29) (by omega))) fun _=>.ite (fun _=>.bd (entry_post (n:=n+30) r20) fun x ⟨q,r⟩=>.ret (r.mono (m:=n+29) (by omega))) fun _=>.ret (r20.mono (m:=n+29) (by omega));refine .ite (fun c=>?_) fun _=>.ret (r21.mono (m:=n+29) (by omega));have:=of_decide_eq_true c;exact .bd (pickR (n:=n+32) r21 (by omega)) fun x22 ⟨q22,r22⟩=>.gd q22 (.ret (r22.mono (m:=n+29) (by omega)))
  · exact .bd (pickR (n:=n+28) r17 (by decide)) fun x29 ⟨q29,r29⟩=>.ite (fun _=>.bd (pickR (n:=n+27) r29 (by decide)) fun x ⟨q,r⟩=>.gd (by simp; omega) (.ret r)) fun _=>.ret (r29.mono (m:=n+27) (by omega))
  · refine .ite (fun c=>?_) fun _=>.ret (r26.mono (m:=n+26) (by omega));have:=of_decide_eq_true c;refine .bd (pickR (n:=n+26) r26 (by omega)) fun x38 ⟨q38,r38⟩=>.gd q38 ?_;rw [sSum_p,bd_val];exact .ret r38
theorem drawHear_post {b:List Int} (hb:b.length≤9223372036854775807) (h:∀ x ∈ b,FitsB x):Post (spec_DrawHelloHear_m b) fun x=>Lens x.1 40:=by
  unfold spec_DrawHelloHear_m;exact .bd (open_rd hb h) fun r hr=>.bd (anyEnd_post (n:=100) (b:=r.b) (p:=r.p) (hr.mono (by decide))) fun x ⟨h1,r1⟩=>.bd (word_post (n:=60) r1 x.1) fun y _=>.ret h1
theorem hear_lens {e:HelloEnd} (h:Lens e 40) (w:HelloWord):Lens (helloHear e w) 40:=by
  cases hok:endOk e
  · have:helloHear e w=noEnd:=by unfold helloHear; rw [hok]; rfl
    rw [this];exact ⟨Nat.zero_le _,Nat.zero_le _,Nat.zero_le _,Nat.zero_le _⟩
  · exact (eo_lens (hear_eo (endOk_iff.1 hok))).mono (by decide)
theorem hear_new {e:HelloEnd} {w:HelloWord} (h:endOk e=true) (hn:isNewV e w=true):helloHear e w=listenY (begun e w) w:=by
  unfold helloHear;rw [if_pos h,if_pos hn]
theorem hear_old {e:HelloEnd} {w:HelloWord} (h:endOk e=true) (hn:isNewV e w=false):helloHear e w=e:=by
  unfold helloHear;rw [if_pos h,hn]; rfl
end Go.Proofs.YtaoeomoepefojaaGreat
