/-
  Plain Lean: drawn words; the row FnHelloHear.
-/
import Derived.Test.YtjgjdobkahdgfaaGreatKz6
import Derived.Test.YtjgjdobkahdgfaaGreatHelWbz
import Derived.Test.YtjgjdobkahdgfaaGreatHelIz
import Derived.Test.YtjgjdobkahdgfaaGreatArgz
set_option linter.all false
namespace Go.Proofs.YtjgjdobkahdgfaaGreat
open Go Go.Ab
set_option maxHeartbeats 4000000
set_option maxRecDepth 100000
theorem QkG {b:List Int} {p:Int} {n:Nat} (h:Rd (n+10) ⟨b,p⟩) (w:Qv7):Post (Qap ⟨b,p⟩ w) fun x=>Rd n ⟨b,x.2.p⟩:=by
  unfold Qap;refine .bd (Q:=fun r=>match r with
    | .inl d=>Rd (n+5) ⟨b,d.2.2.2.2.2.2.2.2.2.2.2.2.2⟩
    | .inr d=>Rd n ⟨b,d.2⟩) (.bd (ZO (n:=n+9) h (by decide)) fun x4 ⟨q4,r4⟩=>?_) fun r hr=>?_
  · refine .ite (fun _=>.bd (ZO (n:=n+8) r4 (by decide)) fun x ⟨q,r⟩=>.gd (by simp; omega) (.ret (r.mono (m:=n+5) (by omega)))) fun _=>.ite (fun _=>.bd (ZO (n:=n+8) r4 (by decide)) fun x ⟨q,r⟩=>.gd (by simp; omega) (.ret (r.mono (m:=n+5) (by omega)))) fun _=>.ite (fun _=>.bd (ZO (n:=n+8) r4 (by decide)) fun x ⟨q,r⟩=>.gd (by simp; omega) (.ret (r.mono (m:=n+5) (by omega)))) fun _=>.ite (fun _=>.bd (ZO (n:=n+8) r4 (by decide)) fun x ⟨q,r⟩=>.gd (by simp; omega) (.ret (r.mono (m:=n+5) (by omega)))) fun _=>.ite (fun _=>.bd (ZO (n:=n+8) r4 (by decide)) fun x ⟨q,r⟩=>.gd (by simp; omega) (.ret (r.mono (m:=n+5) (by omega)))) fun _=>.ite (fun _=>.bd (ZO (n:=n+8) r4 (by decide)) fun x ⟨q,r⟩=>.gd (by simp; omega) (.ret (r.mono (m:=n+5) (by omega)))) fun _=>.ite (fun _=>.bd (ZO (n:=n+8) r4 (by decide)) fun x ⟨q,r⟩=>.gd (by simp; omega) (.ret (r.mono (m:=n+5) (by omega)))) fun _=>.ite (fun _=>.bd (ZO (n:=n+8) r4 (by decide)) fun x ⟨q,r⟩=>.gd (by simp; omega) (.ret (r.mono (m:=n+5) (by omega)))) fun _=>.ite (fun _=>.bd (ZO (n:=n+8) r4 (by decide)) fun x ⟨q,r⟩=>.gd (by simp; omega) (.ret (r.mono (m:=n) (by omega)))) fun _=>.ite (fun _=>.bd (Qd7 (n:=n+7) r4 _) fun x r=>.ret (r.mono (m:=n+5) (by omega))) fun _=>.bd (ZO (n:=n+8) r4 (by decide)) fun x ⟨q,r⟩=>.gd (by simp; omega) (.ret (r.mono (m:=n+5) (by omega)))
  · match r,hr with
    | .inl d,hr =>
      refine .bd (ZO (n:=n+4) hr (by decide)) fun x26 ⟨q26,r26⟩=>.ite (fun _=>?_) fun _=>.ret (r26.mono (by omega));rw [Qnj,Qb];exact .ret (r26.mono (by omega))
    | .inr d,hr=>exact .ret hr
end Go.Proofs.YtjgjdobkahdgfaaGreat
