/-
  Plain Lean: spoilt ends, drawn words.
-/
import Derived.Test.YtjgjdobkahdgfaaGreatKz6
import Derived.Test.YtjgjdobkahdgfaaGreatHelHz
set_option linter.all false
namespace Go.Proofs.YtjgjdobkahdgfaaGreat
open Go Go.Ab
set_option maxHeartbeats 4000000
set_option maxRecDepth 100000
theorem Qd7 {b:List Int} {p:Int} {n:Nat} (h:Rd (n+2) ⟨b,p⟩) (e:Qv2):Post (ZW ⟨b,p⟩ e) fun x=>Rd n ⟨b,x.2.p⟩:=by
  unfold ZW;refine .bd (ZO (n:=n+1) h (by decide)) fun x1 ⟨q1,r1⟩=>.ite (fun _=>.bd (ZO (n:=n) r1 (by decide)) fun x ⟨q,r⟩=>.gd (by simp; omega) (.ret r)) fun _=>.ite (fun _=>.bd (ZO (n:=n) r1 (by decide)) fun x ⟨q,r⟩=>.gd (by simp; omega) (.ret r)) fun _=>.ite (fun _=>.bd (ZO (n:=n) r1 (by decide)) fun x ⟨q,r⟩=>.gd (by simp; omega) (.ret r)) fun _=>.bd (ZO (n:=n) r1 (by decide)) fun x ⟨q,r⟩=>.gd (by simp; omega) (.ret r)
theorem Qnt {b:List Int} {p:Int} {n:Nat} (h:Rd (n+12) ⟨b,p⟩) {t:List Qv2} (ht:t.length≤16):Post (lp (σ:=List Qv2 × Int × Int) (β:=(Nat × (List Qv2) × Int)) (fun s14 =>
    bd (Qc (⟨b,s14.2.1⟩:Qv0) 2) fun x18 =>
    (if (decide (s14.2.2 < (IntKind.i64.wrap (8+x18.1))))=true then
    gd (((s14.1.length)+(([(⟨IntKind.i64.wrap (61440+s14.2.2),16,1,0⟩:Qv2)]:List Qv2).length))*(32+1)≤70368744177664) <|
    some (.inl ((s14.1 ++ ([(⟨IntKind.i64.wrap (61440+s14.2.2),16,1,0⟩:Qv2)]:List Qv2)),x18.2.p,IntKind.i64.wrap (s14.2.2+1)))
    else
    some (.inr (s14.1.length,s14.1,x18.2.p)))) (t,p,0)) fun x=>x.2.1.length≤40∧Rd n ⟨b,x.2.2⟩:=by
  refine .lp (fun s=>(s.1.length:Int)≤16+s.2.2∧(0≤s.2.2∧s.2.2≤9)∧Rd (n+1+(10 - s.2.2.toNat)) ⟨b,s.2.1⟩) (fun s=>(10 - s.2.2).toNat) ⟨by dsimp only; omega,by dsimp only; omega,h.mono (by dsimp only; omega)⟩ fun s ⟨s0,s1,s2⟩=>.bd (ZO (n:=n+(10 - s.2.2.toNat)) (s2.mono (by omega)) (by decide)) fun x ⟨q,r⟩=>?_;rw [wrap_i64 (n:=8+x.1) (by omega) (by omega),wrap_i64 (n:=s.2.2+1) (by omega) (by omega)];refine .ite (fun c=>.gd (by simp; omega) (.ret ⟨⟨by simp; omega,?_,r.mono ?_⟩,?_⟩)) fun _=>.ret ⟨by dsimp only; omega,r.mono (by omega)⟩
  · have:=of_decide_eq_true c;dsimp only; omega
  · dsimp only; omega
  · have:=of_decide_eq_true c;dsimp only; omega
theorem Qf4 {b:List Int} {p:Int} {n:Nat} (h:Rd (n+20) ⟨b,p⟩) {t:List Qv2} (ht:t.length≤16):Post (Js ⟨b,p⟩ t) fun x=>x.1.length≤40∧Rd n ⟨b,x.2.p⟩:=by
  unfold Js;rw [Qf2 (by omega),Qb];refine .bd (Q:=fun r=>match r with | .inl d=>t.length ≠ 0∧Rd (n+10) ⟨b,d⟩ | .inr d=>d.2.1.length≤40∧Rd n ⟨b,d.2.2⟩) ?_ fun r hr=>?_
  · refine .ite (fun _=>.ite (fun _=>.bd (Qnt (n:=n) (h.mono (by omega)) ht) fun x hx=>.ret hx) fun c=>absurd (by simp) c) fun c0=>.bd (ZO (n:=n+19) h (by decide)) fun x6 ⟨q6,r6⟩=>.ite (fun _=>.bd (Qnt (n:=n) (r6.mono (by omega)) ht) fun x hx=>.ret hx) fun _=>.ret ⟨?_,r6.mono (by omega)⟩;intro q;rw [q] at c0;exact c0 rfl
  · match r,hr with
    | .inl d,⟨h0,hr⟩ =>
      refine .bd (ZO (n:=n+9) hr (by omega)) fun x21 ⟨q21,r21⟩=>.bd (ZO (n:=n+8) r21 (by decide)) fun x22 ⟨q22,r22⟩=>.ite (fun _=>.gd q21 (.gd (by simp; omega) (.ret ⟨by simp; omega,r22.mono (by omega)⟩))) fun _=>.gd q21 (.bd (Qd7 (n:=n+6) r22 _) fun x26 r26=>.gd q21 (.ret ⟨by simp; omega,r26.mono (by omega)⟩))
    | .inr d,hr=>exact .ret hr
theorem QkF {b:List Int} {p:Int} {n:Nat} (h:Rd (n+4) ⟨b,p⟩) {t:List Qv1} (ht:t.length≤16):Post (Qaq ⟨b,p⟩ t) fun x=>x.1.length≤40∧Rd n ⟨b,x.2.p⟩:=by
  unfold Qaq ZL;rw [Qn (by omega),Qb];refine .ite (fun _=>.ret ⟨by dsimp only; omega,h.mono (by omega)⟩) fun c=>?_;have hl:t.length ≠ 0:=fun q=>by rw [q] at c; exact c rfl
  refine .bd (ZO (n:=n+3) h (by omega)) fun x2 ⟨q2,r2⟩=>.bd (ZO (n:=n+2) r2 (by decide)) fun x3 ⟨q3,r3⟩=>.ite (fun _=>.bd (ZO (n:=n+1) r3 (by decide)) fun x4 ⟨q4,r4⟩=>.gd (by simp; omega) (.gd q2 ?_)) fun _=>.ite (fun _=>.bd (ZO (n:=n+1) r3 (by decide)) fun x4 ⟨q4,r4⟩=>.gd (by simp; omega) (.gd q2 ?_)) fun _=>.ite (fun _=>.gd q2 (.gd (by simp; omega) (.ret ⟨by simp; omega,r3.mono (by omega)⟩))) fun _=>.bd (ZO (n:=n+1) r3 (by decide)) fun x14 ⟨q14,r14⟩=>?_
  · rw [Qb];exact .ret ⟨by simp; omega,r4.mono (by omega)⟩
  · rw [Qb];exact .ret ⟨by simp; omega,r4.mono (by omega)⟩
  · rw [wrap_i64 (n:=3+x14.1) (by omega) (by omega)];exact .gd (by simp; omega) (.ret ⟨by simp; omega,r14.mono (by omega)⟩)
theorem Qqo {t:List Qv2} (ht:t.length≤16):Post (lp (σ:=List Qv2 × Int) (β:=((List Qv2) × Nat)) (fun s6 =>
    (if (decide (((s6.1.length:Nat):Int) < 8))=true then
    bd (JI s6.1 (⟨IntKind.i64.wrap (16384+s6.2),16,1,0⟩:Qv2)) fun x10 =>
    some (.inl (x10,IntKind.i64.wrap (s6.2+1)))
    else
    some (.inr (s6.1,s6.1.length)))) (t,0)) fun x=>x.1.length≤16:=by
  refine .lp (fun s=>s.1.length≤16∧(0≤s.2∧s.2+((8 - s.1.length+QhU idE s.1 (16384+s.2):Nat):Int)≤64)) (fun s=>8 - s.1.length+QhU idE s.1 (16384+s.2)) ⟨ht,Int.le_refl _,?_⟩ fun s ⟨s0,s1,s2⟩=>.ite (fun d=>?_) fun d=>.ret s0
  · have:=Qoq (f:=idE) t (16384+0);dsimp only; omega
  · have d:s.1.length < 8:=by
      have:((s.1.length:Nat):Int) < 8:=by simpa using d
      omega
    rw [wrap_i64 (n:=16384+s.2) (by omega) (by omega),Qml (by omega),Qb,wrap_i64 (n:=s.2+1) (by omega) (by omega)];obtain ⟨f1,f2⟩:=Qnr (f:=idE) (t:=s.1) (e:=⟨16384+s.2,16,1,0⟩) (x:=⟨16384+s.2,16,1,0⟩) rfl d;have pe:Qrp s.1 ⟨16384+s.2,16,1,0⟩=(if Qdp idE s.1 ⟨16384+s.2,16,1,0⟩=true then s.1.set (posK idE s.1 ⟨16384+s.2,16,1,0⟩) ⟨16384+s.2,16,1,0⟩ else s.1.take (posK idE s.1 ⟨16384+s.2,16,1,0⟩) ++ [⟨16384+s.2,16,1,0⟩] ++ s.1.drop (posK idE s.1 ⟨16384+s.2,16,1,0⟩)):=rfl;rw [← pe] at f1 f2;have ae:(16384+(s.2+1):Int)=(16384+s.2)+1:=by omega
    dsimp only at f1;refine .ret ⟨⟨by dsimp only; omega,by dsimp only; omega,?_⟩,?_⟩
    · dsimp only; rw [ae]; omega
    · dsimp only; rw [ae]; omega
theorem Qmu {b:List Int} {p:Int} {n:Nat} (h:Rd (n+40) ⟨b,p⟩) {e:Qv5} (L:Lens e 16):Post (QaD ⟨b,p⟩ e) fun x=>Lens x.1 40∧Rd n ⟨b,x.2.p⟩:=by
  have hk:e.Keys.length≤40:=Nat.le_trans L.k (by decide);have hw:e.Want.length≤40:=Nat.le_trans L.w (by decide);have ht:e.Told.length≤40:=Nat.le_trans L.t (by decide);have hh:e.Heard.length≤40:=Nat.le_trans L.h (by decide);unfold QaD;rw [Qc7 (L.mono (by decide)),Qb];refine .bd (Q:=fun x=>x.1.length≤40∧x.2.1.length≤40∧x.2.2.1.length≤40∧x.2.2.2.1.length≤40∧Rd n ⟨b,x.2.2.2.2.2.2.2.2.2.2.2.2.2.2.2.2.2.2.2.2.2⟩) (.bd (ZO (n:=n+39) h (by decide)) fun x5 ⟨q5,r5⟩=>?_) fun x ⟨x1,x2,x3,x4,x5⟩=>.ret ⟨⟨x1,x2,x3,x4⟩,x5⟩
  repeat' first
    | exact Post.ret ⟨hk,hw,ht,hh,Rd.mono (by assumption) (by omega)⟩
    | (refine Post.ite (fun _=>?_) fun hc=>?_)
    | (refine Post.bd (ZO (n:=n+38) (by assumption) (by decide)) fun x hx=>?_; have hr:=hx.2; have h1:=hx.1.1; have h2:=hx.1.2; refine Post.gd (by simp; omega) ?_; exact Post.ret ⟨hk,hw,ht,hh,Rd.mono (by assumption) (by omega)⟩)
  · refine .bd (Qqo L.t) fun x9 h9=>.bd (ZO (n:=n+38) r5 (by decide)) fun x12 ⟨q12,r12⟩=>.gd (by decide) (.ret ⟨hk,hw,Nat.le_trans h9 (by decide),hh,r12.mono (by omega)⟩)
  · exact .bd (QkF (n:=n+35) r5 L.k) fun x ⟨h1,h2⟩=>.ret ⟨h1,hw,ht,hh,h2.mono (by omega)⟩
  · exact .bd (Qf4 (n:=n+19) r5 L.w) fun x ⟨h1,h2⟩=>.ret ⟨hk,h1,ht,hh,h2.mono (by omega)⟩
  · exact .bd (ZO (n:=n+38) r5 (by decide)) fun x ⟨q,r⟩=>.bd (Qix (n:=n+32) r) fun y ⟨q2,r2⟩=>.ret ⟨hk,hw,ht,hh,r2.mono (by omega)⟩
  · exact .bd (Qf4 (n:=n+19) r5 L.t) fun x ⟨h1,h2⟩=>.ret ⟨hk,hw,h1,hh,h2.mono (by omega)⟩
  · have hl:0 < e.Heard.length:=by
      have:((e.Heard.length:Nat):Int) > 0:=by simpa using ‹decide (((e.Heard.length:Nat):Int) > 0)=true›
      omega
    refine .bd (ZO (n:=n+38) r5 (by omega)) fun x39 ⟨q39,r39⟩=>.gd q39 (.gd q39 ?_);rw [Qb];refine .bd (ZO (n:=n+37) r39 (by decide)) fun x43 ⟨q43,r43⟩=>.ite (fun _=>.gd q39 (.bd (Qd7 (n:=n+35) r43 _) fun x45 r45=>.gd q39 (.ret ⟨hk,hw,ht,?_,r45.mono (by omega)⟩))) fun _=>.ret ⟨hk,hw,ht,?_,r43.mono (by omega)⟩
    · simpa using hh
    · simpa using hh
theorem Quw {b:List Int} (hb:b.length≤9223372036854775807) (h:∀ x ∈ b,Ql3 x):Post (Qbj b) fun r=>Rd 1000000 r:=(QrU hb h).mono fun r h=>h
end Go.Proofs.YtjgjdobkahdgfaaGreat
