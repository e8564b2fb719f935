/-
  Plain Lean: drawn events, worlds that are played, drawn ends.
-/
import Derived.Test.YtjgjdobkahdgfaaGreatKz5
import Derived.Test.YtjgjdobkahdgfaaGreatHelGz
set_option linter.all false
namespace Go.Proofs.YtjgjdobkahdgfaaGreat
open Go Go.Ab
set_option maxHeartbeats 2000000
set_option maxRecDepth 100000
def QuA (a p:Int) (ks:List Qwf) (t:List Qwg):Qwj:=⟨a,p,ks,1,t,0,0,0,false,0,0,⟨0,⟨0,0,0,0⟩⟩,[],false,0,false,[],0⟩
theorem QtI {a p:Int} {ks:List Qwf} {t:List Qwg} (ha:0≤a∧a≤65535) (hp:0≤p∧p≤65535) (hn:a ≠ p) (hk:Qbc ks=true) (ht:To t):Eo (QuA a p ks t) :=
  ⟨ha,hp,hn,hk,(by show (1:Int)≤1∧(1:Int)≤1000; decide),(by show (0:Int)≤0∧(0:Int)≤1000000; decide),(by show (0:Int)≤0∧(0:Int)≤1000000; decide),(by show (0:Int)≤0∧(0:Int)≤1000000; decide),(by show (0:Int)≤0∧(0:Int)≤999; decide),⟨fun _=>rfl,fun _=>rfl⟩,(by show (0:Int)≤0∧(0:Int)≤4; decide),fun _=>rfl,fun q=>(by cases q),(by show (0:Int)≤0∧(0:Int)≤0; decide),rfl,fun _=>rfl,ht,QjR,QjR,Qk7 _⟩
theorem QvB {a p:Int} {ks:List Qwf} {t:List Qwg} (h:Eo (QuA a p ks t)):QaJ a p ks 1 t=some (QuA a p ks t):=by
  have L:=(Jd h).mono (m:=1048576) (by decide);unfold QaJ;refine (congrArg (fun m=>bd m _) (Qe5 L)).trans ?_;rw [Qb,Qk3 L.k L.t,JI.2 h,Qb,if_neg (by decide)]
theorem QnZ {b:List Int} {p:Int} {n:Nat} (h:Rd (n+30) ⟨b,p⟩) {w:Qwm} (hw:Gw w):Post (Qa2 ⟨b,p⟩ w) fun x=>Rd n ⟨b,x.2.p⟩:=by
  have hs:(w.Sides.length:Int)=2:=by
    obtain ⟨⟨a,c,e,_⟩,_⟩:=hw;rw [e]; rfl
  unfold Qa2;refine .bd (Qcc (n:=n+29) h (by decide)) fun x1 ⟨q1,r1⟩=>.gd (by omega) (.bd (Qcc (n:=n+28) r1 (by decide)) fun x3 ⟨q3,r3⟩=>.bd (Qcc (n:=n+27) r3 (by decide)) fun x4 ⟨q4,r4⟩=>.bd (Qcc (n:=n+26) r4 (by decide)) fun x5 ⟨q5,r5⟩=>.bd (Qcc (n:=n+25) r5 (by decide)) fun x6 ⟨q6,r6⟩=>.bd (Qcc (n:=n+24) r6 (by decide)) fun x7 ⟨q7,r7⟩=>.bd (Qcc (n:=n+23) r7 (by decide)) fun x8 ⟨q8,r8⟩=>.bd (Qcc (n:=n+22) r8 (by decide)) fun x9 ⟨q9,r9⟩=>.bd (Q:=fun r=>match r with
    | .inl d=>Rd (n+2) ⟨b,d⟩
    | .inr (.inl d)=>Rd n ⟨b,d.2.2.2.2.2.2.2.2.2.2.2.2.2.2⟩
    | .inr (.inr d)=>Rd n ⟨b,d.2.2.2.2.2.2.2.2.2.2.2.2.2⟩) ?_ fun r hr=>?_)
  · by_cases hL:0 < w.Radio.length
    · refine .ite (fun _=>.bd (Qcc (n:=n+21) r9 (by decide)) fun x14 ⟨q14,r14⟩=>.ite (fun _=>.bd (Qcc (n:=n+20) r14 (by omega)) fun x15 ⟨q15,r15⟩=>.gd q15 (.bd (Qcc (n:=n+19) r15 (by decide)) fun x17 ⟨q17,r17⟩=>.ite (fun _=>.bd (Qcc (n:=n+18) r17 (by decide)) fun x18 ⟨q18,r18⟩=>.ret ?_) fun _=>.ite (fun _=>.ret ?_) fun _=>.ite (fun _=>.ret ?_) fun _=>.bd (Qla (n:=n+13) r17) fun x19 ⟨q19,r19⟩=>.ret ?_)) fun _=>.ret ?_) fun c=>absurd (by simp; omega) c
      · exact r18.mono (by omega)
      · exact r17.mono (by omega)
      · exact r17.mono (by omega)
      · exact r19.mono (by omega)
      · exact r14.mono (by omega)
    · refine .ite (fun c=>absurd (of_decide_eq_true c) (by omega)) fun _=>.ite (fun c=>absurd (of_decide_eq_true (Bool.and_eq_true_iff.1 c).1) (by omega)) fun _=>.ret ?_;exact r9.mono (by omega)
  · match r,hr with
    | .inl d,hr =>
      refine .bd (Qcc (n:=n+1) hr (by decide)) fun x25 ⟨q25,r25⟩=>.bd (Qcc (n:=n) r25 (by decide)) fun x26 ⟨q26,r26⟩=>.ite (fun _=>?_) fun _=>.ret r26;rw [QoN,Qb];exact .ret r26
    | .inr (.inl d),hr=>exact .ret hr
    | .inr (.inr d),hr=>exact .ret hr
end Go.Proofs.YtjgjdobkahdgfaaGreat
