/-
  Plain Lean: drawn events, worlds that are played, drawn ends.
-/
import Derived.Test.YtjgjdobkahdgfaaGreatKz5
import Derived.Test.YtjgjdobkahdgfaaGreatHelGz
set_option linter.all false
namespace Go.Proofs.YtjgjdobkahdgfaaGreat
open Go Go.Ab
set_option maxHeartbeats 2000000
set_option maxRecDepth 100000
def Qvt (a p:Int) (ks:List Qw7) (t:List Qw8):Qxb:=⟨a,p,ks,1,t,0,0,0,false,0,0,⟨0,⟨0,0,0,0⟩⟩,[],false,0,false,[],0⟩
theorem Quw {a p:Int} {ks:List Qw7} {t:List Qw8} (ha:0≤a∧a≤65535) (hp:0≤p∧p≤65535) (hn:a ≠ p) (hk:Qa5 ks=true) (ht:To t):Eo (Qvt a p ks t) :=
  ⟨ha,hp,hn,hk,(by show (1:Int)≤1∧(1:Int)≤1000; decide),(by show (0:Int)≤0∧(0:Int)≤1000000; decide),(by show (0:Int)≤0∧(0:Int)≤1000000; decide),(by show (0:Int)≤0∧(0:Int)≤1000000; decide),(by show (0:Int)≤0∧(0:Int)≤999; decide),⟨fun _=>rfl,fun _=>rfl⟩,(by show (0:Int)≤0∧(0:Int)≤4; decide),fun _=>rfl,fun q=>(by cases q),(by show (0:Int)≤0∧(0:Int)≤0; decide),rfl,fun _=>rfl,ht,Qki,Qki,Qly _⟩
theorem Qwp {a p:Int} {ks:List Qw7} {t:List Qw8} (h:Eo (Qvt a p ks t)):QaX a p ks 1 t=some (Qvt a p ks t):=by
  have L:=(ZT h).mono (m:=1048576) (by decide);unfold QaX;refine (congrArg (fun m=>bd m _) (Qet L)).trans ?_;rw [Qb,Qlu L.k L.t,Jw.2 h,Qb,if_neg (by decide)]
theorem QoF {b:List Int} {p:Int} {n:Nat} (h:Rd (n+30) ⟨b,p⟩) {w:Qxe} (hw:Gw w):Post (Qbj ⟨b,p⟩ w) fun x=>Rd n ⟨b,x.2.p⟩:=by
  have hs:(w.Sides.length:Int)=2:=by
    obtain ⟨⟨a,c,e,_⟩,_⟩:=hw;rw [e]; rfl
  unfold Qbj;refine .bd (Qcg (n:=n+29) h (by decide)) fun x1 ⟨q1,r1⟩=>.gd (by omega) (.bd (Qcg (n:=n+28) r1 (by decide)) fun x3 ⟨q3,r3⟩=>.bd (Qcg (n:=n+27) r3 (by decide)) fun x4 ⟨q4,r4⟩=>.bd (Qcg (n:=n+26) r4 (by decide)) fun x5 ⟨q5,r5⟩=>.bd (Qcg (n:=n+25) r5 (by decide)) fun x6 ⟨q6,r6⟩=>.bd (Qcg (n:=n+24) r6 (by decide)) fun x7 ⟨q7,r7⟩=>.bd (Qcg (n:=n+23) r7 (by decide)) fun x8 ⟨q8,r8⟩=>.bd (Qcg (n:=n+22) r8 (by decide)) fun x9 ⟨q9,r9⟩=>.bd (Q:=fun r=>match r with
    | .inl d=>Rd (n+2) ⟨b,d⟩
    | .inr (.inl d)=>Rd n ⟨b,d.2.2.2.2.2.2.2.2.2.2.2.2.2.2⟩
    | .inr (.inr d)=>Rd n ⟨b,d.2.2.2.2.2.2.2.2.2.2.2.2.2⟩) ?_ fun r hr=>?_)
  · by_cases hL:0 < w.Radio.length
    · refine .ite (fun _=>.bd (Qcg (n:=n+21) r9 (by decide)) fun x14 ⟨q14,r14⟩=>.ite (fun _=>.bd (Qcg (n:=n+20) r14 (by omega)) fun x15 ⟨q15,r15⟩=>.gd q15 (.bd (Qcg (n:=n+19) r15 (by decide)) fun x17 ⟨q17,r17⟩=>.ite (fun _=>.bd (Qcg (n:=n+18) r17 (by decide)) fun x18 ⟨q18,r18⟩=>.ret ?_) fun _=>.ite (fun _=>.ret ?_) fun _=>.ite (fun _=>.ret ?_) fun _=>.bd (QlA (n:=n+13) r17) fun x19 ⟨q19,r19⟩=>.ret ?_)) fun _=>.ret ?_) fun c=>absurd (by simp; omega) c
      · exact r18.mono (by omega)
      · exact r17.mono (by omega)
      · exact r17.mono (by omega)
      · exact r19.mono (by omega)
      · exact r14.mono (by omega)
    · refine .ite (fun c=>absurd (of_decide_eq_true c) (by omega)) fun _=>.ite (fun c=>absurd (of_decide_eq_true (Bool.and_eq_true_iff.1 c).1) (by omega)) fun _=>.ret ?_;exact r9.mono (by omega)
  · match r,hr with
    | .inl d,hr =>
      refine .bd (Qcg (n:=n+1) hr (by decide)) fun x25 ⟨q25,r25⟩=>.bd (Qcg (n:=n) r25 (by decide)) fun x26 ⟨q26,r26⟩=>.ite (fun _=>?_) fun _=>.ret r26;rw [Qpw,Qb];exact .ret r26
    | .inr (.inl d),hr=>exact .ret hr
    | .inr (.inr d),hr=>exact .ret hr
theorem QqW {b:List Int} {p:Int} {n:Nat} (h:Rd (n+70) ⟨b,p⟩) {w:Qxe} (hw:Gw w):Post (Jb ⟨b,p⟩ w) fun x=>x.1.Keys.length≤1048576∧Rd n ⟨b,x.2.p⟩:=by
  unfold Jb;refine .bd (Qcg (n:=n+69) h (by decide)) fun x1 ⟨q1,r1⟩=>.bd (Q:=fun x=>Rd (n+62) ⟨b,x.1⟩) ?_ fun x2 r2=>.bd (Qcg (n:=n+61) r2 (by decide)) fun x9 ⟨q9,r9⟩=>.bd (Q:=fun _=>True) ?_ fun x10 _=>.ite (fun _=>.ret ⟨by simp,r9.mono (by omega)⟩) fun _=>.bd (Q:=fun _=>True) ?_ fun x13 _=>.ite (fun _=>.ret ⟨by simp,r9.mono (by omega)⟩) fun _=>.ite (fun _=>.ret ⟨by simp,r9.mono (by omega)⟩) fun _=>.ite (fun _=>.ret ⟨by simp,r9.mono (by omega)⟩) fun _=>.ite (fun _=>.ret ⟨by simp,r9.mono (by omega)⟩) fun _=>.ite (fun _=>.bd (Qcg (n:=n+60) r9 (by decide)) fun x16 ⟨q16,r16⟩=>.ite (fun _=>.ret ⟨by simp,r16.mono (by omega)⟩) fun _=>.ret ⟨by simp,r16.mono (by omega)⟩) fun _=>.ite (fun _=>.ret ⟨by simp,r9.mono (by omega)⟩) fun _=>.ite (fun _=>.bd (QiA (n:=n+1) r9) fun x17 ⟨q17,r17⟩=>.ret ⟨by simp,r17.mono (by omega)⟩) fun _=>.ite (fun _=>.bd (Qcg (n:=n+60) r9 (by decide)) fun x18 ⟨q18,r18⟩=>.ite (fun _=>.bd (Qnv (n:=n+59) r18) fun x19 ⟨q19,r19⟩=>.ret ⟨Nat.le_trans q19.2 (by decide),r19.mono (by omega)⟩) fun _=>.ret ⟨by simp,r18.mono (by omega)⟩) fun _=>.bd (QoF (n:=n+31) r9 hw) fun x20 r20=>.ret ⟨by simp,r20.mono (by omega)⟩
  · by_cases hL:0 < w.Radio.length
    · refine .ite (fun _=>.bd (Qcg (n:=n+68) r1 (by decide)) fun x6 ⟨q6,r6⟩=>.ite (fun _=>.bd (Qcg (n:=n+67) r6 (by omega)) fun x7 ⟨q7,r7⟩=>.ret ?_) fun _=>.ret ?_) fun c=>absurd (by simp; omega) c
      · exact r7.mono (by omega)
      · exact r6.mono (by omega)
    · refine .ite (fun c=>absurd (of_decide_eq_true c) (by omega)) fun _=>.ite (fun c=>absurd (of_decide_eq_true (Bool.and_eq_true_iff.1 c).1) (by omega)) fun _=>.ret ?_;exact r1.mono (by omega)
  · exact .ite (fun _=>.ret trivial) fun _=>.ite (fun _=>.ret trivial) fun _=>.ite (fun _=>.ret trivial) fun _=>.ite (fun _=>.ret trivial) fun _=>.ite (fun _=>.ret trivial) fun _=>.ret trivial
  · exact .ite (fun _=>.ret trivial) fun _=>.ite (fun _=>.ret trivial) fun _=>.ite (fun _=>.ret trivial) fun _=>.ite (fun _=>.ret trivial) fun _=>.ite (fun _=>.ret trivial) fun _=>.ite (fun _=>.ret trivial) fun _=>.ite (fun _=>.ret trivial) fun _=>.ret trivial
end Go.Proofs.YtjgjdobkahdgfaaGreat
