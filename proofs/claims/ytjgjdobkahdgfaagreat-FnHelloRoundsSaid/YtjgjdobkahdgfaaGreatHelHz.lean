/-
  Plain Lean: drawn events, worlds that are played, drawn ends.
-/
import Derived.Test.YtjgjdobkahdgfaaGreatKz6
import Derived.Test.YtjgjdobkahdgfaaGreatHelGz
set_option linter.all false
namespace Go.Proofs.YtjgjdobkahdgfaaGreat
open Go Go.Ab
set_option maxHeartbeats 2000000
set_option maxRecDepth 100000
def Qvg (a p:Int) (ks:List Qv1) (t:List Qv2):Qv5:=⟨a,p,ks,1,t,0,0,0,false,0,0,⟨0,⟨0,0,0,0⟩⟩,[],false,0,false,[],0⟩
theorem QtA {a p:Int} {ks:List Qv1} {t:List Qv2} (ha:0≤a∧a≤65535) (hp:0≤p∧p≤65535) (hn:a ≠ p) (hk:Qbx ks=true) (ht:To t):Eo (Qvg a p ks t) :=
  ⟨ha,hp,hn,hk,(by show (1:Int)≤1∧(1:Int)≤1000; decide),(by show (0:Int)≤0∧(0:Int)≤1000000; decide),(by show (0:Int)≤0∧(0:Int)≤1000000; decide),(by show (0:Int)≤0∧(0:Int)≤1000000; decide),(by show (0:Int)≤0∧(0:Int)≤999; decide),⟨fun _=>rfl,fun _=>rfl⟩,(by show (0:Int)≤0∧(0:Int)≤4; decide),fun _=>rfl,fun q=>(by cases q),(by show (0:Int)≤0∧(0:Int)≤0; decide),rfl,fun _=>rfl,ht,Qkh,Qkh,Qlt _⟩
theorem Qvh {a p:Int} {ks:List Qv1} {t:List Qv2} (h:Eo (Qvg a p ks t)):QaU a p ks 1 t=some (Qvg a p ks t):=by
  have L:=(ZE h).mono (m:=1048576) (by decide);unfold QaU;refine (congrArg (fun m=>bd m _) (Qc7 L)).trans ?_;rw [Qb,Qkd L.k L.t,JX.2 h,Qb,if_neg (by decide)]
theorem Qqm {b:List Int} {p:Int} {n:Nat} (h:Rd (n+130) ⟨b,p⟩):Post (QbB ⟨b,p⟩) fun x=>Gw x.1∧Rd n ⟨b,x.2.p⟩:=by
  unfold QbB;refine .bd (ZO (n:=n+129) h (by decide)) fun x1 ⟨q1,r1⟩=>.bd (Qns (n:=n+128) r1) fun x2 ⟨q2,r2⟩=>.bd (Qiy (n:=n+60) (r2.mono (by omega))) fun x3 ⟨q3,r3⟩=>.bd (Qiy (n:=n) r3) fun x4 ⟨q4,r4⟩=>?_;have hp:1≤x1.1*65533+1∧(IntKind.i64.wrap (2+(IntKind.i64.wrap (x1.1*65533))))=2+x1.1*65533:=by
    rw [wrap_i64 (n:=x1.1*65533) (by omega) (by omega),wrap_i64 (by omega) (by omega)];omega
  rw [hp.2];have e1:=QtA (a:=1) (p:=2+x1.1*65533) (by decide) (by omega) (by omega) q2.1 q3;have e2:=QtA (a:=2+x1.1*65533) (p:=1) (by omega) (by decide) (by omega) q2.1 q4;have G:Gw ⟨[⟨true,Qvg 1 (2+x1.1*65533) x2.1 x3.1⟩,⟨true,Qvg (2+x1.1*65533) 1 x2.1 x4.1⟩],[]⟩:=⟨⟨_,_,rfl,⟨e1,fun q=>(by cases q)⟩,⟨e2,fun q=>(by cases q)⟩,rfl,rfl⟩,Nat.zero_le _,fun x hx=>(by cases hx)⟩;refine .bd (Q:=fun x=>Gw x.1) ?_ fun x5 h5=>.ret ⟨h5,r4⟩;unfold Qco;rw [Qvh e1,Qb,Qvh e2,Qb];exact .bd (Qmr G) fun x hx=>.ite (fun c=>by rw [hx] at c; cases c) fun _=>.ret G
theorem Qor {b:List Int} {p:Int} {n:Nat} (h:Rd (n+30) ⟨b,p⟩) {w:Qv8} (hw:Gw w):Post (Qbe ⟨b,p⟩ w) fun x=>Rd n ⟨b,x.2.p⟩:=by
  have hs:(w.Sides.length:Int)=2:=by
    obtain ⟨⟨a,c,e,_⟩,_⟩:=hw;rw [e]; rfl
  unfold Qbe;refine .bd (ZO (n:=n+29) h (by decide)) fun x1 ⟨q1,r1⟩=>.gd (by omega) (.bd (ZO (n:=n+28) r1 (by decide)) fun x3 ⟨q3,r3⟩=>.bd (ZO (n:=n+27) r3 (by decide)) fun x4 ⟨q4,r4⟩=>.bd (ZO (n:=n+26) r4 (by decide)) fun x5 ⟨q5,r5⟩=>.bd (ZO (n:=n+25) r5 (by decide)) fun x6 ⟨q6,r6⟩=>.bd (ZO (n:=n+24) r6 (by decide)) fun x7 ⟨q7,r7⟩=>.bd (ZO (n:=n+23) r7 (by decide)) fun x8 ⟨q8,r8⟩=>.bd (ZO (n:=n+22) r8 (by decide)) fun x9 ⟨q9,r9⟩=>.bd (Q:=fun r=>match r with
    | .inl d=>Rd (n+2) ⟨b,d⟩
    | .inr (.inl d)=>Rd n ⟨b,d.2.2.2.2.2.2.2.2.2.2.2.2.2.2⟩
    | .inr (.inr d)=>Rd n ⟨b,d.2.2.2.2.2.2.2.2.2.2.2.2.2⟩) ?_ fun r hr=>?_)
  · by_cases hL:0 < w.Radio.length
    · refine .ite (fun _=>.bd (ZO (n:=n+21) r9 (by decide)) fun x14 ⟨q14,r14⟩=>.ite (fun _=>.bd (ZO (n:=n+20) r14 (by omega)) fun x15 ⟨q15,r15⟩=>.gd q15 (.bd (ZO (n:=n+19) r15 (by decide)) fun x17 ⟨q17,r17⟩=>.ite (fun _=>.bd (ZO (n:=n+18) r17 (by decide)) fun x18 ⟨q18,r18⟩=>.ret ?_) fun _=>.ite (fun _=>.ret ?_) fun _=>.ite (fun _=>.ret ?_) fun _=>.bd (Qix (n:=n+13) r17) fun x19 ⟨q19,r19⟩=>.ret ?_)) fun _=>.ret ?_) fun c=>absurd (by simp; omega) c
      · exact r18.mono (by omega)
      · exact r17.mono (by omega)
      · exact r17.mono (by omega)
      · exact r19.mono (by omega)
      · exact r14.mono (by omega)
    · refine .ite (fun c=>absurd (of_decide_eq_true c) (by omega)) fun _=>.ite (fun c=>absurd (of_decide_eq_true (Bool.and_eq_true_iff.1 c).1) (by omega)) fun _=>.ret ?_;exact r9.mono (by omega)
  · match r,hr with
    | .inl d,hr =>
      refine .bd (ZO (n:=n+1) hr (by decide)) fun x25 ⟨q25,r25⟩=>.bd (ZO (n:=n) r25 (by decide)) fun x26 ⟨q26,r26⟩=>.ite (fun _=>?_) fun _=>.ret r26;rw [Qnj,Qb];exact .ret r26
    | .inr (.inl d),hr=>exact .ret hr
    | .inr (.inr d),hr=>exact .ret hr
theorem Qqn {b:List Int} {p:Int} {n:Nat} (h:Rd (n+70) ⟨b,p⟩) {w:Qv8} (hw:Gw w):Post (Jb ⟨b,p⟩ w) fun x=>x.1.Keys.length≤1048576∧Rd n ⟨b,x.2.p⟩:=by
  unfold Jb;refine .bd (ZO (n:=n+69) h (by decide)) fun x1 ⟨q1,r1⟩=>.bd (Q:=fun x=>Rd (n+62) ⟨b,x.1⟩) ?_ fun x2 r2=>.bd (ZO (n:=n+61) r2 (by decide)) fun x9 ⟨q9,r9⟩=>.bd (Q:=fun _=>True) ?_ fun x10 _=>.ite (fun _=>.ret ⟨by simp,r9.mono (by omega)⟩) fun _=>.bd (Q:=fun _=>True) ?_ fun x13 _=>.ite (fun _=>.ret ⟨by simp,r9.mono (by omega)⟩) fun _=>.ite (fun _=>.ret ⟨by simp,r9.mono (by omega)⟩) fun _=>.ite (fun _=>.ret ⟨by simp,r9.mono (by omega)⟩) fun _=>.ite (fun _=>.ret ⟨by simp,r9.mono (by omega)⟩) fun _=>.ite (fun _=>.bd (ZO (n:=n+60) r9 (by decide)) fun x16 ⟨q16,r16⟩=>.ite (fun _=>.ret ⟨by simp,r16.mono (by omega)⟩) fun _=>.ret ⟨by simp,r16.mono (by omega)⟩) fun _=>.ite (fun _=>.ret ⟨by simp,r9.mono (by omega)⟩) fun _=>.ite (fun _=>.bd (Qiy (n:=n+1) r9) fun x17 ⟨q17,r17⟩=>.ret ⟨by simp,r17.mono (by omega)⟩) fun _=>.ite (fun _=>.bd (ZO (n:=n+60) r9 (by decide)) fun x18 ⟨q18,r18⟩=>.ite (fun _=>.bd (Qns (n:=n+59) r18) fun x19 ⟨q19,r19⟩=>.ret ⟨Nat.le_trans q19.2 (by decide),r19.mono (by omega)⟩) fun _=>.ret ⟨by simp,r18.mono (by omega)⟩) fun _=>.bd (Qor (n:=n+31) r9 hw) fun x20 r20=>.ret ⟨by simp,r20.mono (by omega)⟩
  · by_cases hL:0 < w.Radio.length
    · refine .ite (fun _=>.bd (ZO (n:=n+68) r1 (by decide)) fun x6 ⟨q6,r6⟩=>.ite (fun _=>.bd (ZO (n:=n+67) r6 (by omega)) fun x7 ⟨q7,r7⟩=>.ret ?_) fun _=>.ret ?_) fun c=>absurd (by simp; omega) c
      · exact r7.mono (by omega)
      · exact r6.mono (by omega)
    · refine .ite (fun c=>absurd (of_decide_eq_true c) (by omega)) fun _=>.ite (fun c=>absurd (of_decide_eq_true (Bool.and_eq_true_iff.1 c).1) (by omega)) fun _=>.ret ?_;exact r1.mono (by omega)
  · exact .ite (fun _=>.ret trivial) fun _=>.ite (fun _=>.ret trivial) fun _=>.ite (fun _=>.ret trivial) fun _=>.ite (fun _=>.ret trivial) fun _=>.ite (fun _=>.ret trivial) fun _=>.ret trivial
  · exact .ite (fun _=>.ret trivial) fun _=>.ite (fun _=>.ret trivial) fun _=>.ite (fun _=>.ret trivial) fun _=>.ite (fun _=>.ret trivial) fun _=>.ite (fun _=>.ret trivial) fun _=>.ite (fun _=>.ret trivial) fun _=>.ite (fun _=>.ret trivial) fun _=>.ret trivial
theorem QrW {b:List Int} {p m:Int} {n:Nat} (hm:0≤m∧m≤1000) (h:Rd (n+71*m.toNat+130) ⟨b,p⟩):Post (Qcd ⟨b,p⟩ m) fun x=>Gw x.1∧Rd n ⟨b,x.2.p⟩:=by
  unfold Qcd;refine .bd (Qqm (n:=n+71*m.toNat) h) fun x1 ⟨g1,r1⟩=>.bd (Q:=fun x=>Gw ⟨x.2.2.1,x.2.2.2.1⟩∧Rd n ⟨b,x.2.2.2.2⟩) (.lp (fun s=>Gw ⟨s.1,s.2.1⟩∧(0≤s.2.2.2∧s.2.2.2≤1000)∧Rd (n+71*s.2.2.2.toNat) ⟨b,s.2.2.1⟩) (fun s=>s.2.2.2.toNat) ⟨g1,hm,r1⟩ fun s ⟨s1,s2,s3⟩=>.ite (fun c=>?_) fun c=>.ret ⟨s1,s3.mono (by omega)⟩) fun x5 ⟨g5,r5⟩=>.ret ⟨g5,r5⟩;have c:s.2.2.2 > 0:=by simpa using c
  refine .bd (Q:=fun x=>Gw ⟨x.1,x.2.1⟩∧Rd (n+71*(s.2.2.2 - 1).toNat+70) ⟨b,x.2.2⟩) (.bd (ZO (n:=n+71*(s.2.2.2 - 1).toNat+70) (s3.mono (by omega)) (by decide)) fun x9 ⟨q9,r9⟩=>.ite (fun _=>.bd (QrT s1 1) fun x10 g10=>.ret ⟨g10,r9⟩) fun _=>.ret ⟨s1,r9⟩) fun x6 ⟨g6,r6⟩=>.bd (Qqn r6 g6) fun x11 ⟨k11,r11⟩=>.bd (QrS g6 k11) fun x12 g12=>?_;rw [wrap_i64 (n:=s.2.2.2 - 1) (by omega) (by omega)];exact .ret ⟨⟨g12,by dsimp only; omega,r11⟩,by dsimp only; omega⟩
end Go.Proofs.YtjgjdobkahdgfaaGreat
