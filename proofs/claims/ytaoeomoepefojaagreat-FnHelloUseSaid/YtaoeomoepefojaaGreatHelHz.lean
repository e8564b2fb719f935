/-
  Plain Lean: drawn events, worlds that are played, drawn ends.
-/
import Derived.Test.YtaoeomoepefojaaGreatKz6
import Derived.Test.YtaoeomoepefojaaGreatHelGz
set_option linter.all false
namespace Go.Proofs.YtaoeomoepefojaaGreat
open Go Go.Ab
set_option maxHeartbeats 2000000
set_option maxRecDepth 100000
def newE (a p:Int) (ks:List HelloKey) (t:List HelloEntry):HelloEnd:=⟨a,p,ks,1,t,0,0,0,false,0,0,⟨0,⟨0,0,0,0⟩⟩,[],false,0,false,[],0⟩
theorem new_eo {a p:Int} {ks:List HelloKey} {t:List HelloEntry} (ha:0≤a∧a≤65535) (hp:0≤p∧p≤65535) (hn:a ≠ p) (hk:keysOk ks=true) (ht:To t):Eo (newE a p ks t) :=
  ⟨ha,hp,hn,hk,(by show (1:Int)≤1∧(1:Int)≤1000; decide),(by show (0:Int)≤0∧(0:Int)≤1000000; decide),(by show (0:Int)≤0∧(0:Int)≤1000000; decide),(by show (0:Int)≤0∧(0:Int)≤1000000; decide),(by show (0:Int)≤0∧(0:Int)≤999; decide),⟨fun _=>rfl,fun _=>rfl⟩,(by show (0:Int)≤0∧(0:Int)≤4; decide),fun _=>rfl,fun q=>(by cases q),(by show (0:Int)≤0∧(0:Int)≤0; decide),rfl,fun _=>rfl,ht,to_nil,to_nil,ro_nil _⟩
theorem new_p {a p:Int} {ks:List HelloKey} {t:List HelloEntry} (h:Eo (newE a p ks t)):spec_HelloNew_m a p ks 1 t=some (newE a p ks t):=by
  have L:=(eo_lens h).mono (m:=1048576) (by decide);unfold spec_HelloNew_m;refine (congrArg (fun m=>bd m _) (sCopyL_p L)).trans ?_;rw [bd_val,sEnd_p L.k L.t,endOk_iff.2 h,bd_val,if_neg (by decide)]
theorem start_post {b:List Int} {p:Int} {n:Nat} (h:Rd (n+130) ⟨b,p⟩):Post (spec_l46Start_m ⟨b,p⟩) fun x=>Gw x.1∧Rd n ⟨b,x.2.p⟩:=by
  unfold spec_l46Start_m;refine .bd (pickR (n:=n+129) h (by decide)) fun x1 ⟨q1,r1⟩=>.bd (keys_post (n:=n+128) r1) fun x2 ⟨q2,r2⟩=>.bd (table_post (n:=n+60) (r2.mono (by omega))) fun x3 ⟨q3,r3⟩=>.bd (table_post (n:=n) r3) fun x4 ⟨q4,r4⟩=>?_;have hp:1≤x1.1*65533+1∧(IntKind.i64.wrap (2+(IntKind.i64.wrap (x1.1*65533))))=2+x1.1*65533:=by
    rw [wrap_i64 (n:=x1.1*65533) (by omega) (by omega),wrap_i64 (by omega) (by omega)];omega
  rw [hp.2];have e1:=new_eo (a:=1) (p:=2+x1.1*65533) (by decide) (by omega) (by omega) q2.1 q3;have e2:=new_eo (a:=2+x1.1*65533) (p:=1) (by omega) (by decide) (by omega) q2.1 q4;have G:Gw ⟨[⟨true,newE 1 (2+x1.1*65533) x2.1 x3.1⟩,⟨true,newE (2+x1.1*65533) 1 x2.1 x4.1⟩],[]⟩:=⟨⟨_,_,rfl,⟨e1,fun q=>(by cases q)⟩,⟨e2,fun q=>(by cases q)⟩,rfl,rfl⟩,Nat.zero_le _,fun x hx=>(by cases hx)⟩;refine .bd (Q:=fun x=>Gw x.1) ?_ fun x5 h5=>.ret ⟨h5,r4⟩;unfold spec_HelloOpen_m;rw [new_p e1,bd_val,new_p e2,bd_val];exact .bd (world_p G) fun x hx=>.ite (fun c=>by rw [hx] at c; cases c) fun _=>.ret G
theorem forged_post {b:List Int} {p:Int} {n:Nat} (h:Rd (n+30) ⟨b,p⟩) {w:HelloWorld} (hw:Gw w):Post (spec_l46Forged_m ⟨b,p⟩ w) fun x=>Rd n ⟨b,x.2.p⟩:=by
  have hs:(w.Sides.length:Int)=2:=by
    obtain ⟨⟨a,c,e,_⟩,_⟩:=hw;rw [e]; rfl
  unfold spec_l46Forged_m;refine .bd (pickR (n:=n+29) h (by decide)) fun x1 ⟨q1,r1⟩=>.gd (by omega) (.bd (pickR (n:=n+28) r1 (by decide)) fun x3 ⟨q3,r3⟩=>.bd (pickR (n:=n+27) r3 (by decide)) fun x4 ⟨q4,r4⟩=>.bd (pickR (n:=n+26) r4 (by decide)) fun x5 ⟨q5,r5⟩=>.bd (pickR (n:=n+25) r5 (by decide)) fun x6 ⟨q6,r6⟩=>.bd (pickR (n:=n+24) r6 (by decide)) fun x7 ⟨q7,r7⟩=>.bd (pickR (n:=n+23) r7 (by decide)) fun x8 ⟨q8,r8⟩=>.bd (pickR (n:=n+22) r8 (by decide)) fun x9 ⟨q9,r9⟩=>.bd (Q:=fun r=>match r with
    | .inl d=>Rd (n+2) ⟨b,d⟩
    | .inr (.inl d)=>Rd n ⟨b,d.2.2.2.2.2.2.2.2.2.2.2.2.2.2⟩
    | .inr (.inr d)=>Rd n ⟨b,d.2.2.2.2.2.2.2.2.2.2.2.2.2⟩) ?_ fun r hr=>?_)
  · by_cases hL:0 < w.Radio.length
    · refine .ite (fun _=>.bd (pickR (n:=n+21) r9 (by decide)) fun x14 ⟨q14,r14⟩=>.ite (fun _=>.bd (pickR (n:=n+20) r14 (by omega)) fun x15 ⟨q15,r15⟩=>.gd q15 (.bd (pickR (n:=n+19) r15 (by decide)) fun x17 ⟨q17,r17⟩=>.ite (fun _=>.bd (pickR (n:=n+18) r17 (by decide)) fun x18 ⟨q18,r18⟩=>.ret ?_) fun _=>.ite (fun _=>.ret ?_) fun _=>.ite (fun _=>.ret ?_) fun _=>.bd (entry_post (n:=n+13) r17) fun x19 ⟨q19,r19⟩=>.ret ?_)) fun _=>.ret ?_) fun c=>absurd (by simp; omega) c
      · exact r18.mono (by omega)
      · exact r17.mono (by omega)
      · exact r17.mono (by omega)
      · exact r19.mono (by omega)
      · exact r14.mono (by omega)
    · refine .ite (fun c=>absurd (of_decide_eq_true c) (by omega)) fun _=>.ite (fun c=>absurd (of_decide_eq_true (Bool.and_eq_true_iff.1 c).1) (by omega)) fun _=>.ret ?_;exact r9.mono (by omega)
  · match r,hr with
    | .inl d,hr =>
      refine .bd (pickR (n:=n+1) hr (by decide)) fun x25 ⟨q25,r25⟩=>.bd (pickR (n:=n) r25 (by decide)) fun x26 ⟨q26,r26⟩=>.ite (fun _=>?_) fun _=>.ret r26;rw [sSum_p,bd_val];exact .ret r26
    | .inr (.inl d),hr=>exact .ret hr
    | .inr (.inr d),hr=>exact .ret hr
theorem event_post {b:List Int} {p:Int} {n:Nat} (h:Rd (n+70) ⟨b,p⟩) {w:HelloWorld} (hw:Gw w):Post (spec_l46Event_o02f_03f_m ⟨b,p⟩ w) fun x=>x.1.Keys.length≤1048576∧Rd n ⟨b,x.2.p⟩:=by
  unfold spec_l46Event_o02f_03f_m;refine .bd (pickR (n:=n+69) h (by decide)) fun x1 ⟨q1,r1⟩=>.bd (Q:=fun x=>Rd (n+62) ⟨b,x.1⟩) ?_ fun x2 r2=>.bd (pickR (n:=n+61) r2 (by decide)) fun x9 ⟨q9,r9⟩=>.bd (Q:=fun _=>True) ?_ fun x10 _=>.ite (fun _=>.ret ⟨by simp,r9.mono (by omega)⟩) fun _=>.bd (Q:=fun _=>True) ?_ fun x13 _=>.ite (fun _=>.ret ⟨by simp,r9.mono (by omega)⟩) fun _=>.ite (fun _=>.ret ⟨by simp,r9.mono (by omega)⟩) fun _=>.ite (fun _=>.ret ⟨by simp,r9.mono (by omega)⟩) fun _=>.ite (fun _=>.ret ⟨by simp,r9.mono (by omega)⟩) fun _=>.ite (fun _=>.bd (pickR (n:=n+60) r9 (by decide)) fun x16 ⟨q16,r16⟩=>.ite (fun _=>.ret ⟨by simp,r16.mono (by omega)⟩) fun _=>.ret ⟨by simp,r16.mono (by omega)⟩) fun _=>.ite (fun _=>.ret ⟨by simp,r9.mono (by omega)⟩) fun _=>.ite (fun _=>.bd (table_post (n:=n+1) r9) fun x17 ⟨q17,r17⟩=>.ret ⟨by simp,r17.mono (by omega)⟩) fun _=>.ite (fun _=>.bd (pickR (n:=n+60) r9 (by decide)) fun x18 ⟨q18,r18⟩=>.ite (fun _=>.bd (keys_post (n:=n+59) r18) fun x19 ⟨q19,r19⟩=>.ret ⟨Nat.le_trans q19.2 (by decide),r19.mono (by omega)⟩) fun _=>.ret ⟨by simp,r18.mono (by omega)⟩) fun _=>.bd (forged_post (n:=n+31) r9 hw) fun x20 r20=>.ret ⟨by simp,r20.mono (by omega)⟩
  · by_cases hL:0 < w.Radio.length
    · refine .ite (fun _=>.bd (pickR (n:=n+68) r1 (by decide)) fun x6 ⟨q6,r6⟩=>.ite (fun _=>.bd (pickR (n:=n+67) r6 (by omega)) fun x7 ⟨q7,r7⟩=>.ret ?_) fun _=>.ret ?_) fun c=>absurd (by simp; omega) c
      · exact r7.mono (by omega)
      · exact r6.mono (by omega)
    · refine .ite (fun c=>absurd (of_decide_eq_true c) (by omega)) fun _=>.ite (fun c=>absurd (of_decide_eq_true (Bool.and_eq_true_iff.1 c).1) (by omega)) fun _=>.ret ?_;exact r1.mono (by omega)
  · exact .ite (fun _=>.ret trivial) fun _=>.ite (fun _=>.ret trivial) fun _=>.ite (fun _=>.ret trivial) fun _=>.ite (fun _=>.ret trivial) fun _=>.ite (fun _=>.ret trivial) fun _=>.ret trivial
  · exact .ite (fun _=>.ret trivial) fun _=>.ite (fun _=>.ret trivial) fun _=>.ite (fun _=>.ret trivial) fun _=>.ite (fun _=>.ret trivial) fun _=>.ite (fun _=>.ret trivial) fun _=>.ite (fun _=>.ret trivial) fun _=>.ite (fun _=>.ret trivial) fun _=>.ret trivial
theorem play_post {b:List Int} {p m:Int} {n:Nat} (hm:0≤m∧m≤1000) (h:Rd (n+71*m.toNat+130) ⟨b,p⟩):Post (spec_l46Play_m ⟨b,p⟩ m) fun x=>Gw x.1∧Rd n ⟨b,x.2.p⟩:=by
  unfold spec_l46Play_m;refine .bd (start_post (n:=n+71*m.toNat) h) fun x1 ⟨g1,r1⟩=>.bd (Q:=fun x=>Gw ⟨x.2.2.1,x.2.2.2.1⟩∧Rd n ⟨b,x.2.2.2.2⟩) (.lp (fun s=>Gw ⟨s.1,s.2.1⟩∧(0≤s.2.2.2∧s.2.2.2≤1000)∧Rd (n+71*s.2.2.2.toNat) ⟨b,s.2.2.1⟩) (fun s=>s.2.2.2.toNat) ⟨g1,hm,r1⟩ fun s ⟨s1,s2,s3⟩=>.ite (fun c=>?_) fun c=>.ret ⟨s1,s3.mono (by omega)⟩) fun x5 ⟨g5,r5⟩=>.ret ⟨g5,r5⟩;have c:s.2.2.2 > 0:=by simpa using c
  refine .bd (Q:=fun x=>Gw ⟨x.1,x.2.1⟩∧Rd (n+71*(s.2.2.2 - 1).toNat+70) ⟨b,x.2.2⟩) (.bd (pickR (n:=n+71*(s.2.2.2 - 1).toNat+70) (s3.mono (by omega)) (by decide)) fun x9 ⟨q9,r9⟩=>.ite (fun _=>.bd (calm_post s1 1) fun x10 g10=>.ret ⟨g10,r9⟩) fun _=>.ret ⟨s1,r9⟩) fun x6 ⟨g6,r6⟩=>.bd (event_post r6 g6) fun x11 ⟨k11,r11⟩=>.bd (step_post g6 k11) fun x12 g12=>?_;rw [wrap_i64 (n:=s.2.2.2 - 1) (by omega) (by omega)];exact .ret ⟨⟨g12,by dsimp only; omega,r11⟩,by dsimp only; omega⟩
theorem hasS_p {t:List HelloRoute} (h:t.length < 16) (e:HelloEntry):spec_l43Has_m t e=some (hasV t e):=by
  have w3:=posK_le (f:=rE) t e;unfold spec_l43Has_m hasV;rw [sWhere_p (by omega),bd_val,Int.toNat_natCast,gd_pos (fun c=>by simp only [decide_eq_true_eq] at c; omega),gd_pos (fun c=>by simp only [Bool.and_eq_true,decide_eq_true_eq] at c; omega),has_aux,into_aux (by omega),sRoutes_p (by omega),bd_val,sFirst_p (by omega),bd_val]
  cases hh:hasK rE t e
  · simp only [Bool.false_eq_true,if_false];rw [if_neg (by simp <;> omega),if_neg (by omega)]
  · have:=(hasK_iff.1 hh).1;rw [if_pos rfl,if_pos rfl,gd_pos (by omega)]
theorem fillR_post {t:List HelloRoute} (ht:t.length≤16):Post (lp (σ:=List HelloRoute × Int) (β:=((List HelloRoute))) (fun s9 =>
    (if (decide (((s9.1.length:Nat):Int) < 16))=true then
    bd (spec_l43Has_m s9.1 (⟨IntKind.i64.wrap (24576+s9.2),16,1,0⟩:HelloEntry)) fun x13 =>
    some (.inl (x13.1,IntKind.i64.wrap (s9.2+1)))
    else
    some (.inr s9.1))) (t,0)) fun x=>x.length≤16:=by
  refine .lp (fun s=>s.1.length≤16∧(0≤s.2∧s.2+((16 - s.1.length+cntA rE s.1 (24576+s.2):Nat):Int)≤64)) (fun s=>16 - s.1.length+cntA rE s.1 (24576+s.2)) ⟨ht,Int.le_refl _,?_⟩ fun s ⟨s0,s1,s2⟩=>.ite (fun d=>?_) fun d=>.ret s0
  · have:=cntA_le (f:=rE) t (24576+0);dsimp only; omega
  · have d:s.1.length < 16:=by
      have:((s.1.length:Nat):Int) < 16:=by simpa using d
      omega
    rw [wrap_i64 (n:=24576+s.2) (by omega) (by omega),hasS_p d,bd_val,wrap_i64 (n:=s.2+1) (by omega) (by omega)];obtain ⟨f1,f2⟩:=fill_less (f:=rE) (t:=s.1) (e:=⟨24576+s.2,16,1,0⟩) (x:=⟨⟨24576+s.2,16,1,0⟩,false⟩) rfl d;have pe:(hasV s.1 ⟨24576+s.2,16,1,0⟩).1=(if hasK rE s.1 ⟨24576+s.2,16,1,0⟩=true then s.1.set (posK rE s.1 ⟨24576+s.2,16,1,0⟩) ⟨⟨24576+s.2,16,1,0⟩,false⟩ else s.1.take (posK rE s.1 ⟨24576+s.2,16,1,0⟩) ++ [⟨⟨24576+s.2,16,1,0⟩,false⟩] ++ s.1.drop (posK rE s.1 ⟨24576+s.2,16,1,0⟩)):=by
      unfold hasV intoR
      cases hasK rE s.1 ⟨24576+s.2,16,1,0⟩
      · simp only [Bool.false_eq_true,if_false];rw [if_neg (by omega)]
      · rfl
    rw [← pe] at f1 f2;have ae:(24576+(s.2+1):Int)=(24576+s.2)+1:=by omega
    dsimp only at f1;refine .ret ⟨⟨by dsimp only; omega,by dsimp only; omega,?_⟩,?_⟩
    · dsimp only; rw [ae]; omega
    · dsimp only; rw [ae]; omega
theorem end_post {b:List Int} {p:Int} {n:Nat} (h:Rd (n+3100) ⟨b,p⟩):Post (spec_l46End_m ⟨b,p⟩) fun x=>Lens x.1 16∧Rd n ⟨b,x.2.p⟩:=by
  unfold spec_l46End_m;refine .bd (pickR (n:=n+3099) h (by decide)) fun x1 ⟨q1,r1⟩=>.bd (play_post (n:=n+3) (by omega) (r1.mono (by omega))) fun x2 ⟨g2,r2⟩=>.bd (pickR (n:=n+2) r2 (by decide)) fun x3 ⟨q3,r3⟩=>?_;obtain ⟨⟨a,c,e,t⟩,_⟩:=g2;rw [e];have so:=side_so t q3;have L:=eo_lens so.eo;refine .gd (by simp; omega) (.bd (pickR (n:=n+1) r3 (by decide)) fun x5 ⟨q5,r5⟩=>.ite (fun _=>.bd (pickR (n:=n) r5 (by decide)) fun x6 ⟨q6,r6⟩=>.ret ⟨⟨L.k,L.w,L.t,L.h⟩,r6⟩) fun _=>.ite (fun _=>.bd (pickR (n:=n) r5 (by decide)) fun x7 ⟨q7,r7⟩=>.ret ⟨⟨L.k,L.w,L.t,L.h⟩,r7⟩) fun _=>.ite (fun _=>.bd (pickR (n:=n) r5 (by decide)) fun x8 ⟨q8,r8⟩=>.ret ⟨⟨L.k,L.w,L.t,L.h⟩,r8⟩) fun _=>.ite (fun _=>.bd (fillR_post L.h) fun x12 h12=>.ret ⟨⟨L.k,L.w,L.t,h12⟩,r5.mono (by omega)⟩) fun _=>.ret ⟨⟨L.k,L.w,L.t,L.h⟩,r5.mono (by omega)⟩)
end Go.Proofs.YtaoeomoepefojaaGreat
