/-
  Plain Lean: both have heard just what the other one has told, at any time; the row FnHelloTop.
-/
import Derived.Test.YtjgjdobkahdgfaaGreatKz5
import Derived.Test.YtjgjdobkahdgfaaGreatHelRbz
import Derived.Test.YtjgjdobkahdgfaaGreatHelZz
set_option linter.all false
namespace Go.Proofs.YtjgjdobkahdgfaaGreat
open Go Go.Ab
set_option maxHeartbeats 400000
set_option maxRecDepth 100000
theorem Qpf {t:List Qwi} (h:t.length≤1048576):Qc8 t=some (frE t):=by
  have hl:(fresh t).length≤1048576:=Nat.le_trans (List.length_filter_le _ _) h;unfold Qc8 Qa7;rw [Qo1 h,Qb,show Qv t=some (fresh t) from QnJ h,Qb,QrI hl,Qb,Qb]
  rfl
theorem Qr1 {t:List Qwi} (h:t.length≤1048576):Qcv t=some (frE t):=Qpf h
theorem Qpg {t:List Qwg} (h:t.length≤1048576):QN t t=some true:=by
  unfold QN;rw [if_neg (by simp),QdZ t.length (fun _=>true) (.inl ()) (.inr ()) (fun i hi _=>?_) (fun _=>by rw [if_neg (by simp)]),if_pos (QcF fun _ _=>rfl),Qb];rw [if_pos (by simp; omega),Qn (by omega),Qn (by omega),if_neg (by simp),if_pos rfl,QD hi (by omega)]
theorem QvL (t:List Qwi):(frE t).length≤t.length:=by
  unfold frE fresh;rw [List.length_map];exact List.length_filter_le _ _
theorem Qph {A B:Qwj} (h:Tells A B) (ha:Eo A) (hb:Eo B):Qcl A B=some true:=by
  have La:=Jd ha;have Lb:=Jd hb;have l1:=La.t;have l2:=Lb.h;have l3:=QvL B.Heard;have hn:=ha.num;have ht:=ha.turn;have st:A.All=true→Z2 B.Heard=false:=fun q=>h.full (by
    rcases h.num with ⟨_,g,_⟩ | ⟨_,_,g,_⟩
    · rw [g,q]; rfl
    · rw [g,q])
  unfold Qcl;rw [Qhv (by omega),JE,Qb];have e0:¬ (A.All && (if A.All=true then Z2 B.Heard else default))=true:=by
    cases hA:A.All
    · simp
    · rw [if_pos rfl,st hA]; simp
  rw [if_neg e0,wrap_i64 (n:=A.Num - 1) (by omega) (by omega)];rcases h.num with ⟨g1,g2,g3⟩ | ⟨g0,g1,g2,g3⟩
  · rw [if_neg (by simp; intro _; omega),Qr1 (by omega),show J6 A.Told A.Under=_ from Qh2 (by omega) (Qgs ha.told) ha.under,g3,JE,Qb,Qb,show (B.Got == A.Num)=true from by simpa using g1,if_pos rfl,QcC rfl,Qpg (by rw [← g3]; omega),Qb,g2];simp
  · rw [if_pos (by simp [g0,g1]),Qpf (by omega),Qb,g3,Qpg (by rw [← g3]; omega),Qb,g2];simp
theorem Qr2 {s:W3} (h:Iw s):Qar (toW s)=some true:=by
  obtain ⟨a,b,R⟩:=s;have hA:So a:=h.gs.two.a;have hB:So b:=h.gs.two.b;refine QfQ ?_;unfold Qar;rw [QuN h.gs,Qb,if_neg (by decide)];refine .gd ⟨by decide,(by decide:(0:Int) < 2)⟩ (.gd ⟨by decide,(by decide:(1:Int) < 2)⟩ (.ite (fun _=>.ret rfl) fun c=>?_));have c:¬ ((((!a.Up) || (!b.Up)) || (a.End.PeerBoot != b.End.Boot)) || (b.End.PeerBoot != a.End.Boot))=true:=c;have c:(((!a.Up) || (!b.Up)) || (a.End.PeerBoot != b.End.Boot))=false∧(b.End.PeerBoot != a.End.Boot)=false:=by
    rw [Bool.not_eq_true,Bool.or_eq_false_iff] at c; exact c
  obtain ⟨c1,c4⟩:=c;rw [Bool.or_eq_false_iff,Bool.or_eq_false_iff] at c1;obtain ⟨⟨c1,c2⟩,c3⟩:=c1;have u1:a.Up=true:=by simpa using c1
  have u2:b.Up=true:=by simpa using c2
  have e1:a.End.PeerBoot=b.End.Boot:=by simpa using c3
  have e2:b.End.PeerBoot=a.End.Boot:=by simpa using c4
  have k1:=Qph (h.ab.told u1 u2 e1 e2) hA.eo hB.eo;have k2:=Qph (h.ba.told u2 u1 e2 e1) hB.eo hA.eo;refine .bd (Q:=fun x=>x=true) ⟨_,k1,rfl⟩ fun x4 h4=>?_;subst h4;exact .bd (Q:=fun x=>x=true) (.gcall (fun _=>⟨_,k2,rfl⟩) fun q=>absurd rfl q) fun x5 h5=>.ret (by rw [h5]; rfl)
structure Sm (n:Int) (x:Qwk):Prop where
  boot:x.End.Boot≤n
  turn:x.End.Turn≤n
def Sw (n:Int) (s:W3):Prop:=Sm n s.1∧Sm n s.2.1
theorem Qr3 {e:Qwj} (h:0≤e.Turn):e.Boot≤(QcU e).Boot∧(QcU e).Boot≤e.Boot+1∧(QcU e).Turn≤e.Turn:=by
  have k:(keepTick e).Boot=e.Boot∧(keepTick e).Turn=e.Turn:=by
    unfold keepTick;split <;> exact ⟨rfl,rfl⟩
  unfold QcU Qc4;generalize keepTick e=x at *;split
  · split
    · have t0:(ZE { x with Left:=x.Left - 1 }).Turn=0:=rfl;rw [QjZ,t0];dsimp only;split <;> omega
    · exact ⟨by dsimp only; omega,by dsimp only; omega,by dsimp only; omega⟩
  · omega
theorem Qpi {x:Qwk} (h:So x) (k:Int) (want:List Qwg) (keys:List Qwf):x.End.Boot≤(Qc5 x k want keys).End.Boot∧(Qc5 x k want keys).End.Boot≤x.End.Boot+1∧(Qc5 x k want keys).End.Turn≤x.End.Turn+1∧(k=7→x.Up=false→x.End.Boot < 1000→(Qc5 x k want keys).End.Boot=x.End.Boot+1):=by
  have ht:=h.eo.turn;have lf:x.End.Boot≤(ZE x.End).Boot∧(ZE x.End).Boot≤x.End.Boot+1∧(ZE x.End).Turn≤x.End.Turn+1∧(x.End.Boot < 1000→(ZE x.End).Boot=x.End.Boot+1):=by
    have t0:(ZE x.End).Turn=0:=rfl;rw [QjZ,t0];split <;> omega
  unfold Qc5;split
  · split
    · unfold QgY;split
      · exact ⟨by dsimp only; omega,by dsimp only; omega,by dsimp only; omega,fun q=>by omega⟩
      · split
        · exact ⟨lf.1,lf.2.1,lf.2.2.1,fun q=>by omega⟩
        · exact ⟨Int.le_refl _,by show x.End.Boot≤x.End.Boot+1; omega,Int.le_refl _,fun q=>by omega⟩
    · exact ⟨by omega,by omega,by omega,fun q=>by omega⟩
  split
  · split
    · obtain ⟨q1,q2,q3⟩:=Qr3 ht.1;exact ⟨q1,q2,by show (QcU x.End).Turn≤_; omega,fun q=>by omega⟩
    · exact ⟨by omega,by omega,by omega,fun q=>by omega⟩
  split
  · exact ⟨Int.le_refl _,by show x.End.Boot≤x.End.Boot+1; omega,by show (0:Int)≤_; omega,fun q=>by omega⟩
  split
  · split
    · next u=>exact ⟨by omega,by omega,by omega,fun _ q=>absurd (q.symm.trans u) (by decide)⟩
    · exact ⟨lf.1,lf.2.1,lf.2.2.1,fun _ _=>lf.2.2.2⟩
  split
  · split
    · exact ⟨Int.le_refl _,by show x.End.Boot≤x.End.Boot+1; omega,by show x.End.Turn≤x.End.Turn+1; omega,fun q=>by omega⟩
    · exact ⟨by omega,by omega,by omega,fun q=>by omega⟩
  split
  · split
    · exact ⟨Int.le_refl _,by show x.End.Boot≤x.End.Boot+1; omega,by show x.End.Turn≤x.End.Turn+1; omega,fun q=>by omega⟩
    · exact ⟨by omega,by omega,by omega,fun q=>by omega⟩
  · exact ⟨by omega,by omega,by omega,fun q=>by omega⟩
theorem Qr4 {s:Qwk} (h:So s) (w:Qwl):(Qe6 s w).End.Boot=s.End.Boot∧(Qe6 s w).End.Turn=s.End.Turn:=by
  unfold Qe6;split
  · have:=Qpd h.eo w;exact ⟨this.2.2.1,this.2.2.2.1⟩
  · exact ⟨rfl,rfl⟩
theorem Qr5 {s:W3} (h:Gs s) (k at_:Int) (want:List Qwg) (keys:List Qwf):(s.1.End.Boot≤(QdD s k at_ want keys).1.End.Boot∧(QdD s k at_ want keys).1.End.Boot≤s.1.End.Boot+1∧(QdD s k at_ want keys).1.End.Turn≤s.1.End.Turn+1∧(k=7→at_=0→s.1.Up=false→s.1.End.Boot < 1000→(QdD s k at_ want keys).1.End.Boot=s.1.End.Boot+1))∧(s.2.1.End.Boot≤(QdD s k at_ want keys).2.1.End.Boot∧(QdD s k at_ want keys).2.1.End.Boot≤s.2.1.End.Boot+1∧(QdD s k at_ want keys).2.1.End.Turn≤s.2.1.End.Turn+1∧(k=7→at_=1→s.2.1.Up=false→s.2.1.End.Boot < 1000→(QdD s k at_ want keys).2.1.End.Boot=s.2.1.End.Boot+1)):=by
  unfold QdD;split
  · next q =>
    obtain ⟨q1,q2,q3,q4⟩:=Qpi h.two.a k want keys;exact ⟨⟨q1,q2,q3,fun e _=>q4 e⟩,⟨by dsimp only; omega,by dsimp only; omega,by dsimp only; omega,fun _ e=>by omega⟩⟩
  split
  · next q =>
    obtain ⟨q1,q2,q3,q4⟩:=Qpi h.two.b k want keys;exact ⟨⟨by dsimp only; omega,by dsimp only; omega,by dsimp only; omega,fun _ e=>by omega⟩,⟨q1,q2,q3,fun e _=>q4 e⟩⟩
  · exact ⟨⟨by omega,by omega,by omega,fun _ e=>by omega⟩,⟨by omega,by omega,by omega,fun _ e=>by omega⟩⟩
theorem Qqc {s:W3} (h:Gs s) (i:Nat):((QfR s i).1.End.Boot=s.1.End.Boot∧(QfR s i).1.End.Turn=s.1.End.Turn)∧((QfR s i).2.1.End.Boot=s.2.1.End.Boot∧(QfR s i).2.1.End.Turn=s.2.1.End.Turn):=⟨Qr4 h.two.a _,Qr4 h.two.b _⟩
theorem Qm5 {s:W3} (h:Gs s) (e:Qwn):(s.1.End.Boot≤(QcV s e).1.End.Boot∧(QcV s e).1.End.Boot≤s.1.End.Boot+1∧(QcV s e).1.End.Turn≤s.1.End.Turn+1∧(e.Kind=7→e.At=0→s.1.Up=false→s.1.End.Boot < 1000→(QcV s e).1.End.Boot=s.1.End.Boot+1))∧(s.2.1.End.Boot≤(QcV s e).2.1.End.Boot∧(QcV s e).2.1.End.Boot≤s.2.1.End.Boot+1∧(QcV s e).2.1.End.Turn≤s.2.1.End.Turn+1∧(e.Kind=7→e.At=1→s.2.1.Up=false→s.2.1.End.Boot < 1000→(QcV s e).2.1.End.Boot=s.2.1.End.Boot+1)):=by
  unfold QcV;split
  · next k =>
    have no:∀ {P:Prop},e.Kind=7→P:=fun q=>by omega
    have st:(s.1.End.Boot≤s.1.End.Boot∧s.1.End.Boot≤s.1.End.Boot+1∧s.1.End.Turn≤s.1.End.Turn+1)∧(s.2.1.End.Boot≤s.2.1.End.Boot∧s.2.1.End.Boot≤s.2.1.End.Boot+1∧s.2.1.End.Turn≤s.2.1.End.Turn+1):=by omega
    unfold Qkl;split
    · split
      · obtain ⟨⟨q1,q2⟩,q3,q4⟩:=Qqc h e.At.toNat
        exact ⟨⟨by omega,by omega,by omega,no⟩,⟨by omega,by omega,by omega,no⟩⟩
      · split <;> exact ⟨⟨st.1.1,st.1.2.1,st.1.2.2,no⟩,⟨st.2.1,st.2.2.1,st.2.2.2,no⟩⟩
    · exact ⟨⟨st.1.1,st.1.2.1,st.1.2.2,no⟩,⟨st.2.1,st.2.2.1,st.2.2.2,no⟩⟩
  split
  · next k =>
    have no:∀ {P:Prop},e.Kind=7→P:=fun q=>by omega
    have st:(s.1.End.Boot≤s.1.End.Boot∧s.1.End.Boot≤s.1.End.Boot+1∧s.1.End.Turn≤s.1.End.Turn+1)∧(s.2.1.End.Boot≤s.2.1.End.Boot∧s.2.1.End.Boot≤s.2.1.End.Boot+1∧s.2.1.End.Turn≤s.2.1.End.Turn+1):=by omega
    unfold QhC;split <;> exact ⟨⟨st.1.1,st.1.2.1,st.1.2.2,no⟩,⟨st.2.1,st.2.2.1,st.2.2.2,no⟩⟩
  · exact Qr5 h _ _ _ _
theorem QuW {s:W3} (h:Gs s) {n:Int} (k:Sw n s) (e:Qwn):Sw (n+1) (QcV s e):=by
  obtain ⟨⟨_,a2,a3,_⟩,⟨_,b2,b3,_⟩⟩:=Qm5 h e;have:=k.1.boot;have:=k.1.turn;have:=k.2.boot;have:=k.2.turn;exact ⟨⟨by omega,by omega⟩,⟨by omega,by omega⟩⟩
theorem Qn7 {b:List Int} {p:Int} {n:Nat} (h:Rd (n+130) ⟨b,p⟩):Post (Qbv ⟨b,p⟩) fun x=>(∃ s,x.1=toW s∧Iw s∧Sw 1 s)∧Rd n ⟨b,x.2.p⟩:=by
  unfold Qbv;refine .bd (Qcc (n:=n+129) h (by decide)) fun x1 ⟨q1,r1⟩=>.bd (QmX (n:=n+128) r1) fun x2 ⟨q2,r2⟩=>.bd (Qib (n:=n+60) (r2.mono (by omega))) fun x3 ⟨q3,r3⟩=>.bd (Qib (n:=n) r3) fun x4 ⟨q4,r4⟩=>?_;have hp:1≤x1.1*65533+1∧(IntKind.i64.wrap (2+(IntKind.i64.wrap (x1.1*65533))))=2+x1.1*65533:=by
    rw [wrap_i64 (n:=x1.1*65533) (by omega) (by omega),wrap_i64 (by omega) (by omega)];omega
  rw [hp.2];have e1:=QtI (a:=1) (p:=2+x1.1*65533) (by decide) (by omega) (by omega) q2.1 q3;have e2:=QtI (a:=2+x1.1*65533) (p:=1) (by omega) (by decide) (by omega) q2.1 q4;have t:Two ⟨true,QuA 1 (2+x1.1*65533) x2.1 x3.1⟩ ⟨true,QuA (2+x1.1*65533) 1 x2.1 x4.1⟩:=⟨⟨e1,fun q=>(by cases q)⟩,⟨e2,fun q=>(by cases q)⟩,rfl,rfl⟩;generalize hA:QuA 1 (2+x1.1*65533) x2.1 x3.1=A at *;generalize hB:QuA (2+x1.1*65533) 1 x2.1 x4.1=B at *;have zA:A.PeerBoot=0∧A.Boot=1∧A.Turn=0:=by rw [← hA]; exact ⟨rfl,rfl,rfl⟩
  have zB:B.PeerBoot=0∧B.Boot=1∧B.Turn=0:=by rw [← hB]; exact ⟨rfl,rfl,rfl⟩
  have dir:∀ x y:Qwj,x.PeerBoot=0→y.Boot=1→Dir ⟨true,x⟩ ⟨true,y⟩:=fun x y h1 h2 =>
    ⟨by show x.PeerBoot≤y.Boot; omega,fun _ _ e=>by have e:x.PeerBoot=y.Boot:=e; omega,fun _ _ e=>by have e:x.PeerBoot=y.Boot:=e; omega,fun _ _ e=>by have e:x.PeerBoot=y.Boot:=e; omega⟩
  have G:Iw (⟨true,A⟩,⟨true,B⟩,[]):=⟨⟨t,Nat.zero_le _,fun x hx=>by cases hx⟩,dir A B zA.1 zB.2.1,dir B A zB.1 zA.2.1,fun w hw=>by cases hw⟩;have S:Sw 1 (⟨true,A⟩,⟨true,B⟩,[]):=⟨⟨by show A.Boot≤1; omega,by show A.Turn≤1; omega⟩,⟨by show B.Boot≤1; omega,by show B.Turn≤1; omega⟩⟩;refine .bd (Q:=fun x=>∃ s,x.1=toW s∧Iw s∧Sw 1 s) ?_ fun x5 h5=>.ret ⟨h5,r4⟩;unfold Qcd;rw [QvB (by rw [hA]; exact e1),Qb,QvB (by rw [hB]; exact e2),Qb,hA,hB];exact .bd (Qrx (Qn0 G.gs)) fun x hx=>.ite (fun c=>by rw [hx] at c; cases c) fun _=>.ret ⟨_,rfl,G,S⟩
theorem Qn8 {b:List Int} {p:Int} {n:Nat} (h:Rd (n+70) ⟨b,p⟩) {w:Qwm} (hw:Gw w):Post (Qbw ⟨b,p⟩ w) fun x=>x.1.Keys.length≤1048576∧x.1.Want.length≤1048576∧Rd n ⟨b,x.2.p⟩:=by
  unfold Qbw;refine .bd (Qcc (n:=n+69) h (by decide)) fun x1 ⟨q1,r1⟩=>.bd (Q:=fun x=>Rd (n+62) ⟨b,x.1⟩) ?_ fun x2 r2=>.bd (Qcc (n:=n+61) r2 (by decide)) fun x9 ⟨q9,r9⟩=>.bd (Q:=fun _=>True) ?_ fun x10 _=>.ite (fun _=>.ret ⟨by simp,by simp,r9.mono (by omega)⟩) fun _=>.bd (Q:=fun _=>True) ?_ fun x13 _=>.ite (fun _=>.ret ⟨by simp,by simp,r9.mono (by omega)⟩) fun _=>.ite (fun _=>.ret ⟨by simp,by simp,r9.mono (by omega)⟩) fun _=>.ite (fun _=>.ret ⟨by simp,by simp,r9.mono (by omega)⟩) fun _=>.ite (fun _=>.ret ⟨by simp,by simp,r9.mono (by omega)⟩) fun _=>.ite (fun _=>.bd (Qcc (n:=n+60) r9 (by decide)) fun x16 ⟨q16,r16⟩=>.ite (fun _=>.ret ⟨by simp,by simp,r16.mono (by omega)⟩) fun _=>.ret ⟨by simp,by simp,r16.mono (by omega)⟩) fun _=>.ite (fun _=>.ret ⟨by simp,by simp,r9.mono (by omega)⟩) fun _=>.ite (fun _=>.bd (Qib (n:=n+1) r9) fun x17 ⟨q17,r17⟩=>.ret ⟨by simp,by have:=q17.len; dsimp only; omega,r17.mono (by omega)⟩) fun _=>.ite (fun _=>.bd (Qcc (n:=n+60) r9 (by decide)) fun x18 ⟨q18,r18⟩=>.ite (fun _=>.bd (QmX (n:=n+59) r18) fun x19 ⟨q19,r19⟩=>.ret ⟨Nat.le_trans q19.2 (by decide),by simp,r19.mono (by omega)⟩) fun _=>.ret ⟨by simp,by simp,r18.mono (by omega)⟩) fun _=>.bd (QnZ (n:=n+31) r9 hw) fun x20 r20=>.ret ⟨by simp,by simp,r20.mono (by omega)⟩
  · by_cases hL:0 < w.Radio.length
    · refine .ite (fun _=>.bd (Qcc (n:=n+68) r1 (by decide)) fun x6 ⟨q6,r6⟩=>.ite (fun _=>.bd (Qcc (n:=n+67) r6 (by omega)) fun x7 ⟨q7,r7⟩=>.ret ?_) fun _=>.ret ?_) fun c=>absurd (by simp; omega) c
      · exact r7.mono (by omega)
      · exact r6.mono (by omega)
    · refine .ite (fun c=>absurd (of_decide_eq_true c) (by omega)) fun _=>.ite (fun c=>absurd (of_decide_eq_true (Bool.and_eq_true_iff.1 c).1) (by omega)) fun _=>.ret ?_;exact r1.mono (by omega)
  · exact .ite (fun _=>.ret trivial) fun _=>.ite (fun _=>.ret trivial) fun _=>.ite (fun _=>.ret trivial) fun _=>.ite (fun _=>.ret trivial) fun _=>.ite (fun _=>.ret trivial) fun _=>.ret trivial
  · exact .ite (fun _=>.ret trivial) fun _=>.ite (fun _=>.ret trivial) fun _=>.ite (fun _=>.ret trivial) fun _=>.ite (fun _=>.ret trivial) fun _=>.ite (fun _=>.ret trivial) fun _=>.ite (fun _=>.ret trivial) fun _=>.ite (fun _=>.ret trivial) fun _=>.ret trivial
theorem Qj0 {b:List Int} (hb:b.length≤9223372036854775807) (h:∀ x ∈ b,Qnt x):Post (Jq b) fun x=>(∃ s,x.1=toW s∧Iw s∧Sw 1 s)∧x.2.length≤70∧∀ e ∈ x.2,e.Keys.length≤1048576∧e.Want.length≤1048576:=by
  unfold Jq;refine .bd (QuB hb h) fun r hr=>.bd (Qn7 (n:=6001) (b:=r.b) (p:=r.p) (hr.mono (by decide))) fun x2 ⟨⟨s,e2,i2,w2⟩,r2⟩=>.bd (Qcc (n:=6000) r2 (by decide)) fun x3 ⟨q3,r3⟩=>?_;rw [wrap_i64 (n:=10+x3.1) (by omega) (by omega),e2];refine .bd (Q:=fun x=>x.2.length≤70∧∀ e ∈ x.2,e.Keys.length≤1048576∧e.Want.length≤1048576) (.lp (fun t=>(∃ s,(⟨t.2.1,t.2.2.1⟩:Qwm)=toW s∧Gs s)∧((t.1.length:Nat):Int)+t.2.2.2.2≤69∧0≤t.2.2.2.2∧(∀ e ∈ t.1,e.Keys.length≤1048576∧e.Want.length≤1048576)∧Rd (71*t.2.2.2.2.toNat) ⟨r.b,t.2.2.2.1⟩) (fun t=>t.2.2.2.2.toNat) ⟨⟨s,rfl,i2.gs⟩,by show ((0:Nat):Int)+(10+x3.1)≤69; omega,by show 0≤10+x3.1; omega,fun e he=>(by cases he),r3.mono (by show 71*(10+x3.1).toNat≤6000; omega)⟩ fun t ⟨⟨s,t1,t2⟩,t3,t4,t5,t6⟩=>.ite (fun c=>?_) fun _=>.ret ⟨by dsimp only; omega,t5⟩) fun x7 h7=>.ret ⟨⟨s,rfl,i2,w2⟩,h7⟩;have c:t.2.2.2.2 > 0:=by simpa using c
  rw [t1];refine .bd (Qn8 (n:=71*(t.2.2.2.2 - 1).toNat) (t6.mono (by omega)) (Qn0 t2)) fun x8 ⟨k8,w8,r8⟩=>.bd (Q:=fun x=>x=toW (QcV s x8.1)) ⟨_,QtN t2 k8,rfl⟩ fun x9 h9=>.gd (by simp; omega) ?_;rw [wrap_i64 (n:=t.2.2.2.2 - 1) (by omega) (by omega)];refine .ret ⟨⟨⟨_,h9,Qn4 t2 _⟩,by simp; omega,by dsimp only; omega,fun e he=>?_,r8⟩,by dsimp only; omega⟩;rcases List.mem_append.1 he with q | q
  · exact t5 e q
  · rw [List.mem_singleton.1 q]; exact ⟨k8,w8⟩
theorem Qm6 {a0:List Int} (h0:a0.length≤9223372036854775807∧∀ x ∈ a0,Qnt x):QbS a0=some true:=by
  refine QfQ ?_;unfold QbS;refine .ite (fun _=>.ret rfl) fun _=>.bd (Qj0 h0.1 h0.2) fun x ⟨⟨s,e1,i1,w1⟩,l1,k1⟩=>?_;obtain ⟨w,es⟩:=x;dsimp only at e1 l1 k1 ⊢;subst e1;rw [Qr2 i1,JE,Qb];refine .ite (fun c=>absurd c (by simp [toW])) fun _=>.bd (Q:=fun x=>x=Sum.inr ()) (.lp (fun t=>∃ (s:W3) (i:Nat),(⟨t.1,t.2.1⟩:Qwm)=toW s∧Iw s∧Sw (1+i) s∧t.2.2=i∧i≤es.length) (fun t=>(es.length - t.2.2).toNat) ⟨s,0,rfl,i1,w1,rfl,Nat.zero_le _⟩ fun t ⟨s,i,t1,t2,t3,t4,t5⟩=>.ite (fun c=>?_) fun _=>.ret rfl) fun x hx=>by rw [hx]; exact .ret rfl
  obtain ⟨S,R,j⟩:=t;dsimp only at t1 t4 c ⊢;subst t4;have c:i < es.length:=by simpa using c
  obtain ⟨hS,hR⟩:=Qwm.mk.inj t1;rw [Int.toNat_natCast];have ke:=k1 _ (Zo c);generalize es.getD i default=ev at *;have g:Gs s:=t2.gs;have st:=Qtk t2 ev;have sg:=Qn4 g ev;refine .gd (by omega) (.bd (Q:=fun x=>x=toW (QcV s ev)) ⟨_,by rw [t1]; exact QuO g (e:=ev) ke.2 ke.1,rfl⟩ fun x8 h8=>.gd (by omega) (.bd (Q:=fun x=>x=toW (QcV s ev)) ⟨_,by rw [t1]; exact QtN g (e:=ev) ke.1,rfl⟩ fun x10 h10=>?_));subst h8 h10;rw [Qwd sg,Qb,QuN sg,JE,Qb,Qr2 st,JE,Qb];refine .ite (fun q=>absurd q (by decide)) fun _=>.bd (Q:=fun x=>x=Sum.inr ()) ?_ fun x hx=>by
    rw [hx];dsimp only;rw [QD c (by omega)];exact .ret ⟨⟨_,i+1,rfl,st,by
      have:=QuW g t3 ev;rw [show (1+((i+1:Nat):Int))=1+(i:Int)+1 by omega];exact this,rfl,c⟩,by dsimp only; omega⟩
  obtain ⟨⟨a1,_,_,a4⟩,⟨b1,_,_,b4⟩⟩:=Qm5 g ev;have s1:=t3.1.boot;have s2:=t3.2.boot;have hl:(S.length:Int)=2:=by rw [hS]; rfl
  refine .lp (fun k=>k=0 ∨ k=1 ∨ k=2) (fun k=>(2 - k).toNat) (.inl rfl) fun k hk=>?_;rcases hk with q | q | q <;> subst q
  · have y0:S.getD (0:Int).toNat default=s.1:=by rw [hS]; rfl
    refine .ite (fun _=>.gd ⟨by decide,(by decide:(0:Int) < 2)⟩ (.gd (by omega) (.gd (fun _=>by omega) (.gd (fun _ _=>by omega) (.gd (fun _ _=>by omega) (.gd (fun _ _=>⟨by decide,(by decide:(0:Int) < 2)⟩) (.gd (fun _ _=>by omega) (.ite (fun p=>?_) fun _=>.ret ⟨.inr (.inl (by decide)),by show (2 - IntKind.i64.wrap ((0:Int)+1)).toNat < (2 - (0:Int)).toNat; decide⟩)))))))) fun p=>absurd (by rfl) p;exfalso;rw [y0] at p;have p:((decide ((QcV s ev).1.End.Boot < s.1.End.Boot)) || ((((ev.Kind == 7) && (ev.At == 0)) && (!s.1.Up)) && (decide ((QcV s ev).1.End.Boot≤s.1.End.Boot))))=true:=p;simp only [Bool.or_eq_true,Bool.and_eq_true,decide_eq_true_eq,beq_iff_eq,Bool.not_eq_true'] at p;rcases p with p | ⟨⟨⟨p1,p2⟩,p3⟩,p4⟩
    · omega
    · have:=a4 p1 p2 p3 (by omega);omega
  · have y0:S.getD (1:Int).toNat default=s.2.1:=by rw [hS]; rfl
    refine .ite (fun _=>.gd ⟨by decide,(by decide:(1:Int) < 2)⟩ (.gd (by omega) (.gd (fun _=>by omega) (.gd (fun _ _=>by omega) (.gd (fun _ _=>by omega) (.gd (fun _ _=>⟨by decide,(by decide:(1:Int) < 2)⟩) (.gd (fun _ _=>by omega) (.ite (fun p=>?_) fun _=>.ret ⟨.inr (.inr (by decide)),by show (2 - IntKind.i64.wrap ((1:Int)+1)).toNat < (2 - (1:Int)).toNat; decide⟩)))))))) fun p=>absurd (by rfl) p;exfalso;rw [y0] at p;have p:((decide ((QcV s ev).2.1.End.Boot < s.2.1.End.Boot)) || ((((ev.Kind == 7) && (ev.At == 1)) && (!s.2.1.Up)) && (decide ((QcV s ev).2.1.End.Boot≤s.2.1.End.Boot))))=true:=p;simp only [Bool.or_eq_true,Bool.and_eq_true,decide_eq_true_eq,beq_iff_eq,Bool.not_eq_true'] at p;rcases p with p | ⟨⟨⟨p1,p2⟩,p3⟩,p4⟩
    · omega
    · have:=b4 p1 p2 p3 (by omega);omega
  · exact .ite (fun p=>absurd p (by simp)) fun _=>.ret rfl
end Go.Proofs.YtjgjdobkahdgfaaGreat
