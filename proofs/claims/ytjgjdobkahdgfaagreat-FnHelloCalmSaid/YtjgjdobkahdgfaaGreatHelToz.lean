/-
  Plain Lean: both have heard just what the other one has told, at any time; the row FnHelloTop.
-/
import Derived.Test.YtjgjdobkahdgfaaGreatKz5
import Derived.Test.YtjgjdobkahdgfaaGreatHelRbz
import Derived.Test.YtjgjdobkahdgfaaGreatHelZz
set_option linter.all false
namespace Go.Proofs.YtjgjdobkahdgfaaGreat
open Go Go.Ab
set_option maxHeartbeats 400000
set_option maxRecDepth 100000
theorem Qqe {t:List Qxo} (h:t.length≤1048576):Qdv t=some (frE t):=by
  have hl:(fresh t).length≤1048576:=Nat.le_trans (List.length_filter_le _ _) h;unfold Qdv Qbs;rw [QpZ h,Qb,show Qv t=some (fresh t) from QoC h,Qb,QnN hl,Qb,Qb]
  rfl
theorem QsZ {t:List Qxo} (h:t.length≤1048576):QcW t=some (frE t):=Qqe h
theorem QjA {t:List Qxm} (h:t.length≤1048576):QK t t=some true:=by
  unfold QK;rw [if_neg (by simp),QgW t.length (fun _=>true) (.inl ()) (.inr ()) (fun i hi _=>?_) (fun _=>by rw [if_neg (by simp)]),if_pos (Qfs fun _ _=>rfl),Qb];rw [if_pos (by simp; omega),Qp (by omega),Qp (by omega),if_neg (by simp),if_pos rfl,QM hi (by omega)]
theorem QwO (t:List Qxo):(frE t).length≤t.length:=by
  unfold frE fresh;rw [List.length_map];exact List.length_filter_le _ _
theorem Qqf {A B:Qxp} (h:Tells A B) (ha:Eo A) (hb:Eo B):QcL A B=some true:=by
  have La:=ZX ha;have Lb:=ZX hb;have l1:=La.t;have l2:=Lb.h;have l3:=QwO B.Heard;have hn:=ha.num;have ht:=ha.turn;have st:A.All=true→Z8 B.Heard=false:=fun q=>h.full (by
    rcases h.num with ⟨_,g,_⟩ | ⟨_,_,g,_⟩
    · rw [g,q]; rfl
    · rw [g,q])
  unfold QcL;rw [Qfx (by omega),Qb5,Qb];have e0:¬ (A.All && (if A.All=true then Z8 B.Heard else default))=true:=by
    cases hA:A.All
    · simp
    · rw [if_pos rfl,st hA]; simp
  rw [if_neg e0,wrap_i64 (n:=A.Num - 1) (by omega) (by omega)];rcases h.num with ⟨g1,g2,g3⟩ | ⟨g0,g1,g2,g3⟩
  · rw [if_neg (by simp; intro _; omega),QsZ (by omega),show Qap A.Told A.Under=_ from Qiz (by omega) (QeC ha.told) ha.under,g3,Qb5,Qb,Qb,show (B.Got == A.Num)=true from by simpa using g1,if_pos rfl,Qc0 rfl,QjA (by rw [← g3]; omega),Qb,g2];simp
  · rw [if_pos (by simp [g0,g1]),Qqe (by omega),Qb,g3,QjA (by rw [← g3]; omega),Qb,g2];simp
theorem QvV {s:W3} (h:Iw s):Qbt (toW s)=some true:=by
  obtain ⟨a,b,R⟩:=s;have hA:So a:=h.gs.two.a;have hB:So b:=h.gs.two.b;refine Qc6 ?_;unfold Qbt;rw [Quc h.gs,Qb,if_neg (by decide)];refine .gd ⟨by decide,(by decide:(0:Int) < 2)⟩ (.gd ⟨by decide,(by decide:(1:Int) < 2)⟩ (.ite (fun _=>.ret rfl) fun c=>?_));have c:¬ ((((!a.Up) || (!b.Up)) || (a.End.PeerBoot != b.End.Boot)) || (b.End.PeerBoot != a.End.Boot))=true:=c;have c:(((!a.Up) || (!b.Up)) || (a.End.PeerBoot != b.End.Boot))=false∧(b.End.PeerBoot != a.End.Boot)=false:=by
    rw [Bool.not_eq_true,Bool.or_eq_false_iff] at c; exact c
  obtain ⟨c1,c4⟩:=c;rw [Bool.or_eq_false_iff,Bool.or_eq_false_iff] at c1;obtain ⟨⟨c1,c2⟩,c3⟩:=c1;have u1:a.Up=true:=by simpa using c1
  have u2:b.Up=true:=by simpa using c2
  have e1:a.End.PeerBoot=b.End.Boot:=by simpa using c3
  have e2:b.End.PeerBoot=a.End.Boot:=by simpa using c4
  have k1:=Qqf (h.ab.told u1 u2 e1 e2) hA.eo hB.eo;have k2:=Qqf (h.ba.told u2 u1 e2 e1) hB.eo hA.eo;refine .bd (Q:=fun x=>x=true) ⟨_,k1,rfl⟩ fun x4 h4=>?_;subst h4;exact .bd (Q:=fun x=>x=true) (.gcall (fun _=>⟨_,k2,rfl⟩) fun q=>absurd rfl q) fun x5 h5=>.ret (by rw [h5]; rfl)
structure Sm (n:Int) (x:Qxq):Prop where
  boot:x.End.Boot≤n
  turn:x.End.Turn≤n
def Sw (n:Int) (s:W3):Prop:=Sm n s.1∧Sm n s.2.1
theorem Sm.mono {n m:Int} {x:Qxq} (h:Sm n x) (k:n≤m):Sm m x:=⟨by have:=h.boot; omega,by have:=h.turn; omega⟩
theorem Qs0 {e:Qxp} (h:0≤e.Turn):e.Boot≤(Qcl e).Boot∧(Qcl e).Boot≤e.Boot+1∧(Qcl e).Turn≤e.Turn:=by
  have k:(keepTick e).Boot=e.Boot∧(keepTick e).Turn=e.Turn:=by
    unfold keepTick;split <;> exact ⟨rfl,rfl⟩
  unfold Qcl Qc5;generalize keepTick e=x at *;split
  · split
    · have t0:(ZM { x with Left:=x.Left - 1 }).Turn=0:=rfl;rw [QkD,t0];dsimp only;split <;> omega
    · exact ⟨by dsimp only; omega,by dsimp only; omega,by dsimp only; omega⟩
  · omega
theorem Qqg {x:Qxq} (h:So x) (k:Int) (want:List Qxm) (keys:List Qxl):x.End.Boot≤(Qbc x k want keys).End.Boot∧(Qbc x k want keys).End.Boot≤x.End.Boot+1∧(Qbc x k want keys).End.Turn≤x.End.Turn+1∧(k=7→x.Up=false→x.End.Boot < 1000→(Qbc x k want keys).End.Boot=x.End.Boot+1):=by
  have ht:=h.eo.turn;have lf:x.End.Boot≤(ZM x.End).Boot∧(ZM x.End).Boot≤x.End.Boot+1∧(ZM x.End).Turn≤x.End.Turn+1∧(x.End.Boot < 1000→(ZM x.End).Boot=x.End.Boot+1):=by
    have t0:(ZM x.End).Turn=0:=rfl;rw [QkD,t0];split <;> omega
  unfold Qbc;split
  · split
    · unfold QfP;split
      · exact ⟨by dsimp only; omega,by dsimp only; omega,by dsimp only; omega,fun q=>by omega⟩
      · split
        · exact ⟨lf.1,lf.2.1,lf.2.2.1,fun q=>by omega⟩
        · exact ⟨Int.le_refl _,by show x.End.Boot≤x.End.Boot+1; omega,Int.le_refl _,fun q=>by omega⟩
    · exact ⟨by omega,by omega,by omega,fun q=>by omega⟩
  split
  · split
    · obtain ⟨q1,q2,q3⟩:=Qs0 ht.1;exact ⟨q1,q2,by show (Qcl x.End).Turn≤_; omega,fun q=>by omega⟩
    · exact ⟨by omega,by omega,by omega,fun q=>by omega⟩
  split
  · exact ⟨Int.le_refl _,by show x.End.Boot≤x.End.Boot+1; omega,by show (0:Int)≤_; omega,fun q=>by omega⟩
  split
  · split
    · next u=>exact ⟨by omega,by omega,by omega,fun _ q=>absurd (q.symm.trans u) (by decide)⟩
    · exact ⟨lf.1,lf.2.1,lf.2.2.1,fun _ _=>lf.2.2.2⟩
  split
  · split
    · exact ⟨Int.le_refl _,by show x.End.Boot≤x.End.Boot+1; omega,by show x.End.Turn≤x.End.Turn+1; omega,fun q=>by omega⟩
    · exact ⟨by omega,by omega,by omega,fun q=>by omega⟩
  split
  · split
    · exact ⟨Int.le_refl _,by show x.End.Boot≤x.End.Boot+1; omega,by show x.End.Turn≤x.End.Turn+1; omega,fun q=>by omega⟩
    · exact ⟨by omega,by omega,by omega,fun q=>by omega⟩
  · exact ⟨by omega,by omega,by omega,fun q=>by omega⟩
theorem Qs1 {s:Qxq} (h:So s) (w:Qxr):(Qc8 s w).End.Boot=s.End.Boot∧(Qc8 s w).End.Turn=s.End.Turn:=by
  unfold Qc8;split
  · have:=Qjy h.eo w;exact ⟨this.2.2.1,this.2.2.2.1⟩
  · exact ⟨rfl,rfl⟩
theorem QnZ {s:W3} (h:Gs s) (k at_:Int) (want:List Qxm) (keys:List Qxl):(s.1.End.Boot≤(QaY s k at_ want keys).1.End.Boot∧(QaY s k at_ want keys).1.End.Boot≤s.1.End.Boot+1∧(QaY s k at_ want keys).1.End.Turn≤s.1.End.Turn+1∧(k=7→at_=0→s.1.Up=false→s.1.End.Boot < 1000→(QaY s k at_ want keys).1.End.Boot=s.1.End.Boot+1))∧(s.2.1.End.Boot≤(QaY s k at_ want keys).2.1.End.Boot∧(QaY s k at_ want keys).2.1.End.Boot≤s.2.1.End.Boot+1∧(QaY s k at_ want keys).2.1.End.Turn≤s.2.1.End.Turn+1∧(k=7→at_=1→s.2.1.Up=false→s.2.1.End.Boot < 1000→(QaY s k at_ want keys).2.1.End.Boot=s.2.1.End.Boot+1)):=by
  unfold QaY;split
  · next q =>
    obtain ⟨q1,q2,q3,q4⟩:=Qqg h.two.a k want keys;exact ⟨⟨q1,q2,q3,fun e _=>q4 e⟩,⟨by dsimp only; omega,by dsimp only; omega,by dsimp only; omega,fun _ e=>by omega⟩⟩
  split
  · next q =>
    obtain ⟨q1,q2,q3,q4⟩:=Qqg h.two.b k want keys;exact ⟨⟨by dsimp only; omega,by dsimp only; omega,by dsimp only; omega,fun _ e=>by omega⟩,⟨q1,q2,q3,fun e _=>q4 e⟩⟩
  · exact ⟨⟨by omega,by omega,by omega,fun _ e=>by omega⟩,⟨by omega,by omega,by omega,fun _ e=>by omega⟩⟩
theorem QlR {s:W3} (h:Gs s) (i:Nat):((QcO s i).1.End.Boot=s.1.End.Boot∧(QcO s i).1.End.Turn=s.1.End.Turn)∧((QcO s i).2.1.End.Boot=s.2.1.End.Boot∧(QcO s i).2.1.End.Turn=s.2.1.End.Turn):=⟨Qs1 h.two.a _,Qs1 h.two.b _⟩
theorem Qs2 {s:W3} (h:Gs s) (e:Qxt):(s.1.End.Boot≤(Jr s e).1.End.Boot∧(Jr s e).1.End.Boot≤s.1.End.Boot+1∧(Jr s e).1.End.Turn≤s.1.End.Turn+1∧(e.Kind=7→e.At=0→s.1.Up=false→s.1.End.Boot < 1000→(Jr s e).1.End.Boot=s.1.End.Boot+1))∧(s.2.1.End.Boot≤(Jr s e).2.1.End.Boot∧(Jr s e).2.1.End.Boot≤s.2.1.End.Boot+1∧(Jr s e).2.1.End.Turn≤s.2.1.End.Turn+1∧(e.Kind=7→e.At=1→s.2.1.Up=false→s.2.1.End.Boot < 1000→(Jr s e).2.1.End.Boot=s.2.1.End.Boot+1)):=by
  unfold Jr;split
  · next k =>
    have no:∀ {P:Prop},e.Kind=7→P:=fun q=>by omega
    have st:(s.1.End.Boot≤s.1.End.Boot∧s.1.End.Boot≤s.1.End.Boot+1∧s.1.End.Turn≤s.1.End.Turn+1)∧(s.2.1.End.Boot≤s.2.1.End.Boot∧s.2.1.End.Boot≤s.2.1.End.Boot+1∧s.2.1.End.Turn≤s.2.1.End.Turn+1):=by omega
    unfold Qjb;split
    · split
      · obtain ⟨⟨q1,q2⟩,q3,q4⟩:=QlR h e.At.toNat
        exact ⟨⟨by omega,by omega,by omega,no⟩,⟨by omega,by omega,by omega,no⟩⟩
      · split <;> exact ⟨⟨st.1.1,st.1.2.1,st.1.2.2,no⟩,⟨st.2.1,st.2.2.1,st.2.2.2,no⟩⟩
    · exact ⟨⟨st.1.1,st.1.2.1,st.1.2.2,no⟩,⟨st.2.1,st.2.2.1,st.2.2.2,no⟩⟩
  split
  · next k =>
    have no:∀ {P:Prop},e.Kind=7→P:=fun q=>by omega
    have st:(s.1.End.Boot≤s.1.End.Boot∧s.1.End.Boot≤s.1.End.Boot+1∧s.1.End.Turn≤s.1.End.Turn+1)∧(s.2.1.End.Boot≤s.2.1.End.Boot∧s.2.1.End.Boot≤s.2.1.End.Boot+1∧s.2.1.End.Turn≤s.2.1.End.Turn+1):=by omega
    unfold Qh8;split <;> exact ⟨⟨st.1.1,st.1.2.1,st.1.2.2,no⟩,⟨st.2.1,st.2.2.1,st.2.2.2,no⟩⟩
  · exact QnZ h _ _ _ _
theorem QkE {s:W3} (h:Gs s) {n:Int} (k:Sw n s) (e:Qxt):Sw (n+1) (Jr s e):=by
  obtain ⟨⟨_,a2,a3,_⟩,⟨_,b2,b3,_⟩⟩:=Qs2 h e;have:=k.1.boot;have:=k.1.turn;have:=k.2.boot;have:=k.2.turn;exact ⟨⟨by omega,by omega⟩,⟨by omega,by omega⟩⟩
theorem Qo2 {b:List Int} {p:Int} {n:Nat} (h:Rd (n+130) ⟨b,p⟩):Post (QbP ⟨b,p⟩) fun x=>(∃ s,x.1=toW s∧Iw s∧Sw 1 s)∧Rd n ⟨b,x.2.p⟩:=by
  unfold QbP;refine .bd (Qcn (n:=n+129) h (by decide)) fun x1 ⟨q1,r1⟩=>.bd (QnM (n:=n+128) r1) fun x2 ⟨q2,r2⟩=>.bd (QiJ (n:=n+60) (r2.mono (by omega))) fun x3 ⟨q3,r3⟩=>.bd (QiJ (n:=n) r3) fun x4 ⟨q4,r4⟩=>?_;have hp:1≤x1.1*65533+1∧(IntKind.i64.wrap (2+(IntKind.i64.wrap (x1.1*65533))))=2+x1.1*65533:=by
    rw [wrap_i64 (n:=x1.1*65533) (by omega) (by omega),wrap_i64 (by omega) (by omega)];omega
  rw [hp.2];have e1:=QuG (a:=1) (p:=2+x1.1*65533) (by decide) (by omega) (by omega) q2.1 q3;have e2:=QuG (a:=2+x1.1*65533) (p:=1) (by omega) (by decide) (by omega) q2.1 q4;have t:Two ⟨true,QvD 1 (2+x1.1*65533) x2.1 x3.1⟩ ⟨true,QvD (2+x1.1*65533) 1 x2.1 x4.1⟩:=⟨⟨e1,fun q=>(by cases q)⟩,⟨e2,fun q=>(by cases q)⟩,rfl,rfl⟩;generalize hA:QvD 1 (2+x1.1*65533) x2.1 x3.1=A at *;generalize hB:QvD (2+x1.1*65533) 1 x2.1 x4.1=B at *;have zA:A.PeerBoot=0∧A.Boot=1∧A.Turn=0:=by rw [← hA]; exact ⟨rfl,rfl,rfl⟩
  have zB:B.PeerBoot=0∧B.Boot=1∧B.Turn=0:=by rw [← hB]; exact ⟨rfl,rfl,rfl⟩
  have dir:∀ x y:Qxp,x.PeerBoot=0→y.Boot=1→Dir ⟨true,x⟩ ⟨true,y⟩:=fun x y h1 h2 =>
    ⟨by show x.PeerBoot≤y.Boot; omega,fun _ _ e=>by have e:x.PeerBoot=y.Boot:=e; omega,fun _ _ e=>by have e:x.PeerBoot=y.Boot:=e; omega,fun _ _ e=>by have e:x.PeerBoot=y.Boot:=e; omega⟩
  have G:Iw (⟨true,A⟩,⟨true,B⟩,[]):=⟨⟨t,Nat.zero_le _,fun x hx=>by cases hx⟩,dir A B zA.1 zB.2.1,dir B A zB.1 zA.2.1,fun w hw=>by cases hw⟩;have S:Sw 1 (⟨true,A⟩,⟨true,B⟩,[]):=⟨⟨by show A.Boot≤1; omega,by show A.Turn≤1; omega⟩,⟨by show B.Boot≤1; omega,by show B.Turn≤1; omega⟩⟩;refine .bd (Q:=fun x=>∃ s,x.1=toW s∧Iw s∧Sw 1 s) ?_ fun x5 h5=>.ret ⟨h5,r4⟩;unfold QcC;rw [QwD (by rw [hA]; exact e1),Qb,QwD (by rw [hB]; exact e2),Qb,hA,hB];exact .bd (QoR (QkY G.gs)) fun x hx=>.ite (fun c=>by rw [hx] at c; cases c) fun _=>.ret ⟨_,rfl,G,S⟩
end Go.Proofs.YtjgjdobkahdgfaaGreat
