/-
  Plain Lean: both have heard just what the other one has told, at any time; the row FnHelloTop.
-/
import Derived.Test.YtjgjdobkahdgfaaGreatKz5
import Derived.Test.YtjgjdobkahdgfaaGreatHelRbz
import Derived.Test.YtjgjdobkahdgfaaGreatHelZz
set_option linter.all false
namespace Go.Proofs.YtjgjdobkahdgfaaGreat
open Go Go.Ab
set_option maxHeartbeats 400000
set_option maxRecDepth 100000
structure Sm (n:Int) (x:Qxc):Prop where
  boot:x.End.Boot≤n
  turn:x.End.Turn≤n
def Sw (n:Int) (s:W3):Prop:=Sm n s.1∧Sm n s.2.1
theorem Sm.mono {n m:Int} {x:Qxc} (h:Sm n x) (k:n≤m):Sm m x:=⟨by have:=h.boot; omega,by have:=h.turn; omega⟩
theorem QsN {e:Qxb} (h:0≤e.Turn):e.Boot≤(Qce e).Boot∧(Qce e).Boot≤e.Boot+1∧(Qce e).Turn≤e.Turn:=by
  have k:(keepTick e).Boot=e.Boot∧(keepTick e).Turn=e.Turn:=by
    unfold keepTick;split <;> exact ⟨rfl,rfl⟩
  unfold Qce QcT;generalize keepTick e=x at *;split
  · split
    · have t0:(ZH { x with Left:=x.Left - 1 }).Turn=0:=rfl;rw [Qkq,t0];dsimp only;split <;> omega
    · exact ⟨by dsimp only; omega,by dsimp only; omega,by dsimp only; omega⟩
  · omega
theorem QpY {x:Qxc} (h:So x) (k:Int) (want:List Qw8) (keys:List Qw7):x.End.Boot≤(QaT x k want keys).End.Boot∧(QaT x k want keys).End.Boot≤x.End.Boot+1∧(QaT x k want keys).End.Turn≤x.End.Turn+1∧(k=7→x.Up=false→x.End.Boot < 1000→(QaT x k want keys).End.Boot=x.End.Boot+1):=by
  have ht:=h.eo.turn;have lf:x.End.Boot≤(ZH x.End).Boot∧(ZH x.End).Boot≤x.End.Boot+1∧(ZH x.End).Turn≤x.End.Turn+1∧(x.End.Boot < 1000→(ZH x.End).Boot=x.End.Boot+1):=by
    have t0:(ZH x.End).Turn=0:=rfl;rw [Qkq,t0];split <;> omega
  unfold QaT;split
  · split
    · unfold QfC;split
      · exact ⟨by dsimp only; omega,by dsimp only; omega,by dsimp only; omega,fun q=>by omega⟩
      · split
        · exact ⟨lf.1,lf.2.1,lf.2.2.1,fun q=>by omega⟩
        · exact ⟨Int.le_refl _,by show x.End.Boot≤x.End.Boot+1; omega,Int.le_refl _,fun q=>by omega⟩
    · exact ⟨by omega,by omega,by omega,fun q=>by omega⟩
  split
  · split
    · obtain ⟨q1,q2,q3⟩:=QsN ht.1;exact ⟨q1,q2,by show (Qce x.End).Turn≤_; omega,fun q=>by omega⟩
    · exact ⟨by omega,by omega,by omega,fun q=>by omega⟩
  split
  · exact ⟨Int.le_refl _,by show x.End.Boot≤x.End.Boot+1; omega,by show (0:Int)≤_; omega,fun q=>by omega⟩
  split
  · split
    · next u=>exact ⟨by omega,by omega,by omega,fun _ q=>absurd (q.symm.trans u) (by decide)⟩
    · exact ⟨lf.1,lf.2.1,lf.2.2.1,fun _ _=>lf.2.2.2⟩
  split
  · split
    · exact ⟨Int.le_refl _,by show x.End.Boot≤x.End.Boot+1; omega,by show x.End.Turn≤x.End.Turn+1; omega,fun q=>by omega⟩
    · exact ⟨by omega,by omega,by omega,fun q=>by omega⟩
  split
  · split
    · exact ⟨Int.le_refl _,by show x.End.Boot≤x.End.Boot+1; omega,by show x.End.Turn≤x.End.Turn+1; omega,fun q=>by omega⟩
    · exact ⟨by omega,by omega,by omega,fun q=>by omega⟩
  · exact ⟨by omega,by omega,by omega,fun q=>by omega⟩
theorem QsO {s:Qxc} (h:So s) (w:Qxd):(QcV s w).End.Boot=s.End.Boot∧(QcV s w).End.Turn=s.End.Turn:=by
  unfold QcV;split
  · have:=Qjn h.eo w;exact ⟨this.2.2.1,this.2.2.2.1⟩
  · exact ⟨rfl,rfl⟩
theorem QnJ {s:W3} (h:Gs s) (k at_:Int) (want:List Qw8) (keys:List Qw7):(s.1.End.Boot≤(QaQ s k at_ want keys).1.End.Boot∧(QaQ s k at_ want keys).1.End.Boot≤s.1.End.Boot+1∧(QaQ s k at_ want keys).1.End.Turn≤s.1.End.Turn+1∧(k=7→at_=0→s.1.Up=false→s.1.End.Boot < 1000→(QaQ s k at_ want keys).1.End.Boot=s.1.End.Boot+1))∧(s.2.1.End.Boot≤(QaQ s k at_ want keys).2.1.End.Boot∧(QaQ s k at_ want keys).2.1.End.Boot≤s.2.1.End.Boot+1∧(QaQ s k at_ want keys).2.1.End.Turn≤s.2.1.End.Turn+1∧(k=7→at_=1→s.2.1.Up=false→s.2.1.End.Boot < 1000→(QaQ s k at_ want keys).2.1.End.Boot=s.2.1.End.Boot+1)):=by
  unfold QaQ;split
  · next q =>
    obtain ⟨q1,q2,q3,q4⟩:=QpY h.two.a k want keys;exact ⟨⟨q1,q2,q3,fun e _=>q4 e⟩,⟨by dsimp only; omega,by dsimp only; omega,by dsimp only; omega,fun _ e=>by omega⟩⟩
  split
  · next q =>
    obtain ⟨q1,q2,q3,q4⟩:=QpY h.two.b k want keys;exact ⟨⟨by dsimp only; omega,by dsimp only; omega,by dsimp only; omega,fun _ e=>by omega⟩,⟨q1,q2,q3,fun e _=>q4 e⟩⟩
  · exact ⟨⟨by omega,by omega,by omega,fun _ e=>by omega⟩,⟨by omega,by omega,by omega,fun _ e=>by omega⟩⟩
theorem QlE {s:W3} (h:Gs s) (i:Nat):((QcF s i).1.End.Boot=s.1.End.Boot∧(QcF s i).1.End.Turn=s.1.End.Turn)∧((QcF s i).2.1.End.Boot=s.2.1.End.Boot∧(QcF s i).2.1.End.Turn=s.2.1.End.Turn):=⟨QsO h.two.a _,QsO h.two.b _⟩
theorem QsP {s:W3} (h:Gs s) (e:Qxf):(s.1.End.Boot≤(ZI s e).1.End.Boot∧(ZI s e).1.End.Boot≤s.1.End.Boot+1∧(ZI s e).1.End.Turn≤s.1.End.Turn+1∧(e.Kind=7→e.At=0→s.1.Up=false→s.1.End.Boot < 1000→(ZI s e).1.End.Boot=s.1.End.Boot+1))∧(s.2.1.End.Boot≤(ZI s e).2.1.End.Boot∧(ZI s e).2.1.End.Boot≤s.2.1.End.Boot+1∧(ZI s e).2.1.End.Turn≤s.2.1.End.Turn+1∧(e.Kind=7→e.At=1→s.2.1.Up=false→s.2.1.End.Boot < 1000→(ZI s e).2.1.End.Boot=s.2.1.End.Boot+1)):=by
  unfold ZI;split
  · next k =>
    have no:∀ {P:Prop},e.Kind=7→P:=fun q=>by omega
    have st:(s.1.End.Boot≤s.1.End.Boot∧s.1.End.Boot≤s.1.End.Boot+1∧s.1.End.Turn≤s.1.End.Turn+1)∧(s.2.1.End.Boot≤s.2.1.End.Boot∧s.2.1.End.Boot≤s.2.1.End.Boot+1∧s.2.1.End.Turn≤s.2.1.End.Turn+1):=by omega
    unfold Qi1;split
    · split
      · obtain ⟨⟨q1,q2⟩,q3,q4⟩:=QlE h e.At.toNat
        exact ⟨⟨by omega,by omega,by omega,no⟩,⟨by omega,by omega,by omega,no⟩⟩
      · split <;> exact ⟨⟨st.1.1,st.1.2.1,st.1.2.2,no⟩,⟨st.2.1,st.2.2.1,st.2.2.2,no⟩⟩
    · exact ⟨⟨st.1.1,st.1.2.1,st.1.2.2,no⟩,⟨st.2.1,st.2.2.1,st.2.2.2,no⟩⟩
  split
  · next k =>
    have no:∀ {P:Prop},e.Kind=7→P:=fun q=>by omega
    have st:(s.1.End.Boot≤s.1.End.Boot∧s.1.End.Boot≤s.1.End.Boot+1∧s.1.End.Turn≤s.1.End.Turn+1)∧(s.2.1.End.Boot≤s.2.1.End.Boot∧s.2.1.End.Boot≤s.2.1.End.Boot+1∧s.2.1.End.Turn≤s.2.1.End.Turn+1):=by omega
    unfold Qh0;split <;> exact ⟨⟨st.1.1,st.1.2.1,st.1.2.2,no⟩,⟨st.2.1,st.2.2.1,st.2.2.2,no⟩⟩
  · exact QnJ h _ _ _ _
theorem Qhi {s:W3} (h:Gs s) {n:Int} (k:Sw n s) (e:Qxf):Sw (n+1) (ZI s e):=by
  obtain ⟨⟨_,a2,a3,_⟩,⟨_,b2,b3,_⟩⟩:=QsP h e;have:=k.1.boot;have:=k.1.turn;have:=k.2.boot;have:=k.2.turn;exact ⟨⟨by omega,by omega⟩,⟨by omega,by omega⟩⟩
theorem QoN {b:List Int} {p:Int} {n:Nat} (h:Rd (n+130) ⟨b,p⟩):Post (QbI ⟨b,p⟩) fun x=>(∃ s,x.1=toW s∧Iw s∧Sw 1 s)∧Rd n ⟨b,x.2.p⟩:=by
  unfold QbI;refine .bd (Qcg (n:=n+129) h (by decide)) fun x1 ⟨q1,r1⟩=>.bd (Qnv (n:=n+128) r1) fun x2 ⟨q2,r2⟩=>.bd (QiA (n:=n+60) (r2.mono (by omega))) fun x3 ⟨q3,r3⟩=>.bd (QiA (n:=n) r3) fun x4 ⟨q4,r4⟩=>?_;have hp:1≤x1.1*65533+1∧(IntKind.i64.wrap (2+(IntKind.i64.wrap (x1.1*65533))))=2+x1.1*65533:=by
    rw [wrap_i64 (n:=x1.1*65533) (by omega) (by omega),wrap_i64 (by omega) (by omega)];omega
  rw [hp.2];have e1:=Quw (a:=1) (p:=2+x1.1*65533) (by decide) (by omega) (by omega) q2.1 q3;have e2:=Quw (a:=2+x1.1*65533) (p:=1) (by omega) (by decide) (by omega) q2.1 q4;have t:Two ⟨true,Qvt 1 (2+x1.1*65533) x2.1 x3.1⟩ ⟨true,Qvt (2+x1.1*65533) 1 x2.1 x4.1⟩:=⟨⟨e1,fun q=>(by cases q)⟩,⟨e2,fun q=>(by cases q)⟩,rfl,rfl⟩;generalize hA:Qvt 1 (2+x1.1*65533) x2.1 x3.1=A at *;generalize hB:Qvt (2+x1.1*65533) 1 x2.1 x4.1=B at *;have zA:A.PeerBoot=0∧A.Boot=1∧A.Turn=0:=by rw [← hA]; exact ⟨rfl,rfl,rfl⟩
  have zB:B.PeerBoot=0∧B.Boot=1∧B.Turn=0:=by rw [← hB]; exact ⟨rfl,rfl,rfl⟩
  have dir:∀ x y:Qxb,x.PeerBoot=0→y.Boot=1→Dir ⟨true,x⟩ ⟨true,y⟩:=fun x y h1 h2 =>
    ⟨by show x.PeerBoot≤y.Boot; omega,fun _ _ e=>by have e:x.PeerBoot=y.Boot:=e; omega,fun _ _ e=>by have e:x.PeerBoot=y.Boot:=e; omega,fun _ _ e=>by have e:x.PeerBoot=y.Boot:=e; omega⟩
  have G:Iw (⟨true,A⟩,⟨true,B⟩,[]):=⟨⟨t,Nat.zero_le _,fun x hx=>by cases hx⟩,dir A B zA.1 zB.2.1,dir B A zB.1 zA.2.1,fun w hw=>by cases hw⟩;have S:Sw 1 (⟨true,A⟩,⟨true,B⟩,[]):=⟨⟨by show A.Boot≤1; omega,by show A.Turn≤1; omega⟩,⟨by show B.Boot≤1; omega,by show B.Turn≤1; omega⟩⟩;refine .bd (Q:=fun x=>∃ s,x.1=toW s∧Iw s∧Sw 1 s) ?_ fun x5 h5=>.ret ⟨h5,r4⟩;unfold Qcu;rw [Qwp (by rw [hA]; exact e1),Qb,Qwp (by rw [hB]; exact e2),Qb,hA,hB];exact .bd (QoC (QkK G.gs)) fun x hx=>.ite (fun c=>by rw [hx] at c; cases c) fun _=>.ret ⟨_,rfl,G,S⟩
end Go.Proofs.YtjgjdobkahdgfaaGreat
