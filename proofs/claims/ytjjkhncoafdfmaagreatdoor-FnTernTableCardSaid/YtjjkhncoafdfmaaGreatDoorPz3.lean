/-
  Plain Lean: what the models of functions compute; no condition.
-/
import Derived.Test.YtjjkhncoafdfmaaGreatDoorKz5
import Derived.Test.YtjjkhncoafdfmaaGreatDoorPz2
import Derived.Test.YtjjkhncoafdfmaaGreatDoorPz1
import Derived.Test.YtjjkhncoafdfmaaGreatDoorAbz6
set_option linter.all false
namespace Go.Proofs.YtjjkhncoafdfmaaGreatDoor
open Go Go.Ab
set_option maxHeartbeats 4000000
set_option maxRecDepth 100000
structure Rq (b:List Int) (p k:Int):Prop where
 bytes:∀x∈b,Qox x
 len:b.length≤2000
 p0:0≤p
 p1:p≤k
theorem Rq.mono {b:List Int} {p k I:Int} (h:Rq b p k) (J:k<=I):Rq b p I:=⟨h.bytes,h.len,h.p0,Int.le_trans h.p1 J⟩
theorem pk1 {b:List Int} {p n k:Int} (h:Rq b p k) (hk:k<=1000000) (I:1<=n):Post (Qu ⟨b,p⟩ n) fun x=>(0<=x.1∧x.1<n)∧Rq b x.2.p (k+1):=
 (Qvf (r:=⟨b,p⟩) ⟨h.bytes,h.len,h.p0,h.p1⟩ (by omega) I).mono fun x ⟨h1,h2⟩=>⟨h1,h2.bytes,h2.len,h2.p0,h2.p1⟩
theorem pk5 {b:List Int} {p n k:Int} (h:Rq b p k) (hk:k<=1000000) (I:1<=n):Post (Q1 ⟨b,p⟩ n) fun x=>(0<=x.1∧x.1<n)∧Rq b x.2.p (k+1):=
 (QtM (r:=⟨b,p⟩) ⟨h.bytes,h.len,h.p0,h.p1⟩ (by omega) I).mono fun x ⟨h1,h2⟩=>⟨h1,h2.bytes,h2.len,h2.p0,h2.p1⟩
def sz (xs:List Bt) (n:Nat):Bool:=xs.all fun s=>decide (s.size<=n)
theorem Qt2 {xs:List Bt} {n i:Nat} (h:sz xs n=true) (hi:i<xs.length):(xs.getD i default).size<=n:=YN (Ye.1 h _ (Q0 hi))
theorem of1 {b:List Int} {p k:Int} {xs:List Bt} (h:Rq b p k) (J:k<=1000000) (I:(decide (1<=xs.length)&&sz xs 60)=true):Post (QE ⟨b,p⟩ xs) fun x=>x.1.size<=60∧Rq b x.2.p (k+1):=by
 simp only[Y2,Y6] at I;unfold QE;exact .bd (pk1 h J (by omega)) fun x ⟨h1,h2⟩=>.gd h1 (.ret ⟨Qt2 I.2 (by omega),h2⟩)
theorem of5 {b:List Int} {p k:Int} {xs:List Bt} (h:Rq b p k) (J:k<=1000000) (I:(decide (1<=xs.length)&&sz xs 60)=true):Post (Qy ⟨b,p⟩ xs) fun x=>x.1.size<=60∧Rq b x.2.p (k+1):=by
 simp only[Y2,Y6] at I;unfold Qy;exact .bd (pk5 h J (by omega)) fun x ⟨h1,h2⟩=>.gd h1 (.ret ⟨Qt2 I.2 (by omega),h2⟩)
theorem QCc {b:List Int} {p k:Int} {xs:List Bt} (h:Rq b p k) (J:k<=1000000) (I:(decide (1<=xs.length)&&sz xs 60)=true):Post (QaS ⟨b,p⟩ xs) fun x=>x.1.size<=60∧Rq b x.2.1.p (k+1)∧x.2.2=xs:=by
 simp only[Y2,Y6] at I;unfold QaS;exact .bd (pk5 h J (by omega)) fun x ⟨h1,h2⟩=>.gd h1 (.ret ⟨Qt2 I.2 (by omega),h2,rfl⟩)
theorem Qmw (a:Array UInt8):(⟨a⟩:Bt).size=a.size:=rfl
structure Sm (xs:List Bt) (n:Nat):Prop where
 few:xs.length≤n
 short:∀s∈xs,s.size≤1000+100*n
theorem Sm.mono {xs:List Bt} {n m:Nat} (h:Sm xs n) (hm:n<=m):Sm xs m:=⟨Xl h.few hm,fun s hs=>by have:=h.short s hs;omega⟩
theorem QB5 (xs:List Bt):xs=(xs.map tB).map tS:=by
 rw[XT]
 conv=>lhs;rw[<-List.map_id xs]
 exact Xg fun s _=>(Qvg s).symm
theorem QsJ {s:Bt} (h:s.size<=1000000):Post (Qat s) fun _=>True:=by
 have:=QyB (l:=tB s) (by rw[Qvh];exact h);rw[Qvg] at this;exact⟨_,this,trivial⟩
theorem Qt3 {xs:List Bt} {n:Nat} (h:Sm xs n) (hn:n<=1000):Post (Qac xs) fun _=>True:=by
 have:=Qsz (ls:=xs.map tB) (fun l hl=>by
  obtain⟨s,hs,rfl⟩:=Yo.1 hl;have:=h.short s hs;rw[Qvh];omega) (by rw[Yb];have:=h.few;omega)
 rw[<-QB5] at this;exact⟨_,this,trivial⟩
theorem Qt4 {xs:List Bt} {n:Nat} {s:Bt} (h:Sm xs n) (hn:n<=1000):Post (Qd9 xs s) fun k=>k<(xs.length:Int):=by
 have hf:=h.few;unfold Qd9;refine .bd (Q:=fun r=>match r with| .inl k=>k<(xs.length:Int)| .inr _=>True) (.lp (fun i=>0<=i∧i<=(xs.length:Int)) (fun i=>((xs.length:Int) -i).toNat) ⟨X7 _,by omega⟩ fun i ⟨J,h1⟩=>.ite (fun hc=>?_) fun _=>.ret trivial) fun r I=>?_
 ·have hc:=YN hc;have hm:xs.getD i.toNat default∈xs:=Q0 (by omega);have e:IntKind.i64.wrap (i+1)=i+1:=Ql (by omega) (by omega);refine .gd ⟨J,hc⟩ (.bd (QsJ (by have:=h.short _ hm;omega)) fun k _=>.ite (fun _=>.ret hc) fun _=>.ret ?_);rw[e];exact⟨⟨by omega,by omega⟩,by omega⟩
 ·cases r with
  |inl k=>exact .ret I
  |inr _=>exact .ret (by show(-1:Int)<_;omega)
theorem Qkx {xs:List Bt} {n:Nat} {k:Int} (h:Sm xs n) (hn:n<=1000) (h0:0<=k) (h1:k<(xs.length:Int)):Post (QaH xs k) fun r=>Sm r n:=by
 have hf:=h.few;have e:IntKind.i64.wrap (k+1)=k+1:=Ql (by omega) (by omega);unfold QaH;rw[e];have I:QbP ((xs.length:Nat):Int) (k+1)=xs.length-(k.toNat+1):=by rw[QX];omega
 refine .gd (by omega) (.gd (by omega) (.gd (by omega) (.gd (by rw[I,Ym];omega) (.ret ⟨?_,fun s hs=>h.short s ?_⟩))))
 ·rw[I,Yj,Ym,XG,Ym];omega
 ·rcases Yx.1 hs with hs|hs
  ·exact Xv hs
  ·exact Xv (List.mem_of_mem_drop hs)
theorem Qle {xs:List Bt} {n:Nat} {s:Bt} (h:Sm xs n) (hn:n<=1000) (hs:s.size<=1000):Post (QaQ xs s) fun r=>Sm r (n+1):=by
 have hf:=h.few;unfold QaQ;refine .bd (Q:=fun k=>0<=k∧k<=(xs.length:Int)) (.lp (fun i=>0<=i∧i<=(xs.length:Int)) (fun i=>((xs.length:Int) -i).toNat) ⟨X7 _,by omega⟩ fun i ⟨J,h1⟩=>.gd (fun hc=>⟨J,YN hc⟩) (.ite (fun hc=>.ret ?_) fun _=>.ret ⟨J,h1⟩)) fun k ⟨J,h1⟩=>?_
 ·simp only[Y2,Y6] at hc;have e:IntKind.i64.wrap (i+1)=i+1:=Ql (by omega) (by omega);rw[e];exact⟨⟨by omega,by omega⟩,by omega⟩
 ·have N:QbP ((xs.length:Nat):Int) k=xs.length-k.toNat:=by rw[QX];omega
  refine .gd (by omega) (.gd (by omega) (.gd (by rw[Ym,Y8,Yd];omega) (.gd (by omega) (.gd (by rw[N,Yj,Ym,Y8,Yd];omega) (.ret ⟨?_,fun x I=>?_⟩)))))
  ·rw[N,Yj,Yj,Ym,XG,Ym,Y8,Yd];omega
  ·rcases Yx.1 I with I|I
   ·rcases Yx.1 I with I|I
    ·have:=h.short x (Xv I);omega
    ·have:x=s:=by simpa using I
     rw[this];omega
   ·have:=h.short x (Xv (List.mem_of_mem_drop I));omega
theorem Qo6 {xs:List Bt} {n:Nat} {s:Bt} (h:Sm xs n) (hn:n<=900) (hs:s.size<=1000):Post (Jd xs s) fun r=>Sm r (n+1):=by
 unfold Jd;refine .bd (QsJ (by omega)) fun k _=>.bd (Qt4 h (by omega)) fun i hi=>.bd (Q:=fun r=>Sm r n) (.ite (fun hc=>.bd (Qkx h (by omega) (YN hc) hi) fun r I=>.ret (I.mono (by omega))) fun _=>.ret h) fun r I=>.bd (Qle I (by omega) hs) fun q J=>.bd (Qt3 J (by omega)) fun _ _=>.ite (fun _=>.ret J) fun _=>.ret (h.mono (by omega))
theorem QrF {b:List Int} {p k:Int} (h:Rq b p k) (hk:k<=990000):Post (Jr ⟨b,p⟩) fun x=>x.1.size<=60∧Rq b x.2.p (k+1):=by
 unfold Jr;exact .bd (of5 h (by omega) (by kernel_rfl)) fun x I=>.ret I
theorem QvO {b:List Int} {p k:Int} (h:Rq b p k) (hk:k<=990000):Post (Qbb ⟨b,p⟩) fun x=>x.1.size<=60∧Rq b x.2.p (k+1):=by
 unfold Qbb;exact .bd (of5 h (by omega) (by kernel_rfl)) fun x I=>.ret I
theorem Qqk {b:List Int} {p k:Int} (h:Rq b p k) (hk:k<=900000):Post (QbV ⟨b,p⟩) fun x=>x.1.size<=900∧Rq b x.2.p (k+12):=by
 unfold QbV;refine .bd (pk5 h (by omega) (by omega)) fun x1 ⟨_,h1⟩=>?_
 repeat' first
  |refine Post.ite (fun _=>?_) (fun _=>?_)
  |refine Post.gd ?_ ?_
  |(refine Post.bd (of5 (by assumption) (by omega) (by kernel_rfl)) ?_;rintro _ ⟨_,_⟩)
  |(refine Post.bd (QrF (by assumption) (by omega)) ?_;rintro _ ⟨_,_⟩)
  |(refine Post.bd (QvO (by assumption) (by omega)) ?_;rintro _ ⟨_,_⟩)
  |refine Post.bd (Q:=fun _=>True) (Post.ite (fun _=>.ret trivial) (fun _=>.ret trivial)) fun _ _=>?_
  |(refine Post.bd (Q:=fun x=>x.2.size<=100∧Rq b x.1 (k+3)) (Post.bd (pk5 (by assumption) (by omega) (by omega)) ?_) ?_<;>rintro _ ⟨_,_⟩)
  |refine Post.ret ⟨?_,Rq.mono (by assumption) (by omega)⟩
  |((try dsimp only);simp only[Xf,Qmw,X6,Y8,Yd];omega)
theorem Qt5 {b:List Int} {p k:Int} (h:Rq b p k) (hk:k<=800000):Post (Qdr ⟨b,p⟩) fun x=>x.1.size<=900∧Rq b x.2.p (k+14):=by
 unfold Qdr;refine .bd (pk1 h (by omega) (by omega)) fun x1 ⟨_,h1⟩=>?_
 repeat' first
  |refine Post.ite (fun _=>?_) (fun _=>?_)
  |refine Post.gd ?_ ?_
  |(refine Post.bd (of1 (by assumption) (by omega) (by kernel_rfl)) ?_;rintro _ ⟨_,_⟩)
  |(refine Post.bd (Qqk (by assumption) (by omega)) ?_;rintro _ ⟨_,_⟩)
  |refine Post.bd (Q:=fun _=>True) (Post.ite (fun _=>.ret trivial) (fun _=>.ret trivial)) fun _ _=>?_
  |refine Post.bd (Q:=fun _=>True) (Post.ite (fun _=>.ret trivial) (fun _=>Post.ite (fun _=>.ret trivial) (fun _=>.ret trivial))) fun _ _=>?_
  |refine Post.ret ⟨?_,Rq.mono (by assumption) (by omega)⟩
  |((try dsimp only);assumption)
  |((try dsimp only);simp only[Xf,Qmw,X6,Y8,Yd];omega)
theorem QvP {b:List Int} {p k:Int} (h:Rq b p k) (hk:k<=1000):Post (Qds ⟨b,p⟩) fun x=>Sm x.1 15∧Rq b x.2.p (k+200):=by
 unfold Qds;refine .bd (Q:=fun x=>Sm x.1 7∧Rq b x.2 (k+12)) (.lp (fun s=>∃i:Nat,s.2.2=(i:Int)∧i<=6∧Sm s.2.1 (1+i)∧Rq b s.1 (k+2*i)) (fun s=>6-s.2.2.toNat) ⟨0,rfl,by omega,⟨by simp,fun s hs=>?_⟩,by simpa using h⟩ ?_) ?_
 ·have:s=_:=XF.1 hs;rw[this];simp only[Qmw,X6,Y8,Yd];omega
 ·rintro⟨p1,ls,z⟩ ⟨i,e,hi,hs,Y⟩;dsimp only at e hs Y|-;subst e;refine .ite (fun hc=>?_) fun _=>.ret ⟨hs.mono (by omega),Y.mono (by omega)⟩;have a1:i<6:=by
   have:=YN hc;simp only[Y8,Yd] at this;omega
  have ew:IntKind.i64.wrap ((i:Int)+1)=((i+1:Nat):Int):=Qf a1 (by omega)
  repeat' first
   |refine Post.ite (fun _=>?_) (fun _=>?_)
   |refine Post.gd ⟨by omega,by simp only[Y8,Yd];omega⟩ ?_
   |(refine Post.bd (pk1 (by assumption) (by omega) (by omega)) ?_;rintro _ ⟨_,_⟩)
   |(refine Post.bd (Qo6 hs (by omega) (Xl (Qt2 (n:=60) (by kernel_rfl) (by simp only[Y8,Yd];omega)) (by omega))) ?_;intro _ _)
   |exact Post.ret ⟨⟨i+1,ew,by omega,Sm.mono (by assumption) (by omega),Rq.mono (by assumption) (by omega)⟩,by dsimp only;rw[ew];omega⟩
 ·rintro⟨ls,p1⟩ ⟨hs,Y⟩;dsimp only at hs Y|-;refine .bd (Q:=fun x=>Sm x.2 10∧Rq b x.1 (k+30)) (.bd (pk1 Y (by omega) (by omega)) ?_) ?_
  ·rintro x ⟨_,hx⟩
   repeat' first
    |refine Post.ite (fun _=>?_) (fun _=>?_)
    |refine Post.gd ?_ ?_
    |(refine Post.bd (of1 (by assumption) (by omega) (by kernel_rfl)) ?_;rintro _ ⟨_,_⟩)
    |(refine Post.bd (Qo6 (by assumption) (by omega) (by first|omega|(simp only[Xf,Qmw,X6,Y8,Yd];omega))) ?_;intro _ _)
    |exact Post.ret ⟨Sm.mono (by assumption) (by omega),Rq.mono (by assumption) (by omega)⟩
    |(simp only[Xf,Qmw,X6,Y8,Yd];omega)
  ·rintro⟨p2,ls2⟩ ⟨N,U⟩;dsimp only at N U|-;refine .bd (pk1 U (by omega) (by omega)) ?_;rintro⟨n,r3⟩ ⟨⟨a2,a5⟩,O⟩;dsimp only at a2 a5 O|-;refine .bd (Q:=fun x=>Sm x.1 15∧Rq b x.2 (k+200)) (.lp (fun s=>∃i:Nat,s.2.2=(i:Int)∧i<=5∧Sm s.2.1 (10+(5-i))∧Rq b s.1 (k+31+14*((5:Int) -i))) (fun s=>s.2.2.toNat) ⟨n.toNat,by dsimp only;omega,by omega,N.mono (by omega),O.mono (by omega)⟩ ?_) ?_
   ·rintro⟨p4,ls4,z⟩ ⟨i,e,hi,J,I⟩;dsimp only at e J I|-;subst e;refine .ite (fun hc=>?_) fun _=>.ret ⟨J.mono (by omega),I.mono (by omega)⟩;have hc:=YN hc;have ew:IntKind.i64.wrap ((i:Int) -1)=((i-1:Nat):Int):=(Ql (by omega) (by omega)).trans (by omega);refine .bd (Qt5 I (by omega)) ?_;rintro x ⟨hx,a7⟩;refine .bd (Qo6 J (by omega) (by omega)) fun ls5 a6=>.ret ⟨⟨i-1,ew,by omega,a6.mono (by omega),a7.mono (by omega)⟩,?_⟩;dsimp only;rw[ew];omega
   ·rintro x ⟨h1,h2⟩;exact .ret ⟨h1,h2⟩
theorem Qt6 {xs:List Bt} {n:Nat} (h:Sm xs n) (hn:n<=1000):QcD xs=some xs:=by
 unfold QcD;rw[Qd (by have:=h.few;omega)]
theorem QyJ {xs:List Bt} {n:Nat} {i:Nat} {s:Bt} (h:Sm xs n) (hs:s.size<=1100+100*n):Sm (xs.set i s) (n+1):=by
 refine⟨by rw[Y03];have:=h.few;omega,fun x I=>?_⟩;rcases List.mem_or_eq_of_mem_set I with I|rfl
 ·have:=h.short x I;omega
 ·omega
theorem Qt7 {b:List Int} {p k:Int} {xs:List Bt} (h:Rq b p k) (hk:k<=10000) (hs:Sm xs 15):Post (QcE ⟨b,p⟩ xs) fun x=>Sm x.1 40∧Rq b x.2.p (k+100):=by
 have hf:=hs.few;unfold QcE;rw[Qt6 hs (by omega),Qa];have a1:∀(q:Int),Rq b q (k+1)->∀(step:List Bt×Int×Int->Option ((List Bt×Int×Int)⊕(Nat×List Bt×Int))),
   (∀(i:Nat) (ys:List Bt) (q:Int),i<=17->Sm ys (15+i)->Rq b q (k+1+i)->Post (step (ys,q,(i:Int))) fun r=>match r with| .inl s'=>(∃j:Nat,s'.2.2=(j:Int)∧j<=17∧j=i+1∧Sm s'.1 (15+j)∧Rq b s'.2.1 (k+1+j))| .inr d=>Sm d.2.1 40∧Rq b d.2.2 (k+30))->
   Post (lp step (xs,q,0)) fun d=>Sm d.2.1 40∧Rq b d.2.2 (k+30):=by
  intro q hq step a2;refine .lp (fun s=>∃i:Nat,s.2.2=(i:Int)∧i<=17∧Sm s.1 (15+i)∧Rq b s.2.1 (k+1+i)) (fun s=>18-s.2.2.toNat) ⟨0,rfl,by omega,hs,by simpa using hq⟩ ?_;rintro⟨ys,q1,z⟩ ⟨i,e,hi,h1,h2⟩;dsimp only at e h1 h2;subst e;refine(a2 i ys q1 hi h1 h2).mono fun r I=>?_
  cases r with
  |inl s'=>
   have⟨j,e,hj,hij,h3,h4⟩:=I;refine⟨⟨j,e,hj,h3,h4⟩,?_⟩;dsimp only;rw[e];omega
  |inr d=>exact I
 refine .bd (Q:=fun r=>match r with| .inl d=>0<xs.length∧Rq b d (k+1)| .inr d=>Sm d.2.1 40∧Rq b d.2.2 (k+30)) (.ite (fun h0=>.ite (fun _=>.bd (a1 p (h.mono (by omega)) _ ?_) fun d hd=>.ret hd) fun hn=>absurd (by rw[h0];rfl) hn) fun h0=>.bd (pk5 h (by omega) (by omega)) ?_) ?_
 ·intro i ys q hi hy hq;dsimp only;refine .bd (pk5 hq (by omega) (by omega)) ?_;rintro⟨v,r⟩ ⟨⟨a5,a6⟩,I⟩;dsimp only at a5 a6 I|-;rw[Ql (n:=16+v) (by omega) (by omega)];refine .ite (fun hc=>?_) fun _=>.ret ⟨hy.mono (by omega),I.mono (by omega)⟩;have hc:=YN hc;have U:i<17:=by omega
  have ew:IntKind.i64.wrap ((i:Int)+1)=((i+1:Nat):Int):=Qf U (by omega);refine .gd ⟨by omega,by simp only[Y8,Yd];omega⟩ ?_;have a8:=Qt2 (n:=60) (i:=(i:Int).toNat) (xs:=([(⟨#[49,48]⟩:Bt),(⟨#[49,49]⟩:Bt),(⟨#[49,50]⟩:Bt),(⟨#[49,51]⟩:Bt),(⟨#[49,52]⟩:Bt),(⟨#[49,53]⟩:Bt),(⟨#[49,54]⟩:Bt),(⟨#[49,55]⟩:Bt),(⟨#[49,56]⟩:Bt),(⟨#[49,57]⟩:Bt),(⟨#[50,48]⟩:Bt),(⟨#[50,49]⟩:Bt),(⟨#[50,50]⟩:Bt),(⟨#[50,51]⟩:Bt),(⟨#[50,52]⟩:Bt),(⟨#[50,53]⟩:Bt),(⟨#[50,54]⟩:Bt)]:List Bt)) (by kernel_rfl) (by simp only[Y8,Yd];omega);refine .gd (by simp only[Qmw,X6,Y8,Yd] at*;omega) (.gd (by simp only[Xf,Qmw,X6,Y8,Yd] at*;omega) (.bd (Qle hy (by omega) (by simp only[Xf,Qmw,X6,Y8,Yd] at*;omega)) fun b0 h2=>.ret ⟨i+1,ew,by omega,rfl,h2,I.mono (by omega)⟩))
 ·rintro⟨v,r⟩ ⟨_,I⟩;dsimp only at I|-;refine .ite (fun _=>.bd (a1 r.p I _ ?_) fun d hd=>.ret hd) fun _=>.ret ⟨?_,I⟩
  ·intro i ys q hi hy hq;dsimp only;refine .bd (pk5 hq (by omega) (by omega)) ?_;rintro⟨v,r⟩ ⟨⟨a5,a6⟩,I⟩;dsimp only at a5 a6 I|-;rw[Ql (n:=16+v) (by omega) (by omega)];refine .ite (fun hc=>?_) fun _=>.ret ⟨hy.mono (by omega),I.mono (by omega)⟩;have hc:=YN hc;have U:i<17:=by omega
   have ew:IntKind.i64.wrap ((i:Int)+1)=((i+1:Nat):Int):=Qf U (by omega);refine .gd ⟨by omega,by simp only[Y8,Yd];omega⟩ ?_;have a8:=Qt2 (n:=60) (i:=(i:Int).toNat) (xs:=([(⟨#[49,48]⟩:Bt),(⟨#[49,49]⟩:Bt),(⟨#[49,50]⟩:Bt),(⟨#[49,51]⟩:Bt),(⟨#[49,52]⟩:Bt),(⟨#[49,53]⟩:Bt),(⟨#[49,54]⟩:Bt),(⟨#[49,55]⟩:Bt),(⟨#[49,56]⟩:Bt),(⟨#[49,57]⟩:Bt),(⟨#[50,48]⟩:Bt),(⟨#[50,49]⟩:Bt),(⟨#[50,50]⟩:Bt),(⟨#[50,51]⟩:Bt),(⟨#[50,52]⟩:Bt),(⟨#[50,53]⟩:Bt),(⟨#[50,54]⟩:Bt)]:List Bt)) (by kernel_rfl) (by simp only[Y8,Yd];omega);refine .gd (by simp only[Qmw,X6,Y8,Yd] at*;omega) (.gd (by simp only[Xf,Qmw,X6,Y8,Yd] at*;omega) (.bd (Qle hy (by omega) (by simp only[Xf,Qmw,X6,Y8,Yd] at*;omega)) fun b0 h2=>.ret ⟨i+1,ew,by omega,rfl,h2,I.mono (by omega)⟩))
  ·have h0:(((xs.length:Nat):Int)==0)=false:=by simpa using h0
   have:((xs.length:Nat):Int)≠0:=by simpa using h0
   omega
 ·rintro(d|d) hd
  ·have⟨hl,I⟩:=hd;refine .bd (pk5 I (by omega) (by omega)) ?_;rintro⟨i,r2⟩ ⟨⟨J,O⟩,a7⟩;dsimp only at J O a7|-;have hm:xs.getD i.toNat default∈xs:=Q0 (by omega);have hz:=hs.short _ hm;refine .bd (pk5 a7 (by omega) (by omega)) ?_;rintro⟨j,r3⟩ ⟨_,Y⟩;dsimp only at Y|-;refine .ite (fun _=>.gd ⟨J,O⟩ (.bd (QCc Y (by omega) (by kernel_rfl)) ?_)) fun _=>.ite (fun _=>.gd ⟨J,O⟩ (.gd (by simp only[Y8,Yd];omega) (.ret ⟨⟨?_,fun x hx=>?_⟩,Y.mono (by omega)⟩))) fun _=>.ite (fun _=>.bd (of5 Y (by omega) (by kernel_rfl)) ?_) fun _=>.bd (Qkx hs (by omega) J O) fun ys hy=>.bd (Qqk Y (by omega)) ?_
   ·rintro⟨w,r4,l4⟩ ⟨hw,N,el⟩;dsimp only at hw N el|-;exact .gd (by rw[el]) (.gd (by omega) (.gd ⟨J,O⟩ (.ret ⟨(QyJ hs (by rw[Xf];omega)).mono (by omega),N.mono (by omega)⟩)))
   ·rw[Yj,Y8,Yd];omega
   ·rcases Yx.1 hx with hx|hx
    ·have:=hs.short x hx;omega
    ·have:x=_:=XF.1 hx;rw[this];omega
   ·rintro x ⟨hx,N⟩;exact .gd ⟨J,O⟩ (.ret ⟨(QyJ hs (by omega)).mono (by omega),N.mono (by omega)⟩)
   ·rintro x ⟨hx,N⟩;exact .bd (Qle hy (by omega) (by omega)) fun zs a9=>.ret ⟨a9.mono (by omega),N.mono (by omega)⟩
  ·exact .ret ⟨hd.1,hd.2.mono (by omega)⟩
theorem QxL {b:List Int} {p k:Int} (h:Rq b p k) (U:k<=1000):Post (Qec ⟨b,p⟩) fun x=>Sm x.1 40∧Rq b x.2.p (k+400):=by
 unfold Qec;refine .bd (QvP h U) ?_;rintro⟨ls,r⟩ ⟨hs,N⟩;dsimp only at hs N|-;refine .bd (pk1 N (by omega) (by omega)) ?_;rintro⟨v,r2⟩ ⟨_,I⟩;dsimp only at I|-;refine .ite (fun _=>.bd (Qt7 I (by omega) hs) ?_) fun _=>.ret ⟨hs.mono (by omega),I.mono (by omega)⟩;rintro x ⟨O,J⟩;exact .ret ⟨O,J.mono (by omega)⟩
def QbQ (len:Int):Int:=2^(16-len).toNat
theorem Qf6 (len:Int):0<QbQ len:=by unfold QbQ;exact Int.pow_pos (by omega)
theorem Qkd {len:Int} (h:0<=len):QbQ len<=65536:=by
 unfold QbQ;have:=Qzb (a:=(16-len).toNat) (b:=16) (by omega);simpa using this
def inR (a lo hi:Int):Bool:=decide (lo<=a)&&decide (a<=hi)
@[simp] theorem QeO {a lo hi:Int}:inR a lo hi=true ↔ lo<=a∧a<=hi:=by simp [inR]
@[simp] theorem Qhh (a lo hi:Int):QV a lo hi=some (inR a lo hi):=rfl
@[simp] theorem QvQ (a lo hi:Int):QaP a lo hi=some (inR a lo hi):=by simp [QaP,inR]
def QbO (a l:Int):Bool:=inR l 0 16&&inR a 0 65535&&(a.tmod (QbQ l)==0)
theorem QdU {a l:Int} (h:QbO a l=true):0<=l∧l<=16∧0<=a∧a<=65535:=by
 simp only[QbO,Y2,QeO] at h;omega
theorem Qql {n:Int} (h0:0<=n) (h1:n<=16):Qe8 n=some (QbQ n):=by
 obtain⟨k,rfl⟩:∃k:Nat,n=k:=⟨n.toNat,by omega⟩;have:k=0∨k=1∨k=2∨k=3∨k=4∨k=5∨k=6∨k=7∨k=8∨k=9∨k=10∨k=11∨k=12∨k=13∨k=14∨k=15∨k=16:=by omega
 rcases this with rfl|rfl|rfl|rfl|rfl|rfl|rfl|rfl|rfl|rfl|rfl|rfl|rfl|rfl|rfl|rfl|rfl<;>exact(QBJ (Ql5.2 ⟨18,rfl⟩)).trans rfl
theorem QyK {p:QCj} (I:0<=p.Len) (h1:p.Len<=16):Zf p=some (QbQ p.Len):=by
 have e:IntKind.i64.wrap (16-p.Len)=16-p.Len:=Ql (by omega) (by omega);have hb:IntKind.bits .i64=64:=rfl;unfold Zf;rw[e,Qd (by omega),hb,Xa (by omega),Int.one_mul];have h:=Qkd I;have hp:=Qf6 p.Len;unfold QbQ at*;rw[Ql (by omega) (by omega)]
theorem QsK {a l:Int} {m:Option Int} (hm:inR l 0 16=true->m=some (QbQ l)):
  (bd (Qv (inR l 0 16=true) (some (inR a 0 65535))) fun I=>bd (Qv ((inR l 0 16&&I)=true) m) fun J=>gd ((inR l 0 16&&I)=true->((J:Int)≠0))<|some ((inR l 0 16&&I)&&((a.tmod J)==0)))=some (QbO a l):=by
 have hp:=Qf6 l;unfold QbO
 cases h1:inR l 0 16
 ·simp[Qv,gd]
 ·rw[hm h1]
  cases h2:inR a 0 65535
  ·simp[Qv,gd]
  ·simp only[Qv,Yn,YE,Qa];rw[Qd (fun _=>by omega)]
theorem QAb (e:QCg):Qcg e=some (QbO e.Addr e.Len):=by
 unfold Qcg;simp only[QvQ,Qa];exact QsK fun h=>Qql (QeO.1 h).1 (QeO.1 h).2
theorem QvR (p:QCj):QaO p=some (QbO p.Addr p.Len):=by
 unfold QaO;simp only[Qhh,Qa];exact QsK fun h=>QyK (QeO.1 h).1 (QeO.1 h).2
def J9 (e:QCg):Bool:=QbO e.Addr e.Len&&inR e.Cost 1 255&&inR e.Label 0 1000
theorem QiA {e:QCg} (h:J9 e=true):0<=e.Len∧e.Len<=16∧0<=e.Addr∧e.Addr<=65535:=by
 simp only[J9,Y2] at h;exact QdU h.1.1
@[simp] theorem QfC (e:QCg):Q4 e=some ⟨e.Addr,e.Len⟩:=rfl
theorem QxM (e:QCg):QbC e=some (J9 e):=by
 unfold QbC J9;simp only[QAb,QvQ,Qa,Qmc]
 cases QbO e.Addr e.Len<;>simp
theorem QxN (e:QCg):QaF e=some (J9 e):=by
 unfold QaF J9;simp only[QfC,QvR,Qhh,Qa,Qmc]
 cases QbO e.Addr e.Len<;>simp
def Qc8 (a b:QCg):Bool:=decide (a.Addr<b.Addr)||(a.Addr==b.Addr&&decide (a.Len<b.Len))
def pk (e:QCg):Int:=e.Addr*32+e.Len
def cmpV (a l b k:Int):Int:=if a=b then l-k else a-b
@[simp] theorem QrG (a b:QCg):Qav a b=some (Qc8 a b):=rfl
theorem Qqm {a b:QCg} (ha:0<=a.Len∧a.Len<=16) (hb:0<=b.Len∧b.Len<=16):Qc8 a b=true↔pk a<pk b:=by
 simp only[Qc8,pk,Yr,Y2,Y6,YD];omega
theorem QBe {a l b k:Int} (h1:0<=l∧l<=16∧0<=a∧a<=65535) (h2:0<=k∧k<=16∧0<=b∧b<=65535):Jx ⟨a,l⟩ ⟨b,k⟩=some (cmpV a l b k):=by
 unfold Jx cmpV;dsimp only
 by_cases h:a=b
 ·rw[Y3 (by simp[h]),Y4 h,Ql (by omega) (by omega)]
 ·rw[Y4 (by simp[h]),Y3 h,Ql (by omega) (by omega)]
theorem QsL {a b:QCg} (h1:0<=a.Len∧a.Len<=16) (h2:0<=b.Len∧b.Len<=16):cmpV a.Addr a.Len b.Addr b.Len<0↔pk a<pk b:=by
 unfold cmpV pk;split<;>omega
theorem QvS {a b:QCg} (h1:0<=a.Len∧a.Len<=16) (h2:0<=b.Len∧b.Len<=16):cmpV a.Addr a.Len b.Addr b.Len=0↔pk a=pk b:=by
 unfold cmpV pk;split<;>omega
theorem QBV {a b:QCg} (h1:0<=a.Len∧a.Len<=16) (h2:0<=b.Len∧b.Len<=16):pk a=pk b↔a.Addr=b.Addr∧a.Len=b.Len:=by
 unfold pk;omega
theorem Qjn {α:Type} [Inhabited α] {xs:List α} {x:α} (h:x∈xs):∃i,i<xs.length∧xs.getD i default=x:=by
 have⟨i,hi,e⟩:=XA h;exact⟨i,hi,by rw[Y0,Y5 hi];exact e⟩
theorem QBf {a:Int} (h0:0<=a) (h1:a<=4611686018427387904):IntKind.i64.wrap ((IntKind.u64.wrap (IntKind.i64.wrap a):Int).fdiv (2^min (1:Int).toNat IntKind.u64.bits))=a/2:=by
 rw[Ql (n:=a) (by omega) (by omega)];have e:IntKind.u64.wrap a=a:=by
  show a%18446744073709551616=a;omega
 rw[e,show(2:Int)^min (1:Int).toNat IntKind.u64.bits=2 from rfl,Int.fdiv_eq_ediv_of_nonneg _ (by decide),Ql (by omega) (by omega)]
theorem Qc9 {α:Type} {p:α->Bool} [Inhabited α]:∀(xs:List α),(∀k,k<(xs.takeWhile p).length->p (xs.getD k default)=true)∧(∀h:(xs.takeWhile p).length<xs.length,p (xs.getD (xs.takeWhile p).length default)=false)∧(xs.takeWhile p).length<=xs.length
 |[]=>⟨fun k h=>by simp at h,fun h=>by simp at h,Yh _⟩
 |x::r=>by
  have⟨I,J,i3⟩:=Qc9 (p:=p) r;rw[YV]
  cases hp:p x
  ·exact⟨fun k h=>by simp at h,fun h=>by simpa using hp,by simp⟩
  ·simp only[YE,Y8];refine⟨fun k h=>?_,fun h=>?_,by omega⟩
   ·cases k with
    |zero=>simpa using hp
    |succ k=>simpa using I k (by omega)
   ·simpa using J (by omega)
theorem Qmx {a b c:QCg} (h:Qc8 a b=true) (k:Qc8 b c=true):Qc8 a c=true:=by
 simp only[Qc8,Yr,Y2,Y6,YD] at*;omega
section
variable {α:Type} [Inhabited α] (f:α→QCg)
def posK (t:List α) (e:QCg):Nat:=(t.takeWhile fun x=>Qc8 (f x) e).length
def QnV (t:List α) (e:QCg):Bool:=decide (posK f t e<t.length)&&((f (t.getD (posK f t e) default)).Addr==e.Addr&&(f (t.getD (posK f t e) default)).Len==e.Len)
structure Ord (t:List α):Prop where
 ord:t.Pairwise fun x y=>Qc8 (f x) (f y)=true
 rng:∀x∈t,0≤(f x).Len∧(f x).Len≤16∧0≤(f x).Addr∧(f x).Addr≤65535
variable {f}
theorem Qo7 (t:List α) (e:QCg):posK f t e<=t.length:=(Qc9 (p:=fun x=>Qc8 (f x) e) t).2.2
theorem QrH {t:List α} {e:QCg} {k:Nat} (h:k<posK f t e):Qc8 (f (t.getD k default)) e=true:=(Qc9 (p:=fun x=>Qc8 (f x) e) t).1 k h
theorem QvT {t:List α} (ho:Ord f t) {e:QCg} {k:Nat} (h:posK f t e<=k) (J:k<t.length):Qc8 (f (t.getD k default)) e=false:=by
 have I:=(Qc9 (p:=fun x=>Qc8 (f x) e) t).2.1 (Nat.lt_of_le_of_lt h J)
 cases hc:Qc8 (f (t.getD k default)) e
 ·rfl
 ·rcases Nat.eq_or_lt_of_le h with c|c
  ·have:Qc8 (f (t.getD (posK f t e) default)) e=false:=I;rw[<-c,this] at hc;cases hc
  ·have:=X9.1 ho.ord (posK f t e) k (by omega) J c;have O:t.getD k default=t[k]:=by rw[Y0,Y5 J];rfl
   have N:t.getD (posK f t e) default=t[posK f t e]'(by omega):=by rw[Y0,Y5 (by omega)];rfl
   have I:Qc8 (f (t.getD (posK f t e) default)) e=false:=I;rw[N] at I;rw[O] at hc;rw[Qmx this hc] at I
   cases I
theorem Qf7 {t:List α} {e:QCg}:QnV f t e=true↔posK f t e<t.length∧(f (t.getD (posK f t e) default)).Addr=e.Addr∧(f (t.getD (posK f t e) default)).Len=e.Len:=by
 simp only[QnV,Y2,Y6,YD]
theorem QrI {t:List α} (ho:Ord f t) {e:QCg} {k:Nat} (I:k<t.length) (h:(f (t.getD k default)).Addr=e.Addr∧(f (t.getD k default)).Len=e.Len):k=posK f t e∧QnV f t e=true:=by
 have e1:k=posK f t e:=by
  rcases Nat.lt_trichotomy k (posK f t e) with c|c|c
  ·have:=QrH (f:=f) c;simp only[Qc8,Yr,Y2,Y6,YD] at this;omega
  ·exact c
  ·exfalso;have J:=QvT ho (e:=e) (Yh _) (by omega);have:=X9.1 ho.ord (posK f t e) k (by omega) I c;have O:t.getD k default=t[k]:=by rw[Y0,Y5 I];rfl
   have N:t.getD (posK f t e) default=t[posK f t e]'(by omega):=by rw[Y0,Y5 (by omega)];rfl
   rw[O] at h;rw[N] at J;generalize f (t[posK f t e]'(by omega))=x at*;generalize f t[k]=y at*;have:Qc8 x e=true:=by
    simp only[Qc8,Yr,Y2,Y6,YD] at*;omega
   rw[this] at J;cases J
 refine⟨e1,?_⟩;subst e1;exact Qf7.2 ⟨I,h.1,h.2⟩
end
abbrev idE (e:QCg):QCg:=e
def QxO (t:List QCg) (e:QCg):List QCg:=if QnV idE t e=true then t.set (posK idE t e) e else t.take (posK idE t e)++[e]++t.drop (posK idE t e)
theorem QvU {t:List QCg} (h:t.length<=1048576):QaI t=some t:=by
 unfold QaI;rw[Qd (by omega)]
theorem QrJ {t:List QCg} (h:t.length<=1048576) (e:QCg):Qbz t e=some (QxO t e):=by
 have w3:=Qo7 (f:=idE) t e;have Y:=fun k=>QrH (f:=idE) (t:=t) (e:=e) (k:=k);have U:posK idE t e<t.length->Qc8 (t.getD (posK idE t e) default) e=false:=(Qc9 (p:=fun x=>Qc8 (idE x) e) t).2.1;unfold Qbz QxO;have O:QnV idE t e=(decide (posK idE t e<t.length)&&((t.getD (posK idE t e) default).Addr==e.Addr&&(t.getD (posK idE t e) default).Len==e.Len)):=rfl;rw[O];generalize posK idE t e=L at*;have key:lp (σ:=Int) (β:=(Int)) (fun I=>
   gd ((decide (I<((t.length:Nat):Int)))=true->((0:Int)<=I∧I<((t.length:Nat):Int)))<|
   bd (Qv ((decide (I<((t.length:Nat):Int)))=true) (Qav (t.getD I.toNat default) e)) fun N=>
   (if((decide (I<((t.length:Nat):Int)))&&N)=true then
   some (.inl (IntKind.i64.wrap (I+1)))
   else
   some (.inr I))) 0=some (L:Int):=by
  have:=QbN (step:=(fun I:Int=>
   gd ((decide (I<((t.length:Nat):Int)))=true->((0:Int)<=I∧I<((t.length:Nat):Int)))<|
   bd (Qv ((decide (I<((t.length:Nat):Int)))=true) (Qav (t.getD I.toNat default) e)) fun N=>
   (if((decide (I<((t.length:Nat):Int)))&&N)=true then
   some (.inl (IntKind.i64.wrap (I+1)))
   else
   some (.inr I):Option (Int⊕Int)))) L (fun _=>true) (L:Int) (L:Int) (fun i hi _=>by
    have J:decide ((i:Int)<((t.length:Nat):Int))=true:=by simp;omega
    have hl:Qc8 (t.getD i default) e=true:=Y i hi;rw[Qd (fun _=>by omega),Y1,QrG,Qs J,Qa,hl,J,Y1c,Y4 rfl,Qf hi (by omega),Y4 rfl]) (fun _=>by
    rw[Qd (fun c=>by simp only[Y6] at c;omega),Y1,QrG,Qmc,Qa]
    by_cases c:L<t.length
    ·rw[U c,Y3 (by simp)]
    ·rw[Y3 (by simp;omega)])
  rw[this,Y4 (Qck fun _ _=>rfl)]
 rw[key,Qa,Y1];have J:decide ((L:Int)<((t.length:Nat):Int))=decide (L<t.length):=YG.2 (by omega);rw[Qd (fun c=>by simp only[Y6] at c;omega),Qd (fun c=>by simp only[Y2,Y6] at c;omega),J,XM]
 by_cases c:(decide (L<t.length)&&((t.getD L default).Addr==e.Addr&&(t.getD L default).Len==e.Len))=true
 ·rw[Y4 c,Y4 c,QvU h,Qa];simp only[Y2,Y6] at c;rw[Qd (by omega)]
 ·rw[Y3 c,Y3 c,Qd (by omega),QvU (by simp;omega),Qa,Qd (by simp;omega),Qd (by omega),Qd (by simp[QX];omega)];have e1:(t.take (L+QbP ((t.length:Nat):Int) (L:Int))).drop L=t.drop L:=by
   rw[Xz (by simp[QX];omega)]
  rw[e1]
theorem QBg {t:List QCg} (h:t.length<=1048576) (ho:Ord idE t) (e:QCg):QdJ t e=some (if QnV idE t e=true then(posK idE t e:Int) else-1):=by
 unfold QdJ;rw[Z8 t.length (fun i=>(t.getD i default).Addr==e.Addr&&(t.getD i default).Len==e.Len) (fun i=>Sum.inl (i:Int)) (.inr ()) (fun i hi=>?_) (by rw[Y3 (by simp)]),Qa]
 ·cases O:Zi (fun i=>(t.getD i default).Addr==e.Addr&&(t.getD i default).Len==e.Len) t.length with
  |some i=>
   have⟨J,I,_⟩:=Z5 O;simp only[Y2,YD] at I;have⟨p1,U⟩:=QrI ho J I;rw[U,Y4 rfl,<-p1];rfl
  |none=>
   rw[Y3]
   ·rfl
   ·intro c;have⟨J,I,N⟩:=Qf7.1 c;have:=JV O _ J;have I:(t.getD (posK idE t e) default).Addr=e.Addr:=I;have N:(t.getD (posK idE t e) default).Len=e.Len:=N;rw[I,N] at this;simp at this
 ·rw[Y4 (by simp;omega),Qd (by omega),Qd (fun _=>by omega),Y1,Qf hi (by omega)];split<;>rfl
theorem QAc {t:List QCg} (h:t.length<=1048576) (ho:Ord idE t) {e:QCg} (I:0<=e.Len∧e.Len<=16∧0<=e.Addr∧e.Addr<=65535):Qa3 t ⟨e.Addr,e.Len⟩=some ((posK idE t e:Int),QnV idE t e):=by
 have w3:=Qo7 (f:=idE) t e;have w1:=fun k=>QrH (f:=idE) (t:=t) (e:=e) (k:=k);have w2:=fun k=>QvT ho (e:=e) (k:=k);have J:∀k,k<t.length->Qam (t.getD k default) ⟨e.Addr,e.Len⟩=some (cmpV (t.getD k default).Addr (t.getD k default).Len e.Addr e.Len):=fun k hk=>by
  unfold Qam;have:=ho.rng _ (Q0 hk);rw[QfC,Qa,QBe (by exact this) I,Qa]
 have N:∀k,k<t.length->(cmpV (t.getD k default).Addr (t.getD k default).Len e.Addr e.Len<0↔Qc8 (t.getD k default) e=true):=fun k hk=>by
  have:=ho.rng _ (Q0 hk);rw[QsL (a:=t.getD k default) (b:=e) ⟨this.1,this.2.1⟩ ⟨I.1,I.2.1⟩,Qqm ⟨this.1,this.2.1⟩ ⟨I.1,I.2.1⟩]
 have key:Post (Qq t ⟨e.Addr,e.Len⟩) fun x=>x=((posK idE t e:Int),QnV idE t e):=by
  have hh:QnV idE t e=(decide (posK idE t e<t.length)&&((t.getD (posK idE t e) default).Addr==e.Addr&&(t.getD (posK idE t e) default).Len==e.Len)):=rfl;rw[hh];unfold Qq;generalize posK idE t e=L at*;refine .bd (Q:=fun x=>x=(L:Int)) (.lp (fun s=>0<=s.2∧s.2<=(L:Int)∧(L:Int)<=s.1∧s.1<=(t.length:Int)) (fun s=>(s.1-s.2).toNat) ⟨X7 _,by dsimp only;omega,by dsimp only;omega,X7 _⟩ fun s ⟨i1,i2,i3,i4⟩=>?_) fun x hx=>?_
  ·refine .ite (fun c=>?_) fun c=>.ret ?_
   ·simp only[Y6] at c;rw[QBf (by omega) (by omega)];refine .gd (by decide) (.gd ⟨by omega,by omega⟩ ?_);have hm:((s.2+s.1)/2).toNat<t.length:=by omega
    rw[J _ hm,Qa,Ql (n:=(s.2+s.1)/2+1) (by omega) (by omega)];refine .ite (fun O=>?_) fun O=>?_
    ·simp only[Y6] at O;have c3:=(N _ hm).1 O;refine .ret ⟨⟨by dsimp only;omega,?_,by dsimp only;omega,i4⟩,by dsimp only;omega⟩;dsimp only;refine Int.not_lt.1 fun Y=>?_;have:Qc8 (t.getD ((s.2+s.1)/2).toNat default) e=false:=w2 ((s.2+s.1)/2).toNat (by omega) (by omega);rw[this] at c3;cases c3
    ·simp only[Y6] at O;refine .ret ⟨⟨i1,i2,?_,by dsimp only;omega⟩,by dsimp only;omega⟩;dsimp only;exact Int.not_lt.1 fun Y=>O ((N _ hm).2 (w1 _ (by omega)))
   ·simp only[Y6] at c;show s.2=_;omega
  ·subst hx;refine .gd (fun c=>?_) ?_
   ·simp only[Y6] at c;omega
   ·rw[Y1];have hd:decide ((L:Int)<((t.length:Nat):Int))=decide (L<t.length):=YG.2 (by omega);rw[hd]
    by_cases c:L<t.length
    ·rw[J L c,Yq c,Qs rfl,Qa];refine .ret ?_;have U:=ho.rng _ (Q0 c);have:=QvS (a:=t.getD L default) (b:=e) ⟨U.1,U.2.1⟩ ⟨I.1,I.2.1⟩;rw[QBV ⟨U.1,U.2.1⟩ ⟨I.1,I.2.1⟩] at this;rw[YX];refine⟨rfl,?_⟩;rw[YH];simp only[Yn,Y2,YD];exact this
    ·rw[Yz c,QS (by decide),Qa];exact .ret rfl
 obtain⟨x,ex,rfl⟩:=key;unfold Qa3;refine(congrArg (fun m=>bd m _) ex).trans ?_;rw[Qa]
def QxP (t:List QCg) (i:Nat):Bool:=J9 (t.getD i default)&&(decide (i=0)||Qc8 (t.getD (i-1) default) (t.getD i default))
def QhS (H:List QCh) (i:Nat):Bool:=((decide (i=0)||decide ((H.getD (i-1) default).Peer<(H.getD i default).Peer))&&decide ((H.getD i default).Entries.length<=16))&&Qaz (H.getD i default).Entries.length (QxP (H.getD i default).Entries)
def Qfg (H:List QCh):Bool:=decide (H.length<=3)&&Qaz H.length (QhS H)
theorem QvV {H:List QCh} {i:Nat} (hi:i<H.length) (hl:H.length<=1048576):(((decide ((i:Int)>0))&&(decide (((H.getD ((IntKind.i64.wrap ((i:Int) -1)).toNat) default).Peer)>=((H.getD i default).Peer))))||(decide (((((H.getD i default).Entries).length:Nat):Int)>16)))=!((decide (i=0)||decide ((H.getD (i-1) default).Peer<(H.getD i default).Peer))&&decide ((H.getD i default).Entries.length<=16)):=by
 have I:decide (((((H.getD i default).Entries).length:Nat):Int)>16)=!decide ((H.getD i default).Entries.length<=16):=by rw[<-Y1b,YG];omega
 rw[I]
 by_cases O:0<i
 ·rw[Qa0 hi O (by omega),Y1,Yq (by omega:(i:Int)>0),Yz (by omega:¬i=0)];have N:decide (((H.getD (i-1) default).Peer)>=((H.getD i default).Peer))=!decide ((H.getD (i-1) default).Peer<(H.getD i default).Peer):=by rw[<-Y1b,YG];omega
  rw[N]
  cases decide ((H.getD (i-1) default).Peer<(H.getD i default).Peer)<;>cases decide ((H.getD i default).Entries.length<=16)<;>rfl
 ·have J:i=0:=by omega
  subst J
  cases decide ((H.getD 0 default).Entries.length<=16)<;>rfl
theorem QxQ (H:List QCh):QbD H=some (Qfg H):=by
 unfold QbD Qfg
 by_cases hc:H.length<=3
 ·rw[Y3 (by simp;omega),Yq hc,QbN H.length (QhS H) (.inl ()) (.inr ()) (fun i hi _=>?_) (fun _=>by rw[Y3 (by simp)]),Qa]
  ·cases Qaz H.length (QhS H)<;>rfl
  ·have N:decide ((i:Int)>0)=true->((0:Int)<=IntKind.i64.wrap ((i:Int) -1)∧IntKind.i64.wrap ((i:Int) -1)<((H.length:Nat):Int)):=fun q=>by
    have:0<i:=by simpa using q
    rw[Qa0 hi this (by omega)];omega
   rw[Y4 (by simp;omega),Qd (by omega),Qd N,Qd (fun _=>by omega),Y1,QvV hi (by omega),Qf hi (by omega)];unfold QhS
   cases J:(decide (i=0)||decide ((H.getD (i-1) default).Peer<(H.getD i default).Peer))&&decide ((H.getD i default).Entries.length<=16)
   ·rfl
   ·rw[Y3 (by decide)];have hl:(H.getD i default).Entries.length<=16:=by
     simp only[Y2,Y6] at J;exact J.2
    generalize (H.getD i default).Entries=t at hl|-;rw[QbN t.length (QxP t) (.inl ()) (.inr ()) (fun k I _=>?_) (fun _=>by rw[Y3 (by simp)]),Qa,Yn]
    ·cases Qaz t.length (QxP t)<;>rfl
    ·rw[Y4 (by simp;omega),Qd (by omega),Y1,QxM,Qa];unfold QxP
     by_cases U:0<k
     ·rw[Qa0 I U (by omega),Qd (fun _ _=>by omega),Qd (fun _ _=>by omega),Y1,QrG,Qjc,Qa,Qf I (by omega)];have e1:decide ((k:Int)>0)=true:=by simp;omega
      have Y:decide (k=0)=false:=by simp;omega
      rw[e1,Y]
      cases J9 (t.getD k default)
      ·rfl
      ·cases Qc8 (t.getD (k-1) default) (t.getD k default)<;>rfl
     ·have O:k=0:=by omega
      subst O;rw[Qd (fun q=>absurd q (by decide)),Qd (fun q=>absurd q (by decide)),Qv,Y3 (fun q=>absurd q.1 (by decide)),Qa,Qf I (by omega)]
      cases J9 (t.getD 0 default)<;>rfl
 ·rw[Y4 (by simp;omega),Yz hc];rfl
theorem QxR {H:List QCh} (hl0:H.length<=1048576):Qdx H=some (Qfg H):=by
 unfold Qdx Qfg;rw[QbN H.length (QhS H) (.inl ()) (.inr ()) (fun i hi _=>?_) (fun _=>by rw[Y3 (by simp)]),Qa]
 ·cases Qaz H.length (QhS H)
  ·rw[Y3 (by decide),XO]
  ·rw[Y4 rfl,YT];show some _=some _
   congr 1
   exact YG.2 (by omega)
 ·have N:decide ((i:Int)>0)=true->((0:Int)<=IntKind.i64.wrap ((i:Int) -1)∧IntKind.i64.wrap ((i:Int) -1)<((H.length:Nat):Int)):=fun q=>by
   have:0<i:=by simpa using q
   rw[Qa0 hi this (by omega)];omega
  rw[Y4 (by simp;omega),Qd (by omega),Qd N,Y1,QvV hi (by omega),Qf hi (by omega)];unfold QhS
  cases I:(decide (i=0)||decide ((H.getD (i-1) default).Peer<(H.getD i default).Peer))&&decide ((H.getD i default).Entries.length<=16)
  ·rfl
  ·rw[Y3 (by decide)];have hl:(H.getD i default).Entries.length<=16:=by
    simp only[Y2,Y6] at I;exact I.2
   generalize (H.getD i default).Entries=t at hl|-;rw[QbN t.length (QxP t) (.inl ()) (.inr ()) (fun k J hp=>?_) (fun _=>by rw[Y3 (by simp)]),Qa,Yn]
   ·cases Qaz t.length (QxP t)<;>rfl
   ·rw[Y4 (by simp;omega),Qd (by omega),Y1,QxN,Qa]
    by_cases h0:0<k
    ·have I:=hp (k-1) (by omega);unfold QxP at I|-;simp only[Y2] at I;rw[Qa0 J h0 (by omega),Qd (fun _ _=>by omega),Y1,QfC,QfC,Qf J (by omega)];have e1:decide ((k:Int)>0)=true:=by simp;omega
     have O:decide (k=0)=false:=by simp;omega
     rw[e1,O]
     cases Y:J9 (t.getD k default)
     ·simp[Qv]
     ·have ha:=QiA I.1;have hb:=QiA Y;have hl:=Qqm (a:=t.getD (k-1) default) (b:=t.getD k default) (by omega) (by omega);have hc:=QsL (a:=t.getD (k-1) default) (b:=t.getD k default) (by omega) (by omega);rw[Qv,Y4 ⟨rfl,rfl⟩,Qa,Qv,Y4 ⟨rfl,rfl⟩,Qa,Qv,Y4 ⟨rfl,rfl⟩,QBe ha hb,Qa];generalize cmpV (t.getD (k-1) default).Addr (t.getD (k-1) default).Len (t.getD k default).Addr (t.getD k default).Len=z at*
      by_cases c:pk (t.getD (k-1) default)<pk (t.getD k default)
      ·rw[hl.2 c,Y3 (by have:=hc.2 c;simp;omega)];rfl
      ·rw[YR.2 (fun q=>c (hl.1 q)),Y4 (by have:=fun q=>c (hc.1 q);simp;omega)];rfl
    ·have U:k=0:=by omega
     subst U;unfold QxP;rw[Qd (fun q=>absurd q (by decide)),Qv,Y3 (fun q=>absurd q.1 (by decide)),Qa,Qv,Y3 (fun q=>absurd q.1 (by decide)),Qa,Qv,Y3 (fun q=>absurd q.1 (by decide)),Qa,Qf J (by omega)]
     cases J9 (t.getD 0 default)<;>rfl
structure Hd (H:List QCh):Prop where
 few:H.length≤3
 rise:H.Pairwise fun x y=>x.Peer<y.Peer
 ents:∀h∈H,h.Entries.length≤16∧Ord idE h.Entries∧∀e∈h.Entries,J9 e=true
theorem Qo8 {H:List QCh} (h:Qfg H=true):Hd H:=by
 unfold Qfg at h;simp only[Y2,Y6] at h;have N:∀i,i<H.length->QhS H i=true:=fun i hi=>Qjb h.2 hi;refine⟨h.1,?_,fun x U=>?_⟩
 ·rw[X9];intro k i Y hi J;have l:=QAT (r:=fun x y:QCh=>decide (x.Peer<y.Peer)) (fun h k=>by simp only[Y6] at*;omega) (f:=fun i=>H.getD i default) (n:=H.length) (fun i h0 hi=>by
   have:=N i hi;unfold QhS at this;simp only[Y2,Yr,Y6] at this;rcases this.1.1 with c|c
   ·omega
   ·exact Yq c) i hi k J
  rw[Y0,Y0,Y5 Y,Y5 hi] at l;simpa using l
 ·obtain⟨i,hi,rfl⟩:=Qjn U;have:=N i hi;unfold QhS at this;simp only[Y2,Y6] at this;have⟨⟨_,h1⟩,h2⟩:=this;generalize (H.getD i default).Entries=t at h1 h2;have O:∀i,i<t.length->J9 (t.getD i default)=true∧(i=0∨Qc8 (t.getD (i-1) default) (t.getD i default)=true):=fun i hi=>by
   have:=Qjb h2 hi;simp only[QxP,Y2,Yr,Y6] at this;exact this
  have I:∀e∈t,J9 e=true:=fun e he=>by
   obtain⟨i,hi,rfl⟩:=Qjn he;exact(O i hi).1
  refine⟨h1,⟨X9.2 fun k i Y hi J=>?_,fun x U=>QiA (I x U)⟩,I⟩;have l:=QAT (r:=fun x y=>Qc8 x y) (fun h k=>Qmx h k) (f:=fun i=>t.getD i default) (n:=t.length) (fun i h0 hi=>by
   rcases(O i hi).2 with h|h
   ·omega
   ·exact h) i hi k J
  rw[Y0,Y0,Y5 Y,Y5 hi] at l;exact l
section
variable {α:Type} {ks:α→List Int} {q:Nat}
abbrev ltK (ks:α->List Int) (x y:α):Bool:=kLt (ks x) (ks y)
def Up (ks:α->List Int) (l:List α):Prop:=l.Pairwise fun x y=>kLt (ks x) (ks y)=true
theorem QAd (N:∀x,(ks x).length=q):∀ {xs ys:List α},Up ks xs->Up ks ys->(∀x,x∈xs↔x∈ys)->xs=ys
 |[],[],_,_,_=>rfl
 |[],y::s,_,_,h=>by have:=(h y).2 (by simp);simp at this
 |x::r,[],_,_,h=>by have:=(h x).1 (by simp);simp at this
 |x::r,y::s,hx,hy,h=>by
  have⟨h1,h2⟩:=YB.1 hx;have⟨h3,h4⟩:=YB.1 hy;have J:∀z,kLt (ks z) (ks z)=true->False:=fun z I=>by rw[Qj1] at I;cases I
  have e:x=y:=by
   rcases Yi.1 ((h x).1 (by simp)) with e|m
   ·exact e
   ·rcases Yi.1 ((h y).2 (by simp)) with e|m2
    ·exact e.symm
    ·exact(J x (Qfw (by rw[N,N]) (by rw[N,N]) (h1 y m2) (h3 x m))).elim
  subst e;rw[QAd N h2 h4 fun z=>?_]
  constructor
  ·intro I;rcases Yi.1 ((h z).1 (by simp[I])) with e|m
   ·exact(J x (by have:=h1 z I;rwa[e] at this)).elim
   ·exact m
  ·intro I;rcases Yi.1 ((h z).2 (by simp[I])) with e|m
   ·exact(J x (by have:=h3 z I;rwa[e] at this)).elim
   ·exact m
theorem Qqn {l:List α} (h:Up ks l) (p:α->Bool):Up ks (l.filter p):=List.Pairwise.filter p h
def QkQ [Inhabited α] (ks:α->List Int) (out:List α) (v:α):List α:=if(out.takeWhile fun x=>ltK ks x v).length<out.length∧ks (out.getD (out.takeWhile fun x=>ltK ks x v).length default)=ks v then out else QmI (ltK ks) out v
theorem QvW (p:α->Bool):∀(out:List α),out.drop (out.takeWhile p).length=out.dropWhile p
 |[]=>rfl
 |x::r=>by
  rw[YV,Y0b]
  cases p x
  ·rfl
  ·simpa using QvW p r
theorem QvX (p:α->Bool):∀ {out r:List α} {x:α},out.dropWhile p=x::r->p x=false
 |[],_,_,h=>by simp at h
 |y::s,r,x,h=>by
  rw[Y0b] at h
  cases hp:p y with
  |true=>rw[hp] at h;exact QvX p (by simpa using h)
  |false=>
   rw[hp] at h;simp only[Yw,Xi,Y02] at h;rw[<-h.1];exact hp
theorem QyL (p:α->Bool):∀ {out:List α} {x:α},x∈out.takeWhile p->p x=true
 |[],_,h=>by simp at h
 |y::s,x,h=>by
  rw[YV] at h
  cases hp:p y with
  |true=>
   rw[hp] at h;rcases Yi.1 (by simpa using h) with e|m
   ·rw[e];exact hp
   ·exact QyL p m
  |false=>rw[hp] at h;simp at h
theorem QBh [Inhabited α] (I:∀x,(ks x).length=q) (hI:∀x y,ks x=ks y->x=y) {out:List α} (v:α) (h:Up ks out):Up ks (QkQ ks out v)∧∀x,x∈QkQ ks out v↔x=v∨x∈out:=by
 unfold QkQ
 by_cases hc:(out.takeWhile fun x=>ltK ks x v).length<out.length∧ks (out.getD (out.takeWhile fun x=>ltK ks x v).length default)=ks v
 ·rw[Y4 hc];refine⟨h,fun x=>⟨.inr,fun O=>O.elim (fun e=>?_) id⟩⟩;rw[e,<-hI _ _ hc.2,Y0,Y5 hc.1,YU];exact Xj _
 ·rw[Y3 hc];refine⟨?_,fun x=>by rw[(QpT (ltK ks) out v).mem_iff,Yi]⟩;have hs:out=out.takeWhile (fun x=>ltK ks x v)++out.dropWhile (fun x=>ltK ks x v):=(Xu).symm;have h0:=h;unfold Up at h;rw[hs,Y07] at h;have hv:∀y∈out.dropWhile (fun x=>ltK ks x v),kLt (ks v) (ks y)=true:=by
   have U:=QvW (fun x=>ltK ks x v) out
   cases Y:out.dropWhile (fun x=>ltK ks x v) with
   |nil=>intro y J;simp at J
   |cons z r=>
    have hz:=QvX _ Y;rw[Y] at U;have hl:(out.takeWhile fun x=>ltK ks x v).length<out.length:=by
     have:=congrArg List.length U;rw[XG,Y8] at this;omega
    have hg:out.getD (out.takeWhile fun x=>ltK ks x v).length default=z:=by
     rw[Y0,Y5 hl,YU];have:=X2 hl;rw[U] at this;exact(List.cons.inj this).1.symm
    have a1:ks z≠ks v:=fun e=>hc ⟨hl,by rw[hg];exact e⟩;have N:kLt (ks v) (ks z)=true:=by
     cases hk:kLt (ks v) (ks z) with
     |true=>rfl
     |false=>exact(a1 (QeK (by rw[I,I]) hz hk)).elim
    intro y J;rcases Yi.1 J with e|m
    ·rw[e];exact N
    ·refine Qfw (by rw[I,I]) (by rw[I,I]) N ?_;have h2:=h.2.1;rw[Y] at h2;exact(YB.1 h2).1 y m
  unfold Up QmI;rw[Y07];refine⟨h.1,YB.2 ⟨hv,h.2.1⟩,fun x O y J=>?_⟩;have a2:kLt (ks x) (ks v)=true:=QyL (fun z=>ltK ks z v) O;rcases Yi.1 J with e|m
  ·rw[e];exact a2
  ·exact h.2.2 x O y m
theorem QvY [Inhabited α] (J:∀x,(ks x).length=q) (I:∀x y,ks x=ks y->x=y):∀(xs out:List α),Up ks out->Up ks (xs.foldl (QkQ ks) out)∧∀x,x∈xs.foldl (QkQ ks) out↔x∈xs∨x∈out
 |[],out,h=>⟨h,fun x=>by simp⟩
 |v::r,out,h=>by
  have⟨h1,h2⟩:=QBh J I v h;have⟨h3,h4⟩:=QvY J I r _ h1;exact⟨h3,fun x=>by rw[Yy,h4,h2,Yi];exact⟨fun a=>a.elim (fun b=>.inl (.inr b)) fun b=>b.elim (fun c=>.inl (.inl c)) .inr,fun a=>a.elim (fun b=>b.elim (fun c=>.inr (.inl c)) .inl) fun b=>.inr (.inr b)⟩⟩
def ddF (eq:α->α->Bool) (x:α):List α->List α
 |[]=>[]
 |y::r=>if eq y x=true then ddF eq x r else y::ddF eq y r
def dd (eq:α->α->Bool):List α->List α
 |[]=>[]
 |x::r=>x::ddF eq x r
theorem QvZ (I:∀x,(ks x).length=q) {eq:α->α->Bool} (O:∀x y,eq x y=true↔ks x=ks y):∀(r:List α) (x:α),(x::r).Pairwise (fun x y=>kLt (ks y) (ks x)=false)->Up ks (x::ddF eq x r)
 |[],x,_=>YB.2 ⟨by simp[ddF],.nil⟩
 |y::r,x,h=>by
  have⟨h1,h2⟩:=YB.1 h;unfold ddF
  by_cases e:eq y x=true
  ·rw[Y4 e];exact QvZ I O r x (YB.2 ⟨fun z N=>h1 z (by simp[N]),(YB.1 h2).2⟩)
  ·rw[Y3 e];have U:=QvZ I O r y h2;refine YB.2 ⟨fun z N=>?_,U⟩;have J:kLt (ks x) (ks y)=true:=by
    cases Y:kLt (ks x) (ks y) with
    |true=>rfl
    |false=>exact(e ((O y x).2 (QeK (by rw[I,I]) (h1 y (by simp)) Y))).elim
   rcases Yi.1 N with e|m
   ·rw[e];exact J
   ·exact Qfw (by rw[I,I]) (by rw[I,I]) J ((YB.1 U).1 z m)
theorem QAe (J:∀x,(ks x).length=q) {eq:α->α->Bool} (I:∀x y,eq x y=true↔ks x=ks y) {xs:List α} (h:xs.Pairwise fun x y=>kLt (ks y) (ks x)=false):Up ks (dd eq xs):=by
 cases xs with
 |nil=>exact .nil
 |cons x r=>exact QvZ J I r x h
theorem QrK {eq:α->α->Bool} (I:∀x y,eq x y=true->x=y):∀(r:List α) (x z:α),z∈x::ddF eq x r↔z∈x::r
 |[],x,z=>Iff.rfl
 |y::r,x,z=>by
  unfold ddF
  by_cases e:eq y x=true
  ·rw[Y4 e,QrK I r x z,I y x e];simp
  ·rw[Y3 e,Yi,QrK I r y z,<-Yi]
theorem QsM {eq:α->α->Bool} (I:∀x y,eq x y=true->x=y) (xs:List α) (z:α):z∈dd eq xs↔z∈xs:=by
 cases xs with
 |nil=>exact Iff.rfl
 |cons x r=>exact QrK I r x z
theorem QxS (lt:α->α->Bool) (n:Nat):∀(out:List α) (v:α),(QmI lt (out.take n) v).take n=(QmI lt out v).take n:=by
 induction n with
 |zero=>intro out v;rw[List.take_zero,List.take_zero]
 |succ n I=>
  intro out v
  cases out with
  |nil=>rfl
  |cons x r=>
   have I:=I r v;unfold QmI at I|-;rw[Xr,YV,Y0b,YV,Y0b]
   cases lt x v with
   |true=>
    simp only[YE];rw[Xq,Xq,Xr,Xr,I]
   |false=>
    simp only[Yw,Xi,YA];rw[Xr,Xr]
    cases n with
    |zero=>rfl
    |succ m=>rw[Xr,Xr,XY,Xa (Nat.le_succ m)]
theorem QxT (lt:α->α->Bool) (n:Nat) (xs:List α):xs.foldl (fun out v=>(QmI lt out v).take n) []=(QaA lt xs).take n:=by
 unfold QaA;have J:∀(xs out:List α),xs.foldl (fun out v=>(QmI lt out v).take n) (out.take n)=(xs.foldl (QmI lt) out).take n:=by
  intro xs
  induction xs with
  |nil=>intro out;rfl
  |cons v r I=>intro out;rw[Yy,Yy,QxS,I]
 have:=J xs [];rwa[List.take_nil] at this
def Qmy (m k:Nat) (xs:List (α×Bool)):Nat×List α:=xs.foldr (fun x s=>if s.1>m∧x.2=true then(s.1-1,s.2) else(s.1,x.1::s.2)) (k,[])
theorem Qv0 (m:Nat) (xs:List (α×Bool)) (i:Nat) (hi:i<=xs.length):∃n rest,Qmy m xs.length (xs.drop i)=(n,rest)∧n=i+rest.length:=by
 generalize hj:xs.length-i=j
 induction j generalizing i with
 |zero=>
  have:i=xs.length:=by omega
  subst this;exact⟨xs.length,[],by rw[Y0e];rfl,by simp⟩
 |succ j I=>
  have⟨n,rest,h1,h2⟩:=I (i+1) (by omega) (by omega);rw[X2 (by omega:i<xs.length)];unfold Qmy at h1|-;rw[Y04,h1]
  by_cases hc:n>m∧(xs[i]'(by omega)).2=true
  ·rw[Y4 hc];exact⟨_,_,rfl,by dsimp only;omega⟩
  ·rw[Y3 hc];exact⟨_,_,rfl,by show n=i+(rest.length+1);omega⟩
def delB (m:Nat) (told:List Bool):Nat->List α->List α
 |0,out=>out
 |i+1,out=>if out.length<=m then out else if told.getD i false=true then delB m told i (out.take i++out.drop (i+1)) else delB m told i out
theorem QsN {m k:Nat} (h:k<=m) (rest:List α):∀xs:List (α×Bool),xs.foldr (fun x s=>if s.1>m∧x.2=true then(s.1-1,s.2) else(s.1,x.1::s.2)) (k,rest)=(k,xs.map (·.1)++rest)
 |[]=>rfl
 |x::r=>by rw[Y04,QsN h rest r,Y3 (by dsimp only;omega)];rfl
theorem Qv1 (m:Nat) (xs:List (α×Bool)):∀(i:Nat) (n:Nat) (rest:List α),i<=xs.length->Qmy m xs.length (xs.drop i)=(n,rest)->n=i+rest.length->delB m (xs.map (·.2)) i ((xs.take i).map (·.1)++rest)=(Qmy m xs.length xs).2
 |0,n,rest,_,h,_=>by rw[XP] at h;rw[h];rfl
 |i+1,n,rest,hi,h,hn=>by
  unfold delB;have hl:((xs.take (i+1)).map (·.1)++rest).length=n:=by rw[Yj,Yb,Ym];omega
  rw[hl]
  by_cases hm:n<=m
  ·rw[Y4 hm];have e:Qmy m xs.length xs=(n,(xs.take (i+1)).map (·.1)++rest):=by
    conv=>lhs;arg 3;rw[<-Y01 (i+1) xs]
    unfold Qmy at h|-;rw[List.foldr_append,h,QsN hm]
   rw[e]
  ·rw[Y3 hm];have O:i<xs.length:=hi;have et:xs.take (i+1)=xs.take i++[xs[i]]:=by rw[List.take_add_one,Y5 O];rfl
   have U:(xs.map (·.2)).getD i false=xs[i].2:=by rw[Y0,Yu,Y5 O];rfl
   have N:((xs.take i).map (·.1)).length=i:=by rw[Yb,Ym];omega
   have J:Qmy m xs.length (xs.drop i)=if n>m∧xs[i].2=true then(n-1,rest) else(n,xs[i].1::rest):=by
    rw[X2 O];unfold Qmy at h|-;rw[Y04,h]
   rw[U]
   by_cases I:xs[i].2=true
   ·rw[Y4 I];rw[Y4 ⟨by omega,I⟩] at J;have:((xs.take (i+1)).map (·.1)++rest).take i++((xs.take (i+1)).map (·.1)++rest).drop (i+1)=(xs.take i).map (·.1)++rest:=by
     rw[et,Y0i,X5,List.take_append_of_le_length (Nat.le_of_eq N.symm),Xz (Nat.le_of_eq N),List.drop_append,N,List.drop_eq_nil_of_le (by rw[N];omega)];simp
    rw[this];exact Qv1 m xs i _ _ (by omega) J (by omega)
   ·rw[Y3 I];rw[Y3 (fun c=>I c.2)] at J;have:(xs.take (i+1)).map (·.1)++rest=(xs.take i).map (·.1)++(xs[i].1::rest):=by rw[et,Y0i,X5];rfl
    rw[this];exact Qv1 m xs i _ _ (by omega) J (by rw[Y8];omega)
theorem QxU (m:Nat) (xs:List (α×Bool)):delB m (xs.map (·.2)) xs.length (xs.map (·.1))=(Qmy m xs.length xs).2:=by
 have:=Qv1 m xs xs.length xs.length [] (Yh _) (by rw[Y0e];rfl) rfl;rwa[X4,Xp] at this
def leastC (top:Int) (xs:List (Int×α)):Int:=xs.foldl (fun c x=>if 0<x.1∧x.1<c then x.1 else c) top
theorem Qt8 (top:Int) (xs:List (Int×α)) (x:Int×α):leastC top (xs++[x])=if 0<x.1∧x.1<leastC top xs then x.1 else leastC top xs:=by
 unfold leastC;rw[Y09];rfl
theorem Qlf (top:Int) (xs:List (Int×α)):leastC top xs<=top∧∀x∈xs,0<x.1->leastC top xs<=x.1:=by
 have N:∀(xs:List (Int×α)) (c:Int),xs.foldl (fun c x=>if 0<x.1∧x.1<c then x.1 else c) c<=c∧∀x∈xs,0<x.1->xs.foldl (fun c x=>if 0<x.1∧x.1<c then x.1 else c) c<=x.1:=by
  intro xs
  induction xs with
  |nil=>intro c;exact⟨X7 _,by simp⟩
  |cons y r J=>
   intro c;rw[Yy];have⟨h1,h2⟩:=J (if 0<y.1∧y.1<c then y.1 else c)
   by_cases hc:0<y.1∧y.1<c
   ·rw[Y4 hc] at h1 h2|-;refine⟨by omega,fun x I hp=>?_⟩;rcases Yi.1 I with e|m
    ·subst e;exact h1
    ·exact h2 x m hp
   ·rw[Y3 hc] at h1 h2|-;refine⟨h1,fun x I hp=>?_⟩;rcases Yi.1 I with e|m
    ·subst e;omega
    ·exact h2 x m hp
 exact N xs top
theorem Qqo (top:Int) (xs:List (Int×α)) (h:leastC top xs<top):∃x∈xs,x.1=leastC top xs∧0<x.1:=by
 have N:∀(xs:List (Int×α)) (c:Int),xs.foldl (fun c x=>if 0<x.1∧x.1<c then x.1 else c) c<c->∃x∈xs,x.1=xs.foldl (fun c x=>if 0<x.1∧x.1<c then x.1 else c) c∧0<x.1:=by
  intro xs
  induction xs with
  |nil=>intro c h;exact(Int.lt_irrefl _ h).elim
  |cons y r J=>
   intro c h;rw[Yy] at h|-
   by_cases hc:r.foldl (fun c x=>if 0<x.1∧x.1<c then x.1 else c) (if 0<y.1∧y.1<c then y.1 else c)<(if 0<y.1∧y.1<c then y.1 else c)
   ·have⟨x,O,e⟩:=J _ hc;exact⟨x,by simp[O],e⟩
   ·have hle:r.foldl (fun c x=>if 0<x.1∧x.1<c then x.1 else c) (if 0<y.1∧y.1<c then y.1 else c)<=(if 0<y.1∧y.1<c then y.1 else c):=(Qlf (if 0<y.1∧y.1<c then y.1 else c) r).1;have U:r.foldl (fun c x=>if 0<x.1∧x.1<c then x.1 else c) (if 0<y.1∧y.1<c then y.1 else c)=(if 0<y.1∧y.1<c then y.1 else c):=by omega
    rw[U] at h|-
    by_cases I:0<y.1∧y.1<c
    ·rw[Y4 I];exact⟨y,by simp,rfl,I.1⟩
    ·rw[Y3 I] at h;exact(Int.lt_irrefl _ h).elim
 exact N xs top h
def QrL (top:Int) (xs:List (Int×α)):Int×List α:=xs.foldl (fun s x=>if 0<x.1∧x.1<=s.1 then(x.1,(if x.1<s.1 then [] else s.2)++[x.2]) else s) (top,[])
theorem QyM (top:Int) (xs:List (Int×α)) (h:∀x∈xs,x.1<top):QrL top xs=(leastC top xs,(xs.filter fun x=>decide (0<x.1)&&decide (x.1=leastC top xs)).map (·.2)):=by
 have O:∀(r done:List (Int×α)),(∀x∈done++r,x.1<top)->r.foldl (fun s x=>if 0<x.1∧x.1<=s.1 then(x.1,(if x.1<s.1 then [] else s.2)++[x.2]) else s) (leastC top done,(done.filter fun x=>decide (0<x.1)&&decide (x.1=leastC top done)).map (·.2))=(leastC top (done++r),((done++r).filter fun x=>decide (0<x.1)&&decide (x.1=leastC top (done++r))).map (·.2)):=by
  intro r
  induction r with
  |nil=>intro done _;rw[Xp];rfl
  |cons x r N=>
   intro done J;rw[Yy];have:=N (done++[x]) (by simpa using J);rw[X5,List.singleton_append] at this;rw[<-this]
   congr 1
   rw[Qt8];have⟨h1,h2⟩:=Qlf top done;dsimp only
   by_cases hp:0<x.1
   ·by_cases hl:x.1<leastC top done
    ·rw[Y4 ⟨hp,by omega⟩,Y4 hl,Y4 ⟨hp,hl⟩,Xy,List.filter_eq_nil_iff.2,XI (by simp[hp])]
     ·rfl
     ·intro y U hc;simp only[Y2,Y6] at hc;have:=h2 y U hc.1;omega
    ·by_cases I:x.1=leastC top done
     ·rw[Y4 ⟨hp,by omega⟩,Y3 hl,Y3 (fun c=>hl c.2),Xy,XI (by simp only[Y2,Y6];exact⟨hp,I⟩),Y0i,I]
      rfl
     ·rw[Y3 (by omega),Y3 (fun c=>hl c.2),Xy,XJ (by simp[I]),List.filter_nil,Xp]
   ·rw[Y3 (by omega),Y3 (by omega),Xy,XJ (by simp[hp]),List.filter_nil,Xp]
 exact O xs [] (by simpa using h)
theorem QrM [Inhabited α] (I:∀x,(ks x).length=q) (O:∀x y,ks x=ks y->x=y) {eq:α->α->Bool} (N:∀x y,eq x y=true↔x=y) {A B:List α} {ok:α->Bool} (h:∀x,x∈A↔x∈B∧ok x=true):dd eq (QaA (fun x y=>kLt (ks x) (ks y)) A)=(B.foldl (QkQ ks) []).filter ok:=by
 have J:∀x y,eq x y=true↔ks x=ks y:=fun x y=>(N x y).trans ⟨fun e=>by rw[e],O x y⟩;have⟨h1,h2⟩:=QvY I O B [] .nil;refine QAd I (QAe I J (QdQ (QgS I) A)) (Qqn h1 ok) fun x=>?_;rw[QsM (fun x y e=>(N x y).1 e),(JO _ A).mem_iff,h,Yp,h2];simp
end
def Qjo (p:QCj) (a:Int):Bool:=decide (p.Addr<=a)&&decide (a<p.Addr+QbQ p.Len)
theorem QBi {p:QCj} (h:QbO p.Addr p.Len=true) (a:Int):Q7 p a=some (Qjo p a):=by
 have⟨h1,h2,h3,h4⟩:=QdU h;have hs:=Qkd h1;have hp:=Qf6 p.Len;unfold Q7 Qal;rw[QyK h1 h2,Qa,Ql (n:=p.Addr+QbQ p.Len) (by omega) (by omega),Ql (by omega) (by omega),Qa,Qhh,Qa];unfold inR Qjo;rw[show decide (a<=p.Addr+QbQ p.Len-1)=decide (a<p.Addr+QbQ p.Len) from YG.2 (by omega)]
theorem QBj {p:QCj} (h:QbO p.Addr p.Len=true) (a:Int):QeW p a=some (Qjo p a):=by
 have⟨h1,h2,h3,h4⟩:=QdU h;have hs:=Qkd h1;have hp:=Qf6 p.Len;unfold QeW;rw[show QcV p.Len=some (QbQ p.Len) from Qql h1 h2];unfold Qjo
 cases hd:decide (a>=p.Addr)
 ·rw[QS (by decide),Qa,Yv,Yv]
 ·rw[Qs rfl,Qa,Yn,Yn,Ql (by omega) (by omega)]
def QbR (q:QCn):QCj:=⟨q.Addr,q.Len⟩
def Qpf (Ps:List QCn) (x:Int):Option Nat:=Zi (fun i=>Qjo (QbR (Ps.getD i default)) x) Ps.length
def Qt9 (Ps:List QCn) (x:Int):Int:=((Qpf Ps x).map fun i=>(Ps.getD i default).Port).getD (-1)
structure PtsOk (Ps:List QCn):Prop where
 few:Ps.length≤8
 ok:∀q∈Ps,QbO q.Addr q.Len=true
 no:∀q∈Ps,0≤q.Port∧q.Port≤7
theorem QrN {Ps:List QCn} (h:PtsOk Ps) (x:Int):QcS Ps x=some (Qt9 Ps x):=by
 have hf:=h.few;unfold QcS;rw[Z8 Ps.length (fun i=>Qjo (QbR (Ps.getD i default)) x) (fun i=>.inl ((Ps.getD i default).Port)) (.inr ()) (fun i hi=>?_) (by rw[Y3 (by simp)]),Qa]
 ·unfold Qt9 Qpf
  cases Zi (fun i=>Qjo (QbR (Ps.getD i default)) x) Ps.length<;>rfl
 ·rw[Y4 (by simp;omega),Qd (by omega),Y1,QBi (h.ok _ (Q0 hi)),Qa,Qf hi (by omega)];unfold QbR
  cases Qjo (⟨(Ps.getD i default).Addr,(Ps.getD i default).Len⟩:QCj) x<;>rfl
theorem Qv2 {Ps:List QCn} (h:PtsOk Ps) (x:Int):QbZ Ps x=some (((Qpf Ps x).map fun(i:Nat)=>(i:Int)).getD (-1)):=by
 have hf:=h.few;unfold QbZ;rw[Z8 Ps.length (fun i=>Qjo (QbR (Ps.getD i default)) x) (fun i=>.inl (i:Int)) (.inr ()) (fun i hi=>?_) (by rw[Y3 (by simp)]),Qa]
 ·unfold Qpf
  cases Zi (fun i=>Qjo (QbR (Ps.getD i default)) x) Ps.length<;>rfl
 ·rw[Y4 (by simp;omega),Qd (by omega),Qd (by omega),Y1,QBj (h.ok _ (Q0 hi)),Qa,Qf hi (by omega)];unfold QbR
  cases Qjo (⟨(Ps.getD i default).Addr,(Ps.getD i default).Len⟩:QCj) x<;>rfl
theorem QnW {Ps:List QCn} (h:PtsOk Ps) (x:Int):-1<=Qt9 Ps x∧Qt9 Ps x<=7:=by
 unfold Qt9 Qpf
 cases I:Zi (fun i=>Qjo (QbR (Ps.getD i default)) x) Ps.length with
 |none=>show(-1:Int)<=-1∧(-1:Int)<=7;decide
 |some i=>
  have:=h.no _ (Q0 (Z5 I).1);show-1<=(Ps.getD i default).Port∧(Ps.getD i default).Port<=7;omega
def Qet (h:QCk):List Int:=[h.Next,h.Port]
def mtQ (p:QCj) (q:QCn):Bool:=q.Addr==p.Addr&&q.Len==p.Len
def mtV (p:QCj) (v:QCo):Bool:=v.Addr==p.Addr&&v.Len==p.Len
def Qaa (Ps:List QCn) (p:QCj):List QCk:=((Zi (fun i=>mtQ p (Ps.getD i default)) Ps.length).map fun i=>[⟨0,(Ps.getD i default).Port⟩]).getD []
def Qfh (Ps:List QCn) (V:List QCo) (p:QCj):List QCk:=(V.filter (mtV p)).map fun v=>⟨v.Next,Qt9 Ps v.Next⟩
def Qpg (p:QCj):QCg:=⟨p.Addr,p.Len,0,0⟩
def costV (h:QCh) (p:QCj):Int:=if QnV idE h.Entries (Qpg p)=true then(h.Entries.getD (posK idE h.Entries (Qpg p)) default).Cost else 0
def Qjw (Ps:List QCn) (h:QCh):QCk:=⟨h.Peer,Qt9 Ps h.Peer⟩
def Qcp (Ps:List QCn) (G:List QCh) (p:QCj):List QCk:=(QrL 256 (G.map fun h=>(costV h p,Qjw Ps h))).2
theorem Qv3 {Ps:List QCn} (h:PtsOk Ps) (V:List QCo) (G:List QCh) (p:QCj):QaG ⟨Ps,V,G⟩ p=some (Qaa Ps p):=by
 have hf:=h.few;unfold QaG;dsimp only;rw[Z8 Ps.length (fun i=>mtQ p (Ps.getD i default)) (fun i=>.inl (([(⟨0,(Ps.getD i default).Port⟩:QCk)]:List QCk).length,([(⟨0,(Ps.getD i default).Port⟩:QCk)]:List QCk))) (.inr ()) (fun i hi=>?_) (by rw[Y3 (by simp)]),Qa]
 ·unfold Qaa
  cases Zi (fun i=>mtQ p (Ps.getD i default)) Ps.length<;>rfl
 ·rw[Y4 (by simp;omega),Qd (by omega),Y1,Qf hi (by omega)];unfold mtQ;rw[YT]
  cases (Ps.getD i default).Addr==p.Addr&&(Ps.getD i default).Len==p.Len<;>rfl
theorem Qv4 {Ps:List QCn} (h:PtsOk Ps) {V:List QCo} (hV:V.length<=100000) (G:List QCh) (p:QCj):Jy ⟨Ps,V,G⟩ p=some (Qfh Ps V p):=by
 unfold Jy;dsimp only;rw[Qrr V (mtV p) (fun v=>(⟨v.Next,Qt9 Ps v.Next⟩:QCk)) (fun a=>(a.length,a)) (fun i a hi ha=>?_) (fun a _=>by rw[Y3 (by simp)]),Qa]
 ·rfl
 ·rw[Y4 (by simp;omega),Qd (by dsimp only;omega),Y1,Qf hi (by omega)];dsimp only;unfold mtV;rw[YT]
  by_cases c:((V.getD i default).Addr==p.Addr&&(V.getD i default).Len==p.Len)=true
  ·rw[Y4 c,Y4 c,QrN h,Qa,Qd (by simp only[Y8,Yd];omega)]
  ·rw[Y3 c,Y3 c]
structure GOk (G:List QCh):Prop where
 few:G.length≤3
 ents:∀h∈G,h.Entries.length≤16∧Ord idE h.Entries∧∀e∈h.Entries,J9 e=true
theorem QrO {h:QCh} (ho:h.Entries.length<=16∧Ord idE h.Entries∧∀e∈h.Entries,J9 e=true) {p:QCj} (J:QnV idE h.Entries (Qpg p)=true):posK idE h.Entries (Qpg p)<h.Entries.length∧costV h p=(h.Entries.getD (posK idE h.Entries (Qpg p)) default).Cost∧1<=costV h p∧costV h p<=255:=by
 have I:=(Qf7.1 J).1;have e:costV h p=(h.Entries.getD (posK idE h.Entries (Qpg p)) default).Cost:=by unfold costV;rw[Y4 J]
 have:=ho.2.2 _ (Q0 I);unfold J9 at this;simp only[Y2,QeO] at this;exact⟨I,e,by omega,by omega⟩
theorem QnX {h:QCh} (ho:h.Entries.length<=16∧Ord idE h.Entries∧∀e∈h.Entries,J9 e=true) (p:QCj):0<=costV h p∧costV h p<=255:=by
 cases I:QnV idE h.Entries (Qpg p) with
 |true=>have:=QrO ho I;omega
 |false=>unfold costV;rw[I,Y3 (by decide)];decide
theorem Qv5 {Ps:List QCn} (h:PtsOk Ps) (V:List QCo) {G:List QCh} (Y:GOk G) {p:QCj} (hp:QbO p.Addr p.Len=true):Jz ⟨Ps,V,G⟩ p=some (Qcp Ps G p):=by
 have hf:=Y.few;have hr:=QdU hp;have J:∀x∈G,Qa3 x.Entries p=some ((posK idE x.Entries (Qpg p):Int),QnV idE x.Entries (Qpg p)):=fun x N=>by
  have:=Y.ents x N;exact QAc (e:=Qpg p) (by omega) this.2.1 hr
 unfold Jz;dsimp only;refine(Qj4 (fun(a:Int×List QCk) i=>(a.2,(i:Int),a.1)) G.length (fun s i=>if 0<costV (G.getD i default) p∧costV (G.getD i default) p<=s.1 then(costV (G.getD i default) p,(if costV (G.getD i default) p<s.1 then [] else s.2)++[Qjw Ps (G.getD i default)]) else s) (fun a=>(a.2.length,a.2)) (256,[]) (fun i a=>a.2.length<=i) rfl (Yh _) (fun i a hi ha=>?_) (fun i a hi ha=>?_) (fun a _=>by rw[Y3 (by simp)])).trans ?_
 ·split
  ·dsimp only;split<;>simp<;>omega
  ·omega
 ·have N:=Q0 hi;have hE:=Y.ents _ N;dsimp only;rw[Y4 (by simp;omega),Qd (by omega),Y1,J _ N,Qa,Qf hi (by omega)];dsimp only
  cases hk:QnV idE (G.getD i default).Entries (Qpg p) with
  |false=>
   have hc:costV (G.getD i default) p=0:=by unfold costV;rw[hk,Y3 (by decide)]
   rw[Qd (fun q=>absurd q (by decide)),Y4 (by simp),Y3 (show ¬(0<costV (G.getD i default) p∧costV (G.getD i default) p<=a.1) by rw[hc];omega)]
  |true=>
   have⟨hlt,O,h1,h2⟩:=QrO hE hk;rw[Qd (fun _=>by omega),Y1,<-O];generalize costV (G.getD i default) p=c at*
   by_cases U:c<=a.1
   ·rw[Y3 (by simp;omega),Qd (by omega),Y4 (show 0<c∧c<=a.1 from⟨by omega,U⟩)]
    by_cases I:c<a.1
    ·rw[Y4 (by simpa using I),Qd (by omega),Qa,QrN h,Qa,Y4 I,Qd (by simp only[Y8,Yd];omega)]
     rfl
    ·rw[Y3 (by simpa using I),Qa,QrN h,Qa,Y3 I,Qd (by simp only[Y8,Yd];omega)];have:c=a.1:=by omega
     subst this
     rfl
   ·rw[Y4 (by simp;omega),Y3 (show ¬(0<c∧c<=a.1) by omega)]
 ·unfold Qcp QrL;rw[List.foldl_map,<-JW G]
def QsO (v:QCo):QCj:=⟨v.Addr,v.Len⟩
def QqD (e:QCg):QCj:=⟨e.Addr,e.Len⟩
def Qeu (p:QCj):List Int:=[p.Addr,p.Len]
def QhT (Ps:List QCn) (V:List QCo) (G:List QCh):List QCj:=Ps.map QbR++V.map QsO++G.flatMap fun h=>h.Entries.map QqD
def preEq (p q:QCj):Bool:=p.Addr==q.Addr&&(p.Len==q.Len&&true)
theorem QeP (p q:QCj):preEq p q=true↔p=q:=by
 cases p;cases q
 simp[preEq]
theorem Qjp (p q:QCj) (h:Qeu p=Qeu q):p=q:=by
 cases p;cases q
 simpa[Qeu] using h
def Qv6 {α:Type} (x:α):List α->α
 |[]=>x
 |y::r=>Qv6 y r
theorem Qo9 {α:Type} {eq:α->α->Bool} (I:∀x y,eq x y=true↔x=y) (b:α):∀(r:List α) (x:α),ddF eq x (r++[b])=if eq b (Qv6 x r)=true then ddF eq x r else ddF eq x r++[b]
 |[],x=>rfl
 |y::r,x=>by
  show(if eq y x=true then ddF eq x (r++[b]) else y::ddF eq y (r++[b]))=if eq b (Qv6 y r)=true then(if eq y x=true then ddF eq x r else y::ddF eq y r) else(if eq y x=true then ddF eq x r else y::ddF eq y r)++[b]
  by_cases c:eq y x=true
  ·have:y=x:=(I y x).1 c;subst this;rw[Y4 c,Y4 c,Qo9 I b r y]
  ·rw[Y3 c,Y3 c,Qo9 I b r y];split<;>rfl
theorem Qqp {α:Type} [Inhabited α]:∀(r:List α) (x:α),Qv6 x r=(x::r).getD r.length default
 |[],_=>rfl
 |y::r,x=>by rw[Y8,List.getD_cons_succ];exact Qqp r y
theorem QrP {α:Type} [Inhabited α] {eq:α->α->Bool} (I:∀x y,eq x y=true↔x=y) {xs:List α} {m:Nat} (h0:0<m) (hm:m<xs.length):dd eq (xs.take (m+1))=if eq (xs.getD m default) (xs.getD (m-1) default)=true then dd eq (xs.take m) else dd eq (xs.take m)++[xs.getD m default]:=by
 have e1:xs.take (m+1)=xs.take m++[xs.getD m default]:=by
  rw[List.take_add_one,Y0,Y5 hm];rfl
 rw[e1]
 cases xs with
 |nil=>simp at hm
 |cons x r=>
  obtain⟨k,rfl⟩:∃k,m=k+1:=⟨m-1,by omega⟩;rw[Y8] at hm;have hl:Qv6 x (r.take k)=(x::r).getD (k+1-1) default:=by
   rw[Qqp,show x::r.take k=(x::r).take (k+1) from rfl,Ym,Xa (by omega),Y0,YP,Y4 (by omega),Nat.add_sub_cancel,Y0]
  rw[Xr,Xq];show x::ddF eq x (r.take k++[_])=if _ then x::ddF eq x (r.take k) else x::ddF eq x (r.take k)++[_];rw[Qo9 I,hl];split<;>rfl
theorem QyN {α:Type} {eq:α->α->Bool}:∀xs:List α,(dd eq xs).length<=xs.length
 |[]=>Yh _
 |x::r=>by
  have J:∀(r:List α) (x:α),(ddF eq x r).length<=r.length:=by
   intro r
   induction r with
   |nil=>intro x;exact Yh _
   |cons y r I=>
    intro x;unfold ddF;split
    ·exact Nat.le_succ_of_le (I x)
    ·exact Nat.succ_le_succ (I y)
  exact Nat.succ_le_succ (J r x)
theorem QrQ {α:Type} [Inhabited α] {eq:α->α->Bool} (I:∀x y,eq x y=true↔x=y) {xs:List α}:∀ {m:Nat},0<m->m<=xs.length->(∀k,0<k->k<m->eq (xs.getD k default) (xs.getD (k-1) default)=false)->dd eq (xs.take m)=xs.take m
 |0,h,_,_=>absurd h (by decide)
 |m+1,_,hm,hk=>by
  cases m with
  |zero=>
   cases xs with
   |nil=>rfl
   |cons x r=>rfl
  |succ m=>
   rw[QrP I (by omega) (by omega),Y3 (by rw[hk (m+1) (by omega) (by omega)];decide),QrQ I (by omega) (by omega) fun k J h1=>hk k J (by omega)];rw[List.take_add_one (i:=m+1),Y0,Y5 (by omega)]
   rfl
theorem QBk {xs:List QCj} (hl:xs.length<=1000000):QR xs=some (dd preEq xs):=by
 have he:=QeP
 by_cases h2:xs.length<2
 ·unfold QR;rw[Y4 (by simp;omega)]
  match xs,h2 with
  |[],_=>rfl
  |[x],_=>rfl
  |_::_::_,h=>exact absurd h (by simp)
 ·have key:Post (QR xs) fun y=>y=dd preEq xs:=by
   unfold QR;rw[Y3 (by simp;omega)];refine .bd (Q:=fun y=>(∃w ys l,y=.inl (w,ys,l)∧ys.take w=dd preEq xs)∨(y=.inr ()∧dd preEq xs=xs)) (.lp (fun s=>∃i:Nat,s=(i:Int)∧1<=i∧i<=xs.length∧∀k,0<k->k<i->preEq (xs.getD k default) (xs.getD (k-1) default)=false) (fun s=>(xs.length-s).toNat) ⟨1,rfl,by omega,by omega,fun k h0 h1=>by omega⟩ fun s ⟨i,hs,h1,hi,hk⟩=>?_) fun y I=>by
    rcases I with ⟨w,ys,l,rfl,e⟩|⟨rfl,e⟩
    ·exact .ret e
    ·exact .ret e.symm
   subst hs;refine .ite (fun c=>?_) fun c=>.ret ?_
   ·simp only[Y6] at c;have c:i<xs.length:=by omega
    rw[Qd (by omega),Qa0 c (by omega) (by omega),Qd (by omega),Y1,Y1];refine .ite (fun c2=>?_) fun c2=>.ret ?_
    ·have hI:dd preEq (xs.take (i+1))=xs.take i:=by
      have c2:preEq (xs.getD i default) (xs.getD (i-1) default)=true:=c2;rw[QrP he (by omega) c,Y4 c2,QrQ he (by omega) (by omega) hk]
     have hd:QbP ((xs.length:Nat):Int) (i:Int)=xs.length-i:=by rw[QX];omega
     rw[Qd (by omega),hd];refine .bd (Q:=fun y=>∃(w:Nat) (ys:List QCj),y=(ys.length,(w:Int),ys)∧w<=ys.length∧ys.take w=dd preEq xs) (.lp (fun s=>∃w m:Nat,s.2.1=(w:Int)∧s.2.2=(m:Int)∧1<=m∧i+m<=xs.length∧w+1<=i+m∧s.1.length=xs.length∧s.1=dd preEq (xs.take (i+m))++xs.drop w∧w=(dd preEq (xs.take (i+m))).length) (fun s=>(xs.length-s.2.2).toNat) ⟨i,1,rfl,rfl,by omega,by omega,by omega,rfl,by dsimp only;rw[hI,Y01],by rw[hI,Ym];omega⟩ fun s ⟨w,m,e1,e2,m1,m2,m3,ln,U,N⟩=>?_) fun y hy=>?_
     ·have⟨ys,sw,sm⟩:=s;dsimp only at e1 e2 ln U N|-;subst e1;subst e2;have J:∀j,w<=j->j<xs.length->ys.getD j default=xs.getD j default:=fun j h1 h2=>by
       rw[U,Y0,YZ (by omega),<-N,YQ,show w+(j-w)=j by omega,<-Y0]
      refine .ite (fun c3=>?_) fun c3=>.ret ?_
      ·simp only[Y6] at c3;have hm:i+m<xs.length:=by omega
       rw[Qd (by omega),Qa0 (n:=xs.length) (i:=m) (by omega) (by omega) (by omega),Qd (by omega),Y1,Y1,Qb4,Qb4,Qf (n:=xs.length) (i:=m) (by omega) (by omega)];rw[J (i+m) (by omega) hm,J (i+(m-1)) (by omega) (by omega),show i+(m-1)=i+m-1 by omega];have O:=QrP he (xs:=xs) (m:=i+m) (by omega) hm;refine .ite (fun Y=>?_) fun Y=>.ret ⟨⟨w,m+1,rfl,rfl,by omega,by omega,by omega,ln,?_,?_⟩,by dsimp only;omega⟩
       ·have a1:preEq (xs.getD (i+m) default) (xs.getD (i+m-1) default)=false:=by
         cases I:preEq (xs.getD (i+m) default) (xs.getD (i+m-1) default) with
         |false=>rfl
         |true=>unfold preEq at I;rw[I] at Y;cases Y
        rw[Y3 (by rw[a1];decide)] at O;rw[Qd (by omega),Qd (by omega),Y1,Qf (n:=xs.length) (i:=w) (by omega) (by omega)];refine .ret ⟨⟨w+1,m+1,rfl,rfl,by omega,by omega,by omega,by rw[Y03];exact ln,?_,?_⟩,by dsimp only;omega⟩
        ·dsimp only;rw[show i+(m+1)=i+m+1 by omega,O,U];have hw:w<xs.length:=by omega
         rw[List.set_append_right _ _ (by omega),<-N,Nat.sub_self,X2 hw,List.set_cons_zero,X5]
         rfl
        ·rw[show i+(m+1)=i+m+1 by omega,O,Yj,<-N];rfl
       ·have I:preEq (xs.getD (i+m) default) (xs.getD (i+m-1) default)=true:=by
         unfold preEq;simpa using Y
        rw[Y4 I] at O;dsimp only;rw[show i+(m+1)=i+m+1 by omega,O];exact U
       ·have I:preEq (xs.getD (i+m) default) (xs.getD (i+m-1) default)=true:=by
         unfold preEq;simpa using Y
        rw[Y4 I] at O;rw[show i+(m+1)=i+m+1 by omega,O];exact N
      ·simp only[Y6] at c3;have hm:i+m=xs.length:=by omega
       rw[hm,X4] at U N;refine⟨w,ys,rfl,by omega,?_⟩;rw[U,List.take_left' N.symm]
     ·obtain⟨w,ys,rfl,hw,ht⟩:=hy;dsimp only;rw[Qd (by omega),Qd (by omega),Y1];refine .ret (.inl ⟨w,_,_,rfl,?_⟩);rw[Qp2];exact ht
    ·refine⟨⟨i+1,by rw[Qf c (by omega)],by omega,by omega,fun k h0 h1=>?_⟩,by rw[Qf c (by omega)];omega⟩;rcases YW k i with h|h
     ·exact hk k h0 h
     ·have:k=i:=by omega
      subst this;exact YR.2 c2
   ·simp only[Y6] at c;have:i=xs.length:=by omega
    subst this;refine .inr ⟨rfl,?_⟩;have:=QrQ he (by omega) (Yh _) hk;rwa[X4] at this
  obtain⟨y,hy,rfl⟩:=key;exact hy
theorem Qf8 {Ps:List QCn} {V:List QCo} {G:List QCh} {p:QCj}:p∈QhT Ps V G↔(∃q∈Ps,QbR q=p)∨(∃v∈V,QsO v=p)∨ ∃h∈G,∃e∈h.Entries,QqD e=p:=by
 unfold QhT;simp only[Yx,Yo,List.mem_flatMap,or_assoc]
def RgP (p:QCj):Prop:=0<=p.Addr∧p.Addr<=65535∧0<=p.Len∧p.Len<=16
theorem QiB {G:List QCh} (h:∀x∈G,x.Entries.length<=16):(G.flatMap fun h=>h.Entries.map QqD).length<=16*G.length:=by
 induction G with
 |nil=>simp
 |cons x r J=>
  have h1:=h x (by simp);have h2:=J fun y I=>h y (by simp[I]);rw[List.flatMap_cons,Yj,Yb,Y8];omega
theorem QrR {Ps:List QCn} {V:List QCo} {G:List QCh} (hP:Ps.length<=1000) (hV:V.length<=1000) (I:GOk G) (Y:∀p∈QhT Ps V G,RgP p):JX ⟨Ps,V,G⟩=some (dd preEq (QaA (fun x y=>kLt (Qeu x) (Qeu y)) (QhT Ps V G))):=by
 have hf:=I.few;have hfl:=QiB fun x N=>(I.ents x N).1;unfold JX;dsimp only;rw[Qfe Ps.length (fun i=>QbR (Ps.getD i default)) (fun a=>(a.length,a)) (fun i a hi J=>?_) (fun a _=>by rw[Y3 (by simp)]),Qa]
 ·rw[Qar Ps QbR];dsimp only;rw[Qo3 (Ps.map QbR) V.length (fun i=>QsO (V.getD i default)) (fun a=>(a.length,a)) (fun i a hi J=>?_) (fun a _=>by rw[Y3 (by simp)]),Qa]
  ·rw[Qar V QsO];dsimp only;refine(Qj4 (fun(a:List QCj) i=>(a,(i:Int))) G.length (fun a i=>a++(G.getD i default).Entries.map QqD) (fun a=>(a.length,a)) (Ps.map QbR++V.map QsO) (fun i a=>a.length<=2000+16*i) rfl (by simp only[Yj,Yb];omega) (fun i a hi J=>?_) (fun i a hi J=>?_) (fun a _=>by rw[Y3 (by simp)])).trans ?_
   ·have:=(I.ents _ (Q0 hi)).1;rw[Yj,Yb];omega
   ·have U:=(I.ents _ (Q0 hi)).1;dsimp only;rw[Y4 (by simp;omega),Qd (by omega),Y1];generalize (G.getD i default).Entries=t at U|-;rw[Qo3 a t.length (fun k=>QqD (t.getD k default)) (fun a=>(a.length,a)) (fun k b hk hb=>?_) (fun a _=>by rw[Y3 (by simp)]),Qa,Qar t QqD]
    ·dsimp only;rw[Qf hi (by omega)]
    ·dsimp only;rw[Y4 (by simp;omega),Qd (by omega),Y1,QfC,Qa,Qd (by simp only[Y8,Yd];omega),Qf hk (by omega)]
     rfl
   ·rw[JW G (fun a h=>a++h.Entries.map QqD)];have e:∀(r:List QCh) (a:List QCj),r.foldl (fun a h=>a++h.Entries.map QqD) a=a++r.flatMap fun h=>h.Entries.map QqD:=by
     intro r
     induction r with
     |nil=>intro a;simp
     |cons x r O=>intro a;rw[Yy,O,List.flatMap_cons,X5]
    rw[e];dsimp only;show bd (Qn (QhT Ps V G)) _=_;have hlen:(QhT Ps V G).length<=3000:=by
     unfold QhT;simp only[Yj,Yb];omega
    have hs:Qn (QhT Ps V G)=some (QaA (fun x y=>kLt (Qeu x) (Qeu y)) (QhT Ps V G)):=by
     unfold Qn;rw[Qd (by omega),Qd (fun x N=>by have:=Y x N;unfold RgP at this;omega),Qd (show ∀x∈QhT Ps V G,∀y∈QhT Ps V G,[x.Addr,x.Len]=[y.Addr,y.Len]->x=y from fun x _ y _ h=>Qjp x y h)]
     rfl
    rw[hs,Qa,Qd (by rw[QeJ];rfl),QBk (by rw[QeJ];omega),Qa]
  ·dsimp only;rw[Yb] at J;rw[Y4 (by simp;omega),Qd (by omega),Y1,Qd (by simp only[Y8,Yd];omega),Qf hi (by omega)]
   rfl
 ·dsimp only;rw[Y4 (by simp;omega),Qd (by omega),Y1,Qd (by simp only[Y8,Yd];omega),Qf hi (by omega)]
  rfl
def ZV (Ps:List QCn) (V:List QCo) (p:QCj):List QCk:=if Qaa Ps p=[] then Qfh Ps V p else Qaa Ps p
def Qf9 (Ps:List QCn) (V:List QCo) (G:List QCh) (p:QCj):List QCk:=(QaA (fun x y=>kLt (Qet x) (Qet y)) (if ZV Ps V p=[] then Qcp Ps G p else ZV Ps V p)).take 4
def J5 (Ps:List QCn) (V:List QCo) (G:List QCh) (p:QCj):QCl×Bool:=(⟨p.Addr,p.Len,Qf9 Ps V G p⟩,decide (ZV Ps V p=[]))
def tabL (T:List (QCl×Bool)):List QCl:=(Qmy 16 T.length T).2
theorem Qv7 {step:List QCl×Int->Option ((List QCl×Int)⊕(Nat×List QCl))} {told:List Bool} (h1:∀(i:Nat) (a:List QCl),i<told.length->i+1<=a.length->step (a,(i:Int))=some (if a.length<=16 then .inr (a.length,a) else if told.getD i false=true then .inl (a.take i++a.drop (i+1),(i:Int) -1) else .inl (a,(i:Int) -1))) (h2:∀a,step (a,-1)=some (.inr (a.length,a))):∀(i:Nat) (a:List QCl),i<=told.length->i<=a.length->lp step (a,(i:Int) -1)=some ((delB 16 told i a).length,delB 16 told i a)
 |0,a,_,_=>Zr (h2 a)
 |i+1,a,hi,ha=>by
  rw[show((i+1:Nat):Int) -1=(i:Int) by omega];have hs:=h1 i a (by omega) ha;unfold delB
  by_cases c:a.length<=16
  ·rw[Y4 c] at hs;rw[Y4 c,Zr hs]
  ·rw[Y3 c] at hs;rw[Y3 c]
   by_cases I:told.getD i false=true
   ·rw[Y4 I] at hs;rw[Y4 I,Ji hs,Qv7 h1 h2 i _ (by omega) (by rw[Yj,Ym,XG];omega)]
   ·rw[Y3 I] at hs;rw[Y3 I,Ji hs,Qv7 h1 h2 i _ (by omega) (by omega)]
theorem Qv8 {α:Type} (top:Int) (xs:List (Int×α)):(QrL top xs).2.length<=xs.length:=by
 unfold QrL;have J:∀(r:List (Int×α)) (s:Int×List α),(r.foldl (fun s x=>if 0<x.1∧x.1<=s.1 then(x.1,(if x.1<s.1 then [] else s.2)++[x.2]) else s) s).2.length<=s.2.length+r.length:=by
  intro r
  induction r with
  |nil=>intro s;exact Yh _
  |cons x r I=>
   intro s;rw[Yy,Y8];refine Xl (I _) ?_;split
   ·dsimp only;split<;>simp<;>omega
   ·omega
 have:=J xs (top,[]);simpa using this
theorem Qv9 {α:Type} (top:Int) (xs:List (Int×α)):∀y∈(QrL top xs).2,∃x∈xs,x.2=y:=by
 unfold QrL;have U:∀(r:List (Int×α)) (s:Int×List α),∀y∈(r.foldl (fun s x=>if 0<x.1∧x.1<=s.1 then(x.1,(if x.1<s.1 then [] else s.2)++[x.2]) else s) s).2,y∈s.2∨ ∃x∈r,x.2=y:=by
  intro r
  induction r with
  |nil=>intro s y I;exact .inl I
  |cons x r O=>
   intro s y I;rw[Yy] at I;rcases O _ y I with h|⟨z,N,e⟩
   ·by_cases c:0<x.1∧x.1<=s.1
    ·rw[Y4 c] at h;rcases Yx.1 h with h|h
     ·by_cases J:x.1<s.1
      ·rw[Y4 J] at h;cases h
      ·rw[Y3 J] at h;exact .inl h
     ·exact .inr ⟨x,by simp,(XF.1 h).symm⟩
    ·rw[Y3 c] at h;exact .inl h
   ·exact .inr ⟨z,by simp[N],e⟩
 intro y I;rcases U xs (top,[]) y I with h|h
 ·cases h
 ·exact h
def RgH (h:QCk):Prop:=-1<=h.Next∧h.Next<=65535∧-1<=h.Port∧h.Port<=7
structure TIn (Ps:List QCn) (V:List QCo) (G:List QCh):Prop where
 ps:PtsOk Ps
 vs:V.length≤1000
 vr:∀v∈V,(-1≤v.Next∧v.Next≤65535)∧QbO v.Addr v.Len=true
 gs:GOk G
 gr:∀h∈G,-1≤h.Peer∧h.Peer≤65535
theorem Qwa {Ps:List QCn} {V:List QCo} {G:List QCh} (T:TIn Ps V G) (p:QCj):(Qaa Ps p).length<=1∧(Qfh Ps V p).length<=1000∧(Qcp Ps G p).length<=3∧(∀h∈Qaa Ps p,RgH h)∧(∀h∈Qfh Ps V p,RgH h)∧∀h∈Qcp Ps G p,RgH h:=by
 refine⟨?_,?_,?_,?_,?_,?_⟩
 ·unfold Qaa
  cases Zi (fun i=>mtQ p (Ps.getD i default)) Ps.length<;>simp
 ·unfold Qfh;rw[Yb];exact Xl (XB _ _) T.vs
 ·have:=Qv8 256 (G.map fun h=>(costV h p,Qjw Ps h));rw[Yb] at this;exact Xl this T.gs.few
 ·intro h I;unfold Qaa at I
  cases J:Zi (fun i=>mtQ p (Ps.getD i default)) Ps.length with
  |none=>rw[J] at I;cases I
  |some i=>
   rw[J] at I;have:=T.ps.no _ (Q0 (Z5 J).1);rw[XF.1 I];unfold RgH;dsimp only;omega
 ·intro h I;unfold Qfh at I;obtain⟨v,hv,rfl⟩:=Yo.1 I;have h1:=T.vr v (Yp.1 hv).1;have h2:=QnW T.ps v.Next;unfold RgH;dsimp only;omega
 ·intro h I;obtain⟨x,O,rfl⟩:=Qv9 _ _ h I;obtain⟨g,N,rfl⟩:=Yo.1 O;have h1:=T.gr g N;have h2:=QnW T.ps g.Peer;unfold RgH Qjw;dsimp only;omega
theorem QxV (x y:QCk) (h:[x.Next,x.Port]=[y.Next,y.Port]):x=y:=by
 cases x;cases y
 simpa using h
theorem QAf {xs:List QCk} (hl:xs.length<=1000000) (h:∀x∈xs,RgH x):QA xs=some (QaA (fun x y=>kLt (Qet x) (Qet y)) xs):=by
 unfold QA;rw[Qd (by omega),Qd (fun x I=>by have:=h x I;unfold RgH at this;omega),Qd (fun x _ y _ h=>QxV x y h)]
 rfl
theorem QxW {xs:List QCk} (h:xs.length<=1000000):Jo xs=some xs:=by
 unfold Jo;rw[Qd (by omega),Qd (by simp;omega)]
 rfl
theorem QB6 {α:Type} (xs:List α):(((xs.length:Nat):Int)==0)=decide (xs=[]):=by
 cases xs with
 |nil=>rfl
 |cons x r=>rw[Yz (by simp)];simp;omega
theorem QCd (n:Nat):(if 4<((n:Nat):Int) then(4:Int) else((n:Nat):Int))=((min 4 n:Nat):Int):=by
 split<;>omega
theorem QxX {Ps:List QCn} {V:List QCo} {G:List QCh} (T:TIn Ps V G) (hr:∀p∈QhT Ps V G,QbO p.Addr p.Len=true):JU ⟨Ps,V,G⟩=some (tabL ((dd preEq (QaA (fun x y=>kLt (Qeu x) (Qeu y)) (QhT Ps V G))).map (J5 Ps V G))):=by
 have hG:=T.gs.few;have hf:=T.ps.few;have hV:=T.vs;have hfl:=QiB fun x hx=>(T.gs.ents x hx).1;have hX:∀p∈dd preEq (QaA (fun x y=>kLt (Qeu x) (Qeu y)) (QhT Ps V G)),QbO p.Addr p.Len=true:=fun p hp=>hr p ((JO _ _).mem_iff.1 ((QsM (fun x y e=>(QeP x y).1 e) _ _).1 hp));have hn:(dd preEq (QaA (fun x y=>kLt (Qeu x) (Qeu y)) (QhT Ps V G))).length<=2000:=by
  refine Xl (QyN _) ?_;rw[QeJ];unfold QhT;simp only[Yj,Yb];omega
 unfold JU;rw[QrR (by omega) hV T.gs (fun p hp=>by have:=QdU (hr p hp);unfold RgP;omega),Qa];generalize dd preEq (QaA (fun x y=>kLt (Qeu x) (Qeu y)) (QhT Ps V G))=X at hX hn|-;refine(Qj4 (fun(a:List QCl×List Bool) i=>(a.1,a.2,(i:Int))) X.length (fun a i=>(a.1++[(J5 Ps V G (X.getD i default)).1],a.2++[(J5 Ps V G (X.getD i default)).2])) (fun a=>(a.1.length,a.2.length,a.2,a.1)) ([],[]) (fun i a=>a.1.length=i∧a.2.length=i) rfl ⟨rfl,rfl⟩ (fun i a hi N=>by simp[N]) (fun i a hi N=>?_) (fun a _=>by rw[Y3 (by simp)])).trans ?_
 ·have⟨out,told⟩:=a;have⟨h1,h2⟩:=N;dsimp only at h1 h2|-;rw[Y4 (by simp;omega),Qd (by omega),Y1,Qv3 T.ps,Qa];have hp:=hX _ (Q0 hi);generalize X.getD i default=p at hp|-;have⟨l1,l2,l3,r1,r2,r3⟩:=Qwa T p;rw[QB6];have e1:(if decide (Qaa Ps p=[])=true then bd (Jy ⟨Ps,V,G⟩ p) fun J=>some J else some (Qaa Ps p))=some (ZV Ps V p):=by
   unfold ZV
   by_cases c:Qaa Ps p=[]
   ·rw[Y4 (by simpa using c),Qv4 T.ps (by omega) G p,Qa,Y4 c]
   ·rw[Y3 (by simpa using c),Y3 c]
  rw[e1,Qa,QB6];have U:(if decide (ZV Ps V p=[])=true then bd (Jz ⟨Ps,V,G⟩ p) fun O=>some O else some (ZV Ps V p))=some (if ZV Ps V p=[] then Qcp Ps G p else ZV Ps V p):=by
   by_cases c:ZV Ps V p=[]
   ·rw[Y4 (by simpa using c),Qv5 T.ps V T.gs hp,Qa,Y4 c]
   ·rw[Y3 (by simpa using c),Y3 c]
  rw[U,Qa];have Y:(if ZV Ps V p=[] then Qcp Ps G p else ZV Ps V p).length<=1000∧∀h∈(if ZV Ps V p=[] then Qcp Ps G p else ZV Ps V p),RgH h:=by
   by_cases c:ZV Ps V p=[]
   ·rw[Y4 c];exact⟨by omega,r3⟩
   ·rw[Y3 c];unfold ZV;split
    ·exact⟨l2,r2⟩
    ·exact⟨by omega,r1⟩
  have er:J5 Ps V G p=(⟨p.Addr,p.Len,(QaA (fun x y=>kLt (Qet x) (Qet y)) (if ZV Ps V p=[] then Qcp Ps G p else ZV Ps V p)).take 4⟩,decide (ZV Ps V p=[])):=rfl;rw[er];generalize (if ZV Ps V p=[] then Qcp Ps G p else ZV Ps V p)=hs at Y|-;rw[QAf (by omega) Y.2,Qa,Qd (QeJ _ _),QCd,Qd (by omega),Y1];have et:(QaA (fun x y=>kLt (Qet x) (Qet y)) hs).take (min 4 (QaA (fun x y=>kLt (Qet x) (Qet y)) hs).length)=(QaA (fun x y=>kLt (Qet x) (Qet y)) hs).take 4:=by
   rw[<-XY,X4]
  rw[et,QxW (by rw[Ym];omega),Qa,Qd (by simp only[Y8,Yd];omega),Qd (by simp only[Y8,Yd];omega),Qf hi (by omega)]
 ·have e:(List.range X.length).foldl (fun(a:List QCl×List Bool) i=>(a.1++[(J5 Ps V G (X.getD i default)).1],a.2++[(J5 Ps V G (X.getD i default)).2])) ([],[])=((X.map (J5 Ps V G)).map (·.1),(X.map (J5 Ps V G)).map (·.2)):=by
   rw[JW X (fun(a:List QCl×List Bool) p=>(a.1++[(J5 Ps V G p).1],a.2++[(J5 Ps V G p).2]))];have go:∀(r:List QCj) (a:List QCl×List Bool),r.foldl (fun(a:List QCl×List Bool) p=>(a.1++[(J5 Ps V G p).1],a.2++[(J5 Ps V G p).2])) a=(a.1++(r.map (J5 Ps V G)).map (·.1),a.2++(r.map (J5 Ps V G)).map (·.2)):=by
    intro r
    induction r with
    |nil=>intro a;simp
    |cons x r ih=>intro a;rw[Yy,ih];simp
   rw[go];rfl
  rw[e];dsimp only;generalize hR:X.map (J5 Ps V G)=R;have hRl:R.length<=2000:=by rw[<-hR,Yb];exact hn
  rw[show IntKind.i64.wrap ((((R.map (·.1)).length:Nat):Int) -1)=((R.length:Nat):Int) -1 by rw[Yb,Ql (by omega) (by omega)]];rw[Qv7 (told:=R.map (·.2)) (fun i a hi hai=>?_) (fun a=>by rw[Y3 (by simp)]) R.length (R.map (·.1)) (by rw[Yb];exact Yh _) (by rw[Yb];exact Yh _),Qa]
  ·show some (delB 16 (R.map (·.2)) R.length (R.map (·.1)))=_;rw[QxU];rfl
  ·dsimp only;rw[Yb] at hi
   by_cases c:a.length<=16
   ·rw[Y3 (by simp;omega),Y4 c]
   ·rw[Y4 (by simp;omega),Y3 c,Qd (by rw[Yb];omega),Y1,Ql (n:=(i:Int) -1) (by omega) (by omega),Qf hi (by omega)];have U:(R.map (·.2)).getD i default=(R.map (·.2)).getD i false:=rfl;rw[U]
    by_cases I:(R.map (·.2)).getD i false=true
    ·rw[Y4 I,Y4 I];unfold Zq;rw[Qd (by omega),Qa,Y1,Y1]
     rfl
    ·rw[Y3 I,Y3 I]
def Qht (a b:QCk):Bool:=decide (a.Next<b.Next)||(a.Next==b.Next&&decide (a.Port<b.Port))
theorem QAg (a b:QCk):Qht a b=kLt (Qet a) (Qet b):=by
 unfold Qht Qet
 rw[QbK,QbK,Qin,QrD]
 by_cases h1:a.Next=b.Next
 ·simp[h1]
 ·simp[h1]
def Qm9 (a b:QCj):Bool:=decide (a.Addr<b.Addr)||(a.Addr==b.Addr&&decide (a.Len<b.Len))
theorem QAh (a b:QCj):Qm9 a b=kLt (Qeu a) (Qeu b):=by
 unfold Qm9 Qeu
 rw[QbK,QbK,Qin,QrD]
 by_cases h1:a.Addr=b.Addr
 ·simp[h1]
 ·simp[h1]
theorem QyO {α:Type} (lt:α->α->Bool) (out:List α) (v:α):insL lt out v=QmI lt out v:=rfl
theorem QyP {a:List QCk} (hl:a.length<=4) (h:QCk):QcX a h=some ((insL Qht a h).take 4):=by
 unfold QcX
 rw[QsF a (fun x=>Qht x h) (fun i hi=>?_) (by rw[Qd (fun q=>absurd q (by simp)),QS (by simp),Qa,Y3 (by simp)]),Qa]
 ·have hw:=QvJ (fun x=>Qht x h) a
  have I:=QsG Qht a h
  have hln:(insL Qht a h).length=a.length+1:=insL_len Qht a h
  rw[Qd (by omega),Qd (by omega),Qd (by rw[Ym];simp only[Y8,Yd];omega),Qd (by omega),Qd (by rw[Yj,Ym,QX];simp only[Y8,Yd];omega),I]
  by_cases c:a.length=4
  ·rw[Y4 (by simp;omega),Qd (by omega)]
   rfl
  ·rw[Y3 (by simp;omega),Xz (by omega)]
 ·rw[Qd (fun _=>by omega),Yq (by omega:(i:Int)<((a.length:Nat):Int)),Qs rfl,Y1,Qf hi (by omega)]
  unfold QbF
  rw[Qa,Yn]
  show(if Qht (a.getD i default) h=true then _ else _)=_
  cases Qht (a.getD i default) h<;>rfl
theorem Qwb {a:List QCj} (hl:a.length<=1000000) (p:QCj):Jb a p=some (QkQ Qeu a p):=by
 have I:(fun x=>ltK Qeu x p)=fun x=>Qm9 x p:=funext fun x=>(QAh x p).symm
 unfold Jb
 rw[QsF a (fun x=>Qm9 x p) (fun i hi=>?_) (by rw[Qd (fun q=>absurd q (by simp)),Qd (fun _ q=>absurd q (by simp)),Qd (fun _ _ q=>absurd q (by simp)),Y3 (by simp)]),Qa]
 ·have hw:=QvJ (fun x=>Qm9 x p) a
  have J:=QsG Qm9 a p
  unfold QkQ
  rw[I,show QmI (ltK Qeu) a p=insL Qm9 a p from by unfold QmI insL;rw[I]]
  rw[<-J]
  generalize hk:(a.takeWhile fun x=>Qm9 x p).length=k at*
  rw[Qd (fun h=>by rw[Y6] at h;omega),Y1]
  by_cases c:k<a.length∧Qeu (a.getD k default)=Qeu p
  ·have:a.getD k default=p:=Qjp _ _ c.2
   rw[Y4 c,Y4 (by rw[this];simp;omega)]
  ·rw[Y3 c,Y3 (fun q=>c ?_),Qd (by omega),Qd (by omega),Qd (by rw[Ym];simp only[Y8,Yd];omega),Qd (by omega),Qd (by rw[Yj,Ym,QX];simp only[Y8,Yd];omega)]
   simp only[Y2,Y6,YD,YT] at q
   refine⟨by have h9:=q.1;omega,?_⟩
   unfold Qeu
   rw[q.2.1,q.2.2]
 ·rw[Qd (fun _=>by omega),Qd (fun _ _=>by omega),Qd (fun _ _ _=>by omega),Yq (by omega:(i:Int)<((a.length:Nat):Int)),Y1,Qf hi (by omega),Yn]
  show(if Qm9 (a.getD i default) p=true then _ else _)=_
  cases Qm9 (a.getD i default) p<;>rfl
theorem QsP {a:List QCj} (p:QCj):(QkQ Qeu a p).length<=a.length+1:=by
 unfold QkQ
 split
 ·omega
 ·rw[<-QyO,insL_len];exact Yh _
theorem Qjq (xs:List QCj):∀a:List QCj,(xs.foldl (QkQ Qeu) a).length<=a.length+xs.length:=by
 induction xs with
 |nil=>intro a;exact Yh _
 |cons x r I=>
  intro a
  rw[Yy,Y8]
  have h1:=I (QkQ Qeu a x)
  have h2:=QsP (a:=a) x
  omega
theorem Qpa {α:Type} [Inhabited α] {β:Type} {step:List QCj×Int->Option ((List QCj×Int)⊕β)} (xs:List α) (g:α->QCj) (d:List QCj->β) (a0:List QCj) (hx:xs.length<=1000) (ha0:a0.length<=100000) (h1:∀(i:Nat) (a:List QCj),i<xs.length->a.length<=1000000->step (a,(i:Int))=some (.inl (QkQ Qeu a (g (xs.getD i default)),((i+1:Nat):Int)))) (h2:∀a,step (a,(xs.length:Int))=some (.inr (d a))):lp step (a0,0)=some (d ((xs.map g).foldl (QkQ Qeu) a0)):=by
 have:=(QgT xs.length (fun a i=>QkQ Qeu a (g (xs.getD i default))) d a0 (fun i a=>a.length<=100000+i) (by omega) (fun i a _ h=>by have:=QsP (a:=a) (g (xs.getD i default));omega) (fun i a hi ha=>h1 i a hi (by omega)) (fun a _=>h2 a)).1
 rw[this,JW xs (fun a c=>QkQ Qeu a (g c)) a0,List.foldl_map]
theorem QrS {Ps:List QCn} {V:List QCo} {R:List QCm} {H:List QCh} (hP:Ps.length<=1000) (Y:V.length<=1000) (N:GOk H):JY ⟨Ps,V,R,H⟩=some ((QhT Ps V H).foldl (QkQ Qeu) []):=by
 have hf:=N.few
 unfold JY
 dsimp only
 rw[Qpa Ps QbR (fun a=>a) [] hP (by simp) (fun i a hi I=>?_) (fun a=>by rw[Y3 (by simp)]),Qa]
 ·have U:=Qjq (Ps.map QbR) []
  rw[Yb] at U
  rw[Qpa V QsO (fun a=>a) _ Y (by simp only[Yd] at*;omega) (fun i a hi I=>?_) (fun a=>by rw[Y3 (by simp)]),Qa]
  ·have J:=Qjq (V.map QsO) ((List.foldl (QkQ Qeu) [] (Ps.map QbR)))
   rw[Yb] at J
   simp only[Yd] at U J|-
   generalize hA:List.foldl (QkQ Qeu) (List.foldl (QkQ Qeu) [] (Ps.map QbR)) (V.map QsO)=A at J|-
   refine(Qj4 (fun(a:List QCj) i=>(a,(i:Int))) H.length (fun a i=>((H.getD i default).Entries.map QqD).foldl (QkQ Qeu) a) (fun a=>a) A (fun i a=>a.length<=2000+16*i) rfl (by omega) (fun i a hi I=>?_) (fun i a hi I=>?_) (fun a _=>by rw[Y3 (by simp)])).trans ?_
   ·have h1:=(N.ents _ (Q0 hi)).1
    have h2:=Qjq ((H.getD i default).Entries.map QqD) a
    rw[Yb] at h2
    omega
   ·have O:=(N.ents _ (Q0 hi)).1
    dsimp only
    have O:(H.getD (i:Int).toNat default).Entries.length<=16:=O
    rw[Y4 (by simp;omega)]
    rw[Qpa (H.getD (i:Int).toNat default).Entries QqD (fun a=>a) a (by omega) (by omega) (fun k b hk hb=>?_) (fun b=>by dsimp only;rw[Qd (by omega),Y3 (by simp)]),Qa]
    ·rw[Qf hi (by omega),Y1]
    ·dsimp only
     rw[Qd (by omega),Y4 (by rw[Y6];omega),Qd (by omega),Qd (by omega),Qd (by omega),Qd (by omega),Y1,Qwb hb,Qa,Qf hk (by omega)]
     rfl
   ·rw[JW H (fun a h=>(h.Entries.map QqD).foldl (QkQ Qeu) a)]
    show some _=some _
    unfold QhT
    rw[Y09,Y09,hA,List.foldl_flatMap]
  ·dsimp only
   rw[Y4 (by simp;omega),Qd (by omega),Qd (by omega),Y1,Qwb I,Qa,Qf hi (by omega)]
   rfl
 ·dsimp only
  rw[Y4 (by simp;omega),Qd (by omega),Qd (by omega),Y1,Qwb I,Qa,Qf hi (by omega)]
  rfl
theorem Qqq {α:Type} [Inhabited α] {β:Type} {step:List QCk×Int->Option ((List QCk×Int)⊕β)} (xs:List α) (p:α->Bool) (g:α->QCk) (d:List QCk->β) (h1:∀(i:Nat) (a:List QCk),i<xs.length->a.length<=4->step (a,(i:Int))=some (.inl (if p (xs.getD i default)=true then(insL Qht a (g (xs.getD i default))).take 4 else a,((i+1:Nat):Int)))) (h2:∀a,step (a,(xs.length:Int))=some (.inr (d a))):lp step ([],0)=some (d ((QaA (fun x y=>kLt (Qet x) (Qet y)) ((xs.filter p).map g)).take 4)):=by
 have:=(QgT xs.length (fun a i=>if p (xs.getD i default)=true then(insL Qht a (g (xs.getD i default))).take 4 else a) d [] (fun i a=>a.length<=4) (by simp) (fun i a _ h=>by
  split
  ·rw[Ym];omega
  ·exact h) h1 (fun a _=>h2 a)).1
 rw[this,JW xs (fun a x=>if p x=true then(insL Qht a (g x)).take 4 else a) [],<-QxT]
 congr 2
 have J:∀(r:List α) (a:List QCk),r.foldl (fun a x=>if p x=true then(insL Qht a (g x)).take 4 else a) a=((r.filter p).map g).foldl (fun out v=>(QmI (fun x y=>kLt (Qet x) (Qet y)) out v).take 4) a:=by
  intro r
  induction r with
  |nil=>intro a;rfl
  |cons x r I=>
   intro a
   rw[Yy,I]
   cases hp:p x with
   |true=>
    rw[Y4 rfl,XI hp,YI,Yy]
    have:insL Qht a (g x)=QmI (fun x y=>kLt (Qet x) (Qet y)) a (g x):=by
     rw[QyO];unfold QmI
     rw[show(fun y=>Qht y (g x))=fun y=>kLt (Qet y) (Qet (g x)) from funext fun y=>QAg y (g x)]
    rw[this]
   |false=>rw[Y3 (by decide),XJ (by rw[hp];decide)]
 exact J xs []
theorem QrT {Ps:List QCn} {x:Int} {i:Nat} (h:Qpf Ps x=some i):i<Ps.length∧(Ps.getD i default).Port=Qt9 Ps x:=by
 unfold Qt9
 rw[h]
 exact⟨(Z5 h).1,rfl⟩
theorem QBW {α:Type} (lt:α->α->Bool) (x:α):QaA lt [x]=[x]:=rfl
theorem QxY {Ps:List QCn} (I:PtsOk Ps) {V:List QCo} (hV:V.length<=1000) (N:∀v∈V,Qpf Ps v.Next≠none) (R:List QCm) (H:List QCh) (p:QCj):QaW ⟨Ps,V,R,H⟩ p=some ((QaA (fun x y=>kLt (Qet x) (Qet y)) (ZV Ps V p)).take 4):=by
 have hf:=I.few
 unfold QaW
 dsimp only
 rw[Z8 Ps.length (fun i=>mtQ p (Ps.getD i default)) (fun i=>.inl (([(⟨0,(Ps.getD i default).Port⟩:QCk)]:List QCk).length,([(⟨0,(Ps.getD i default).Port⟩:QCk)]:List QCk))) (.inr ()) (fun i hi=>?_) (by rw[Y3 (by simp)]),Qa]
 ·unfold ZV Qaa
  cases hr:Zi (fun i=>mtQ p (Ps.getD i default)) Ps.length with
  |some i=>rfl
  |none=>
   rw[Y4 (show((none:Option Nat).map fun i=>[(⟨0,(Ps.getD i default).Port⟩:QCk)]).getD []=[] from rfl)]
   dsimp only[Option.map,Option.getD]
   rw[Qqq V (mtV p) (fun v=>(⟨v.Next,Qt9 Ps v.Next⟩:QCk)) (fun a=>(a.length,a)) (fun i a hi U=>?_) (fun a=>by rw[Y3 (by simp)]),Qa]
   ·rfl
   ·dsimp only
    rw[Y4 (by simp;omega),Qd (by omega),Qd (fun _=>by omega),Y1,Qf hi (by omega)]
    have hm:=Q0 hi
    generalize V.getD i default=v at hm|-
    show(if mtV p v=true then _ else _)=_
    by_cases c:mtV p v=true
    ·rw[Y4 c,Y4 c,Qd (by omega),Qd (by omega),Qv2 I,Qa]
     cases J:Qpf Ps v.Next with
     |none=>exact absurd J (N v hm)
     |some k=>
      have⟨k1,O⟩:=QrT J
      simp only[Xo,YU]
      rw[Qd (by omega),Y1,O,QyP U,Qa]
    ·rw[Y3 c,Y3 c]
 ·rw[Y4 (by simp;omega),Qd (by omega),Qd (fun _=>by omega),Y1,Qd (by omega),Qf hi (by omega)]
  show(if mtQ p (Ps.getD i default)=true then _ else _)=_
  cases mtQ p (Ps.getD i default)<;>rfl
def isP (R:List QCm) (x:Int):Bool:=R.any fun q=>q.Addr==x
theorem Qwc {R:List QCm} (h:R.length<=1000000) (x:Int):Qb1 R x=some (isP R x):=by
 unfold Qb1
 rw[Z8 R.length (fun i=>(R.getD i default).Addr==x) (fun _=>.inl ()) (.inr ()) (fun i hi=>?_) (by rw[Y3 (by simp)]),Qa]
 ·unfold isP
  rw[Qfx]
  cases Zi (fun i=>(R.getD i default).Addr==x) R.length<;>rfl
 ·rw[Y4 (by simp;omega),Qd (by omega),Y1,Qf hi (by omega)]
  cases (R.getD i default).Addr==x<;>rfl
theorem Qwd {h:QCh} (ho:h.Entries.length<=16∧Ord idE h.Entries∧∀e∈h.Entries,J9 e=true) (p:QCj):Qb0 h p=some (costV h p):=by
 unfold Qb0 costV
 rw[show QdJ h.Entries (⟨p.Addr,p.Len,0,0⟩:QCg)=_ from QBg (by omega) ho.2.1 (Qpg p),Qa]
 by_cases c:QnV idE h.Entries (Qpg p)=true
 ·have:=(Qf7.1 c).1
  rw[Y4 c,Y4 c,Y3 (by simp),Qd (by omega),Y1]
 ·rw[Y3 c,Y3 c,Y4 (by decide)]
def gOf (R:List QCm) (H:List QCh):List QCh:=H.filter fun h=>isP R h.Peer
theorem QsQ {R:List QCm} {H:List QCh} (h:GOk H):GOk (gOf R H):=⟨Xl (XB _ _) h.few,fun x I=>h.ents x (Yp.1 I).1⟩
def QqE (l:Int):Int:=if l=256 then 0 else l
theorem QAi {Ps:List QCn} (hP:PtsOk Ps) (V:List QCo) {R:List QCm} (hR:R.length<=1000) {H:List QCh} (hH:GOk H) (hn:∀h∈gOf R H,Qpf Ps h.Peer≠none) (p:QCj):Qao ⟨Ps,V,R,H⟩ p=some ((QaA (fun x y=>kLt (Qet x) (Qet y)) (Qcp Ps (gOf R H) p)).take 4):=by
 have hf:=hH.few
 have I:∀h∈H,costV h p<256:=fun h Y=>by have:=QnX (hH.ents h Y) p;omega
 unfold Qao
 dsimp only
 have hL:∀(r:List QCh) (l:Int),(∀h∈r,h∈H)->l<=256∧0<l->r.foldl (fun l h=>if(decide (costV h p>0)&&isP R h.Peer&&((l==0)||decide (costV h p<l)))=true then costV h p else l) (QqE l)=QqE (leastC l ((gOf R r).map fun h=>(costV h p,Qjw Ps h))):=by
  intro r
  induction r with
  |nil=>intro l _ _;rfl
  |cons h r ih=>
   intro l hm hl
   have hc:=I h (hm h (by simp))
   rw[Yy]
   unfold gOf
   by_cases hp:isP R h.Peer=true
   ·rw[XI (p:=fun h:QCh=>isP R h.Peer) hp,YI,hp]
    show _=QqE (leastC (if 0<costV h p∧costV h p<l then costV h p else l) ((gOf R r).map fun h=>(costV h p,Qjw Ps h)))
    by_cases c:0<costV h p∧costV h p<l
    ·rw[Y4 c,<-ih _ (fun x U=>hm x (by simp[U])) (by omega)]
     congr 1
     rw[Y4]
     ·unfold QqE;rw[Y3 (by omega)]
     ·unfold QqE
      simp only[YT,Y2,Yr,Y6,YD]
      refine⟨c.1,?_⟩
      split
      ·exact .inl rfl
      ·exact .inr c.2
    ·rw[Y3 c,<-ih _ (fun x U=>hm x (by simp[U])) hl]
     congr 1
     rw[Y3]
     unfold QqE
     simp only[YT,Y2,Yr,Y6,YD]
     intro q
     split at q
     ·omega
     ·omega
   ·rw[XJ (p:=fun h:QCh=>isP R h.Peer) hp,<-show gOf R r=r.filter _ from rfl,<-ih l (fun x U=>hm x (by simp[U])) hl]
    congr 1
    rw[Y3]
    simp[hp]
 rw[(QgT H.length (fun l i=>if(decide (costV (H.getD i default) p>0)&&isP R (H.getD i default).Peer&&((l==0)||decide (costV (H.getD i default) p<l)))=true then costV (H.getD i default) p else l) (fun a=>a) 0 (fun _ _=>True) trivial (fun _ _ _ _=>trivial) (fun i a hi _=>?_) (fun a _=>by rw[Y3 (by simp)])).1,Qa,JW H (fun l h=>if(decide (costV h p>0)&&isP R h.Peer&&((l==0)||decide (costV h p<l)))=true then costV h p else l) 0]
 ·have e:=hL H 256 (fun _ h=>h) (by decide)
  rw[show QqE 256=0 from rfl] at e
  rw[e]
  have O:=Qlf 256 ((gOf R H).map fun h=>(costV h p,Qjw Ps h))
  have J:=Qqo 256 ((gOf R H).map fun h=>(costV h p,Qjw Ps h))
  have N:=QyM 256 ((gOf R H).map fun h=>(costV h p,Qjw Ps h)) (fun x U=>by
   obtain⟨h,Y,rfl⟩:=Yo.1 U
   exact I h (Yp.1 Y).1)
  unfold Qcp
  rw[N]
  generalize leastC 256 ((gOf R H).map fun h=>(costV h p,Qjw Ps h))=L at O J|-
  have h0:0<L:=by
   rcases Int.lt_or_le L 256 with c|c
   ·have⟨x,_,e1,e2⟩:=J c
    omega
   ·omega
  have a1:decide (QqE L>0)=decide (L<256):=by
   unfold QqE
   rw[YG]
   have:=O.1
   split<;>omega
  rw[Qqq H (fun h=>(decide (QqE L>0)&&(costV h p==QqE L))&&isP R h.Peer) (Qjw Ps) (fun a=>(a.length,a)) (fun i a hi ha=>?_) (fun a=>by rw[Y3 (by simp)]),Qa]
  ·dsimp only
   congr 3
   unfold gOf
   rw[Y0w,XT,List.filter_filter]
   have ec:H.filter (fun h=>(decide (QqE L>0)&&(costV h p==QqE L))&&isP R h.Peer)=H.filter (fun h=>((fun x:Int×QCk=>decide (0<x.1)&&decide (x.1=L))∘fun h=>(costV h p,Qjw Ps h)) h&&isP R h.Peer):=by
    refine List.filter_congr fun h Y=>?_
    have:=I h Y
    show _=(decide (0<costV h p)&&decide (costV h p=L)&&isP R h.Peer)
    congr 1
    rw[YH,a1]
    simp only[Y2,Y6,YD]
    unfold QqE
    have:=O.1
    split<;>omega
   rw[ec]
   rfl
  ·have hm:=Q0 hi
   dsimp only
   rw[Y4 (by simp;omega),Qd (fun _=>by omega),Y1,Qf hi (by omega)]
   generalize H.getD i default=h at hm|-
   cases hd:decide (QqE L>0) with
   |false=>
    rw[QS (by simp),Qa,Qd (fun q=>absurd q (by simp)),QS (by simp),Qa,Y3 (by simp),Yv,Yv,Y3 (by simp)]
   |true=>
    rw[Qs rfl,Qwd (hH.ents h hm),Qa,Qd (fun _=>by omega),Yn]
    cases hq:costV h p==QqE L with
    |false=>rw[QS (by decide),Qa,Yv,Y3 (by decide)];rfl
    |true=>
     rw[Qs rfl,Qwc (by omega),Qa,Yn]
     by_cases hp:isP R h.Peer=true
     ·rw[Y4 hp,Y4 hp,Qd (by omega),Qd (by omega),Qv2 hP,Qa]
      cases hk:Qpf Ps h.Peer with
      |none=>exact absurd hk (hn h (Yp.2 ⟨hm,hp⟩))
      |some k=>
       have⟨k1,k2⟩:=QrT hk
       simp only[Xo,YU]
       rw[Qd (by omega),Y1,k2,QyP ha,Qa]
       rfl
     ·rw[Y3 hp,Y3 hp]
 ·have hm:=Q0 hi
  dsimp only
  rw[Y4 (by simp;omega),Qd (by omega),Y1,Qwd (hH.ents _ hm),Qa,Qd (fun _=>by omega),Qwc (by omega),Qf hi (by omega)]
  cases hd:decide (costV (H.getD i default) p>0) with
  |false=>
   rw[QS (by decide),Qa,Yv,Yv,Yv,Yv,Y3 (by decide),Y3 (by decide)]
  |true=>
   rw[Qs rfl,Qa]
   split<;>rfl
theorem QxZ (T:List (QCl×Bool)) (i:Nat) (hi:i<T.length) (n:Nat) (rest:List QCl) (h:Qmy 16 T.length (T.drop (i+1))=(n,rest)):Qmy 16 T.length (T.drop i)=if n>16∧(T.getD i default).2=true then(n-1,rest) else(n,(T.getD i default).1::rest):=by
 rw[X2 hi,Y0,Y5 hi,YU];unfold Qmy at h|-;rw[Y04,h]
theorem QAj {T:List (QCl×Bool)} (hl:T.length<=100000):Qei (T.map (·.1)) (T.map fun x=>!x.2)=some (tabL T):=by
 unfold Qei tabL;simp only[Yb];rw[Ql (n:=((T.length:Nat):Int) -1) (by omega) (by omega)];have key:∀(i:Nat) (n:Nat) (rest:List QCl),i<=T.length->n=i+rest.length->n<=T.length->Qmy 16 T.length (T.drop i)=(n,rest)->lp (σ:=List QCl×Int×Int) (β:=(Nat×(List QCl))) (fun I=>
(if(decide (I.2.2>=0))=true then
 gd ((decide (I.2.1>16))=true->((0:Int)<=I.2.2∧I.2.2<((T.length:Nat):Int)))<|
(if((decide (I.2.1>16))&&(!((T.map fun x=>!x.2).getD I.2.2.toNat default)))=true then
 some (.inl (I.1,IntKind.i64.wrap (I.2.1-1),IntKind.i64.wrap (I.2.2-1)))
else
 gd ((0:Int)<=I.2.2∧I.2.2<((T.length:Nat):Int))<|
 gd (((([((T.map (·.1)).getD I.2.2.toNat default)]:List QCl).length)+(I.1.length))*(40+1)<=70368744177664)<|
 some (.inl ((([((T.map (·.1)).getD I.2.2.toNat default)]:List QCl)++I.1),I.2.1,IntKind.i64.wrap (I.2.2-1))))
else
 some (.inr (I.1.length,I.1)))) (rest,(n:Int),(i:Int) -1)=some ((Qmy 16 T.length T).2.length,(Qmy 16 T.length T).2):=by
  intro i
  induction i with
  |zero=>
   intro n rest _ _ _ h;rw[XP] at h;rw[h];exact Zr rfl
  |succ i N=>
   intro n rest hi hn J h;have hi:i<T.length:=hi;have hc:=QxZ T i hi n rest h;have e1:(T.map fun x=>!x.2).getD i default=!(T.getD i default).2:=by
    rw[Y0,Yu,Y5 hi,Y0,Y5 hi];rfl
   have U:(T.map (·.1)).getD i default=(T.getD i default).1:=by
    rw[Y0,Yu,Y5 hi,Y0,Y5 hi];rfl
   rw[show((i+1:Nat):Int) -1=(i:Int) by omega]
   by_cases c:n>16∧(T.getD i default).2=true
   ·rw[Y4 c] at hc;rw[Ji (s':=(rest,((n-1:Nat):Int),(i:Int) -1)) (by
     dsimp only;rw[Y4 (by simp),Qd (fun _=>by omega),Y1,e1,Y4 (by rw[c.2];simp;omega),Ql (n:=(n:Int) -1) (by omega) (by omega),Ql (n:=(i:Int) -1) (by omega) (by omega),show((n-1:Nat):Int)=(n:Int) -1 by omega])]
    exact N _ _ (by omega) (by omega) (by omega) hc
   ·rw[Y3 c] at hc;rw[Ji (s':=((T.getD i default).1::rest,(n:Int),(i:Int) -1)) (by
     dsimp only;rw[Y4 (by simp),Qd (fun _=>by omega),Y1,e1,U,Y3 (fun q=>c ?_),Qd (by omega),Qd (by simp only[Y8,Yd];omega),Ql (n:=(i:Int) -1) (by omega) (by omega)]
     ·rfl
     ·simp only[Y0h,Y2,Y6] at q;exact⟨by have:=q.1;omega,q.2⟩)]
    exact N _ _ (by omega) (by rw[Y8];omega) J hc
 have O:=key T.length T.length [] (Yh _) rfl (Yh _) (by rw[Y0e];rfl);refine(congrArg (fun m=>bd m _) O).trans ?_;rw[Qa]
structure SIn (Ps:List QCn) (V:List QCo) (R:List QCm) (H:List QCh):Prop where
 t:TIn Ps V (gOf R H)
 hs:GOk H
 rl:R.length≤1000
 vn:∀v∈V,Qpf Ps v.Next≠none
 gn:∀h∈gOf R H,Qpf Ps h.Peer≠none
theorem QsR {α:Type} {lt:α->α->Bool} {xs:List α}:(QaA lt xs).take 4=[]↔xs=[]:=by
 constructor
 ·intro h;have h1:=congrArg List.length h;rw[Ym,QeJ] at h1;exact XR.1 (by simp only[Yd] at h1;omega)
 ·rintro rfl;rfl
def okP (Ps:List QCn) (V:List QCo) (G:List QCh) (p:QCj):Bool:=decide (Qf9 Ps V G p≠ [])
theorem Qx0 {ls:List Bt} {Ps:List QCn} {V:List QCo} {R:List QCm} {H:List QCh} (S:SIn Ps V R H) (h1:Qbo ls=some Ps) (h2:QbY ls=some V) (h3:Qbp ls=some R):QcY ls H=some (tabL ((((QhT Ps V H).foldl (QkQ Qeu) []).filter (okP Ps V (gOf R H))).map (J5 Ps V (gOf R H)))):=by
 have hf:=S.hs.few;have hP:=S.t.ps.few;have U:=S.t.vs;have hfl:=QiB fun x hx=>(S.hs.ents x hx).1;unfold QcY;rw[h1,Qa,h2,Qa,h3,Qa,QrS (by omega) U S.hs,Qa];have J:=Qjq (QhT Ps V H) [];have hA:(QhT Ps V H).length<=2000:=by
  unfold QhT;simp only[Yj,Yb];omega
 generalize (QhT Ps V H).foldl (QkQ Qeu) []=X at J|-;have J:X.length<=2000:=by simp only[Yd] at J;omega
 let f:List QCl×List Bool->QCj->List QCl×List Bool:=fun a p=>if okP Ps V (gOf R H) p=true then(a.1++[(J5 Ps V (gOf R H) p).1],a.2++[!(J5 Ps V (gOf R H) p).2]) else a
 refine(Qj4 (fun(a:List QCl×List Bool) i=>(a.1,a.2,(i:Int))) X.length (fun a i=>f a (X.getD i default)) (fun a=>(a.1.length,a.2.length,a.2,a.1)) ([],[]) (fun i a=>a.1.length<=i∧a.2.length<=i) rfl ⟨Yh _,Yh _⟩ (fun i a hi Y=>?_) (fun i a hi Y=>?_) (fun a _=>by rw[Y3 (by simp)])).trans ?_
 ·show(if _ then _ else _:List QCl×List Bool).1.length<=i+1∧(if _ then _ else _:List QCl×List Bool).2.length<=i+1;split
  ·simp;omega
  ·omega
 ·have⟨out,told⟩:=a;have⟨I,O⟩:=Y;dsimp only at I O|-;rw[Y4 (by simp;omega),Qd (by omega),Y1,Qf hi (by omega)];generalize X.getD i default=p;rw[QxY S.t.ps U S.vn,Qa];have e0:decide (((((QaA (fun x y=>kLt (Qet x) (Qet y)) (ZV Ps V p)).take 4).length:Nat):Int)>0)=!decide (ZV Ps V p=[]):=by
   rw[<-Y1b,YG,<-QsR (lt:=fun x y=>kLt (Qet x) (Qet y)),<-XR];omega
  rw[e0,Y0h];have e1:(if decide (ZV Ps V p=[])=true then gd ((0:Int)<=(i:Int)∧(i:Int)<((X.length:Nat):Int))<|bd (Qao ⟨Ps,V,R,H⟩ p) fun N=>some N else some ((QaA (fun x y=>kLt (Qet x) (Qet y)) (ZV Ps V p)).take 4))=some (Qf9 Ps V (gOf R H) p):=by
   unfold Qf9
   by_cases c:ZV Ps V p=[]
   ·rw[Y4 (by simpa using c),Qd (by omega),QAi S.t.ps V S.rl S.hs S.gn,Qa,Y4 c]
   ·rw[Y3 (by simpa using c),Y3 c]
  rw[e1,Qa];have e2:decide ((((Qf9 Ps V (gOf R H) p).length:Nat):Int)>0)=okP Ps V (gOf R H) p:=by
   unfold okP;rw[YG,Ne,<-XR];omega
  rw[e2];show _=some (Sum.inl ((f (out,told) p).1,(f (out,told) p).2,_));show _=some (Sum.inl ((if okP Ps V (gOf R H) p=true then(out++[(J5 Ps V (gOf R H) p).1],told++[!(J5 Ps V (gOf R H) p).2]) else(out,told)).1,(if okP Ps V (gOf R H) p=true then(out++[(J5 Ps V (gOf R H) p).1],told++[!(J5 Ps V (gOf R H) p).2]) else(out,told)).2,_))
  by_cases c:okP Ps V (gOf R H) p=true
  ·rw[Y4 c,Y4 c,Qd (by omega),Qd (by omega),Qd (by simp only[Y8,Yd];omega),Qd (by simp only[Y8,Yd];omega)]
   rfl
  ·rw[Y3 c,Y3 c]
 ·rw[JW X f];have go:∀(r:List QCj) (a:List QCl×List Bool),r.foldl f a=(a.1++((r.filter (okP Ps V (gOf R H))).map (J5 Ps V (gOf R H))).map (·.1),a.2++((r.filter (okP Ps V (gOf R H))).map (J5 Ps V (gOf R H))).map fun x=>!x.2):=by
   intro r
   induction r with
   |nil=>intro a;simp
   |cons x r ih=>
    intro a;rw[Yy,ih]
    by_cases c:okP Ps V (gOf R H) x=true
    ·rw[show f a x=(a.1++[(J5 Ps V (gOf R H) x).1],a.2++[!(J5 Ps V (gOf R H) x).2]) from Y4 c,XI c];simp
    ·rw[show f a x=a from Y3 c,XJ c]
  rw[go];dsimp only;rw[YA,YA,QAj,Qa];rw[Yb];exact Xl (XB _ _) (by omega)
theorem Qwe {h:QCh} (ho:h.Entries.length<=16∧Ord idE h.Entries∧∀e∈h.Entries,J9 e=true) (p:QCj):QnV idE h.Entries (Qpg p)=true↔ ∃e∈h.Entries,QqD e=p:=by
 constructor
 ·intro k;have⟨h1,h2,h3⟩:=Qf7.1 k;refine⟨_,Q0 h1,?_⟩
  cases p
  unfold QqD;rw[QCj.mk.injEq];exact⟨h2,h3⟩
 ·rintro⟨e,I,rfl⟩;obtain⟨i,hi,rfl⟩:=Qjn I;exact(QrI ho.2.1 hi ⟨rfl,rfl⟩).2
theorem Qlg {Ps:List QCn} {G:List QCh} (J:GOk G) (p:QCj):Qcp Ps G p=((G.filter fun h=>decide (0<costV h p)&&decide (costV h p=leastC 256 (G.map fun h=>(costV h p,Qjw Ps h)))).map (Qjw Ps)):=by
 unfold Qcp;rw[QyM 256 _ (fun x N=>by
  obtain⟨h,I,rfl⟩:=Yo.1 N;have:=QnX (J.ents h I) p;show costV h p<256;omega)]
 dsimp only;rw[Y0w,XT]
 rfl
theorem Qwf {Ps:List QCn} {G:List QCh} (O:GOk G) (p:QCj):Qcp Ps G p≠ []↔ ∃h∈G,∃e∈h.Entries,QqD e=p:=by
 rw[Qlg O]
 constructor
 ·intro J
  cases N:(G.filter fun h=>decide (0<costV h p)&&decide (costV h p=leastC 256 (G.map fun h=>(costV h p,Qjw Ps h)))) with
  |nil=>rw[N] at J;exact absurd rfl J
  |cons g r=>
   have I:g∈G.filter fun h=>decide (0<costV h p)&&decide (costV h p=leastC 256 (G.map fun h=>(costV h p,Qjw Ps h))):=by rw[N];simp
   have⟨m1,m2⟩:=Yp.1 I;simp only[Y2,Y6] at m2;refine⟨g,m1,(Qwe (O.ents g m1) p).1 ?_⟩
   cases Y:QnV idE g.Entries (Qpg p) with
   |true=>rfl
   |false=>
    have:=m2.1;unfold costV at this;rw[Y,Y3 (by decide)] at this;omega
 ·rintro⟨g,I,he⟩ hn;have Y:=(Qwe (O.ents g I) p).2 he;have hc:=QrO (O.ents g I) Y;have⟨q1,q2⟩:=Qlf 256 (G.map fun h=>(costV h p,Qjw Ps h));have U:=q2 (costV g p,Qjw Ps g) (Yo.2 ⟨g,I,rfl⟩) (by show 0<costV g p;omega);have⟨x,N,e1,e2⟩:=Qqo 256 (G.map fun h=>(costV h p,Qjw Ps h)) (by have:leastC 256 (G.map fun h=>(costV h p,Qjw Ps h))<=costV g p:=U;omega);obtain⟨h,hh,rfl⟩:=Yo.1 N;have hm:h∈G.filter fun h=>decide (0<costV h p)&&decide (costV h p=leastC 256 (G.map fun h=>(costV h p,Qjw Ps h))):=by
   refine Yp.2 ⟨hh,?_⟩;have e1:costV h p=leastC 256 (G.map fun h=>(costV h p,Qjw Ps h)):=e1;have e2:0<costV h p:=e2;rw[Yq e2,Yq e1];rfl
  have:Qjw Ps h∈List.map (Qjw Ps) _:=Yo.2 ⟨h,hm,rfl⟩;rw[hn] at this
  cases this
theorem Qwg {Ps:List QCn} (p:QCj):Qaa Ps p≠ []↔ ∃q∈Ps,QbR q=p:=by
 unfold Qaa
 constructor
 ·intro h
  cases I:Zi (fun i=>mtQ p (Ps.getD i default)) Ps.length with
  |none=>rw[I] at h;exact absurd rfl h
  |some i=>
   have⟨h1,h2,_⟩:=Z5 I;refine⟨_,Q0 h1,?_⟩;unfold mtQ at h2;simp only[Y2,YD] at h2
   cases p
   unfold QbR;rw[QCj.mk.injEq];exact h2
 ·rintro⟨q,J,rfl⟩ h
  cases I:Zi (fun i=>mtQ (QbR q) (Ps.getD i default)) Ps.length with
  |some i=>rw[I] at h;cases h
  |none=>
   obtain⟨i,hi,rfl⟩:=Qjn J;have:=JV I i hi;unfold mtQ QbR at this;simp at this
theorem Qwh {Ps:List QCn} {V:List QCo} (p:QCj):Qfh Ps V p≠ []↔ ∃v∈V,QsO v=p:=by
 unfold Qfh;rw[Ne,List.map_eq_nil_iff,List.filter_eq_nil_iff]
 constructor
 ·intro h;have⟨v,hv⟩:=Classical.not_forall.1 h;have⟨hv,hm⟩:=Classical.not_forall.1 hv;have hm:=Classical.not_not.1 hm;refine⟨v,hv,?_⟩;unfold mtV at hm;simp only[Y2,YD] at hm
  cases p
  unfold QsO;rw[QCj.mk.injEq];exact hm
 ·rintro⟨v,hv,rfl⟩ h;exact h v hv (by unfold mtV QsO;simp)
theorem Qlh {Ps:List QCn} {V:List QCo} (p:QCj):ZV Ps V p≠ []↔(∃q∈Ps,QbR q=p)∨ ∃v∈V,QsO v=p:=by
 unfold ZV;rw[<-Qwg,<-Qwh (Ps:=Ps)]
 by_cases c:Qaa Ps p=[]
 ·rw[Y4 c];simp[c]
 ·rw[Y3 c];simp[c]
theorem Qwi {Ps:List QCn} {V:List QCo} {G:List QCh} (J:GOk G) (p:QCj):okP Ps V G p=true↔p∈QhT Ps V G:=by
 unfold okP Qf9;rw[Y6,Ne,QsR,Qf8];have h1:=Qlh (Ps:=Ps) (V:=V) p;have h2:=Qwf (Ps:=Ps) J p
 by_cases c:ZV Ps V p=[]
 ·rw[Y4 c];have I:=fun q=>(h1.2 q) c
  constructor
  ·intro q;exact .inr (.inr (h2.1 q))
  ·rintro(q|q|q)
   ·exact absurd (.inl q) I
   ·exact absurd (.inr q) I
   ·exact h2.2 q
 ·rw[Y3 c];refine⟨fun _=>(h1.1 c).elim .inl fun q=>.inr (.inl q),fun _=>c⟩
theorem QAk {Ps:List QCn} {V:List QCo} {R:List QCm} {H:List QCh} (I:GOk H):dd preEq (QaA (fun x y=>kLt (Qeu x) (Qeu y)) (QhT Ps V (gOf R H)))=((QhT Ps V H).foldl (QkQ Qeu) []).filter (okP Ps V (gOf R H)):=by
 refine QrM (q:=2) (fun _=>rfl) Qjp QeP fun p=>?_;rw[Qwi (QsQ I),and_iff_right_of_imp];rw[Qf8,Qf8];rintro(q|q|⟨h,J,q⟩)
 ·exact .inl q
 ·exact .inr (.inl q)
 ·exact .inr (.inr ⟨h,(Yp.1 J).1,q⟩)
end Go.Proofs.YtjjkhncoafdfmaaGreatDoor
