/-
  Plain Lean: what the models of functions compute; no condition.
-/
import Derived.Test.YtjjkhncoafdfmaaGreatDoorKz5
import Derived.Test.YtjjkhncoafdfmaaGreatDoorPz3
import Derived.Test.YtjjkhncoafdfmaaGreatDoorPz1
import Derived.Test.YtjjkhncoafdfmaaGreatDoorPz2
set_option linter.all false
namespace Go.Proofs.YtjjkhncoafdfmaaGreatDoor
open Go Go.Ab
set_option maxHeartbeats 4000000
set_option maxRecDepth 100000
theorem Qqr {α:Type} [Inhabited α] {ks:α->List Int} {q:Nat} (J:∀x,(ks x).length=q) {xs:List α} (h:xs.Pairwise fun x y=>ks x≠ks y):(QaA (fun x y=>kLt (ks x) (ks y)) xs).Pairwise fun x y=>kLt (ks x) (ks y)=true:=by
 have h1:=QdQ (QgS J) xs;have h2:(QaA (fun x y=>kLt (ks x) (ks y)) xs).Pairwise fun x y=>ks x≠ks y:=(List.Perm.pairwise_iff (fun {a b} (I:ks a≠ks b)=>fun e=>I e.symm) (JO _ xs)).2 h;refine(h1.and h2).imp fun {a b} I=>?_
 cases N:kLt (ks a) (ks b)
 ·exact absurd (QeK (by rw[J,J]) N I.1) I.2
 ·rfl
theorem QAl {α:Type} [Inhabited α] {R:α->α->Prop} {xs:List α} (h:xs.Pairwise R) {i j:Nat} (I:i<j) (J:j<xs.length):R (xs.getD i default) (xs.getD j default):=by
 have:=X9.1 h i j (by omega) J I;rw[Y0,Y0,Y5 (by omega),Y5 J];exact this
theorem QyQ:∀(n:Nat) (l:List Nat),l.Pairwise (· ≠ ·)->(∀x∈l,x<n)->l.length<=n
 |0,l,_,h=>by
  cases l with
  |nil=>simp
  |cons a r=>exact absurd (h a (by simp)) (by omega)
 |n+1,l,hp,h=>by
  have ih:=QyQ n (l.filter fun x=>x !=n) (hp.filter _) (fun x N=>by
   have⟨h1,h2⟩:=Yp.1 N;have:=h x h1;have:x≠n:=by simpa using h2
   omega)
  have hc:(l.filter fun x=>!(x !=n)).length<=1:=by
   have I:=hp.filter fun x=>!(x !=n)
   match hm:l.filter fun x=>!(x !=n) with
   |[]=>simp
   |[_]=>simp
   |a::b::r=>
    rw[hm] at I;have J:a=n:=by
     have:=(Yp.1 (by rw[hm];simp:a∈l.filter fun x=>!(x !=n))).2;simpa using this
    have hb:b=n:=by
     have:=(Yp.1 (by rw[hm];simp:b∈l.filter fun x=>!(x !=n))).2;simpa using this
    have:=(YB.1 I).1 b (by simp);exact absurd (J.trans hb.symm) this
  have hs:l.length=(l.filter fun x=>x !=n).length+(l.filter fun x=>!(x !=n)).length:=by
   rw[<-Yj];have:=List.filter_append_perm (fun x=>x !=n) l;exact this.length_eq.symm
  omega
theorem Qwj {ls:List Bs} (h:Small ls):(cutK wPort ls).length<=8:=by
 have H:=Qdi h wPort;unfold cutK at H|-;split
 ·rename_i hc;rw[Y4 hc] at H;have hf:=h.few;have N:=Qiy (Qbe hc).1 (by omega) wPort;generalize kind wPort (ls.map wsL)=K at H N;have hp:∀c∈K,0<=JA (c.getD 1 [])∧JA (c.getD 1 [])<=7:=fun c hc=>Qbx (QhR (H.form c hc) (H.head c hc)).1.1;have:=QyQ 8 (K.map fun c=>(JA (c.getD 1 [])).toNat) (by
   rw[Xc];refine N.imp_of_mem fun {c d} hc I J e=>J ?_;have h1:=QhR (H.form c hc) (H.head c hc);have h2:=QhR (H.form d I) (H.head d I);have p1:=hp c hc;have p2:=hp d I;have O:JA (c.getD 1 [])=JA (d.getD 1 []):=by omega
   have Y:=Qo4 p1.1 O;show c.take 2=d.take 2;rw[QxK (by omega),QxK (by omega),H.head c hc,H.head d I,Y]) (fun x U=>by
   obtain⟨c,hc,rfl⟩:=Yo.1 U;have:=hp c hc;omega)
  simpa using this
 ·simp
theorem QsS {ls:List Bs} {w:Bs} {c:List Bs} (h:c∈cutK w ls):Qcu ls=0∧cutK w ls=kind w (ls.map wsL):=by
 unfold cutK at h|-;split at h
 ·rename_i hc;exact⟨hc,by rw[Y4 hc]⟩
 ·simp at h
structure TransOk (z:List Bs) (K:List (List Bs)):Prop where
 few:K.length≤6
 out:outB (pfS (z.getD 1 [])) (QW (z.getD 2 []))=true
 le:JA (z.getD 3 [])≤JA (z.getD 4 [])
 good:∀c∈K,Qmq z c=true
 apart:K.Pairwise fun c d=>QkP c d=false
theorem QsT {ls:List Bs} (h:Small ls):(Qbg ls).length<=999∧(ZY ls).length<=999:=by
 have h1:=(Qdi h wRoute).few;have h2:=(Qdi h wPeer).few;rw[Qjm,Qmt,QfB,QfB,Yb,Yb];simp only[Yd];omega
theorem Qmz {n:Nat} (h:n<=16):QbQ (n:Int)=((2^(16-n):Nat):Int):=by
 unfold QbQ;rw[show((16:Int) -(n:Int)).toNat=16-n by omega];simp
theorem QrU {p:Int×Nat} (h:OkP p):QbO (mkP p.1 p.2).Addr (mkP p.1 p.2).Len=true:=by
 have h1:=h.lo;have h2:=h.hi;have h3:=h.len;have I:=Qld p.1.toNat (2^(16-p.2));rw[Int.toNat_of_nonneg h1,Yq h.al] at I;unfold QbO mkP;dsimp only;rw[Qmz h3,QeO.2 (by omega),QeO.2 (by omega)];simpa using I
theorem Qua {p:Int×Nat} (h:OkP p) (x:Int):Qjo (mkP p.1 p.2) x=hasB p x:=by
 unfold Qjo hasB mkP;dsimp only;rw[Qmz h.len]
 congr 1
 rw[YG];omega
theorem Qx1 {w:Bs} (h:ckP w=true):∃p,pfN w=mkP p.1 p.2∧OkP p:=by
 have⟨p,hp,ho⟩:=QvG h;exact⟨p,by unfold pfN;rw[hp],ho⟩
theorem Qqs {w:Bs} (h:ckP w=true):QbO (pfN w).Addr (pfN w).Len=true:=by
 have⟨p,e,ho⟩:=Qx1 h;rw[e];exact QrU ho
theorem QnY {w:Bs} {a:Int} {n:Nat} (h:Qdb w=some (a,n)):∃x y,w=x++47::y∧0<=QW x∧0<=JA y∧QW x=a∧(JA y).toNat=n:=by
 unfold Qdb at h;split at h
 ·rename_i x y e;split at h
  ·rename_i h1;simp only[Yc,YX] at h;have:=Qbx h1.2.1;exact⟨x,y,Qqi e,h1.1,by omega,h.1,h.2⟩
  ·cases h
 ·cases h
theorem QBl {v w:Bs} (hv:ckP v=true) (U:ckP w=true) (e:pfN v=pfN w):v=w:=by
 have⟨p,hp,_⟩:=QvG hv;have⟨q,I,_⟩:=QvG U;unfold pfN at e;rw[hp,I] at e;have e:mkP p.1 p.2=mkP q.1 q.2:=e;unfold mkP at e;rw[QCj.mk.injEq] at e;have⟨x,y,e1,J,O,a3,a4⟩:=QnY hp;have⟨N,Y,e2,b1,b2,b3,b4⟩:=QnY I;rw[e1,e2,QsH (v:=x) (w:=N) J (by omega),Qo4 (a:=y) (b:=Y) O (by omega)]
def Q3 (ls:List Bs):List QCn:=(cutK wPort ls).map Qm8
theorem QrV {ls:List Bs} (h:Small ls):PtsOk (Q3 ls):=by
 have H:=Qdi h wPort;refine⟨by unfold Q3;rw[Yb];exact Qwj h,fun q I=>?_,fun q I=>?_⟩
 ·obtain⟨c,hc,rfl⟩:=Yo.1 I;exact Qqs (QhR (H.form c hc) (H.head c hc)).1.2
 ·obtain⟨c,hc,rfl⟩:=Yo.1 I;exact Qbx (QhR (H.form c hc) (H.head c hc)).1.1
theorem Qwk {ls:List Bs} (h:Small ls) (hc:Qcu ls=0) {x:Int} (Y:Qgp (ls.map wsL) x=true):Qpf (Q3 ls) x≠none:=by
 have H:=Qdi h wPort;have⟨c,N,J⟩:=X0.1 Y;unfold Qru at J;simp only[Y2,Y6,YD] at J;have O:c∈cutK wPort ls:=by
  unfold cutK;rw[Y4 hc];exact Yp.2 ⟨N,by rw[J.1];simp⟩
 have I:=Qd2 (H.form c O) (H.head c O);intro U;unfold Qpf at U;have⟨i,hi,e⟩:=Qjn (show Qm8 c∈Q3 ls from Yo.2 ⟨c,O,rfl⟩);have:=JV U i hi;rw[e] at this;have e2:QbR (Qm8 c)=mkP (pv c).1 (pv c).2:=by
  show(⟨(pfN (c.getD 2 [])).Addr,(pfN (c.getD 2 [])).Len⟩:QCj)=_;rw[I.2.1]
 rw[e2,Qua I.1] at this;rw[I.2.2] at J;unfold hasB at this;simp only[Bool.and_eq_false_iff,Y0d] at this;dsimp only at J;omega
theorem Qwl {ls:List Bs} (h:Small ls):(Q3 ls).Pairwise fun p q=>QbR p≠QbR q:=by
 have H:=Qdi h wPort;unfold Q3;rw[Xc];unfold cutK at H|-;split
 ·rename_i hc;rw[Y4 hc] at H;have hf:=h.few;refine(QrB (Qbe hc).1 (by omega) (Qiz (Qbe hc).2).2.1).imp_of_mem fun {c d} hc J I e=>I ?_;have h1:=Qd2 (H.form c hc) (H.head c hc);have h2:=Qd2 (H.form d J) (H.head d J);have e:(⟨(pfN (c.getD 2 [])).Addr,(pfN (c.getD 2 [])).Len⟩:QCj)=⟨(pfN (d.getD 2 [])).Addr,(pfN (d.getD 2 [])).Len⟩:=e;rw[h1.2.1,h2.2.1] at e;unfold mkP at e;rw[QCj.mk.injEq] at e;exact Prod.ext e.1 (Int.ofNat.inj e.2)
 ·exact .nil
theorem Qpb {ls:List Bs} {v:QCo} (hv:v∈Qbg ls):∃c∈cutK wRoute ls,v=Qms c:=by
 rw[Qjm,Qg3 QrC] at hv;have⟨c,hc,e⟩:=Yo.1 ((JO _ _).mem_iff.1 hv);exact⟨c,hc,e.symm⟩
theorem Qub {ls:List Bs} (h:Small ls):∀v∈Qbg ls,Qpf (Q3 ls) v.Next≠none:=fun v hv=>by
 obtain⟨c,hc,rfl⟩:=Qpb hv;have⟨I,N⟩:=QsS hc;rw[N] at hc;have J:=Y06.1 (Qiz (Qbe I).2).2.2.1 c (ZH hc).1;refine Qwk h I ?_;show Qgp _ (QW (c.getD 2 []))=true
 cases hb:Qgp (ls.map wsL) (QW (c.getD 2 [])) with
 |true=>rfl
 |false=>
  refine(J ?_).elim;unfold Qf5;rw[(ZH hc).2,hb]
  rfl
theorem QrW {ls:List Bs} (h:Small ls):∀v∈Qbg ls,(-1<=v.Next∧v.Next<=65535)∧QbO v.Addr v.Len=true:=fun v hv=>by
 obtain⟨c,hc,rfl⟩:=Qpb hv;have H:=Qdi h wRoute;exact⟨Qco _,Qqs (Qix (H.form c hc) (H.head c hc)).2.1⟩
theorem Qwm {ls:List Bs} (h:Small ls):∀v∈Qbg ls,0<=v.Next:=fun v hv=>by
 obtain⟨c,hc,rfl⟩:=Qpb hv;have H:=Qdi h wRoute;have:=(Qix (H.form c hc) (H.head c hc)).2.2;unfold ckA at this;exact YN this
theorem Quc {ls:List Bs} (h:Small ls):(Qbg ls).Pairwise fun v w=>viaK v≠viaK w:=by
 have H:=Qdi h wRoute;rw[Qjm,Qg3 QrC];refine(List.Perm.pairwise_iff (fun {a b} (J:viaK a≠viaK b)=>fun e=>J e.symm) (JO _ _)).2 ?_;rw[Xc];unfold cutK at H|-;split
 ·rename_i hc;rw[Y4 hc] at H;have hf:=h.few;refine(Qiy (Qbe hc).1 (by omega) wRoute).imp_of_mem fun {c d} hc I N e=>N ?_;have p1:=Qix (H.form c hc) (H.head c hc);have O:=Qix (H.form d I) (H.head d I);unfold viaK Qms at e;simp only[Y02] at e;have e1:pfN (c.getD 1 [])=pfN (d.getD 1 []):=by
   generalize pfN (c.getD 1 [])=x at e;generalize pfN (d.getD 1 [])=y at e
   cases x;cases y
   rw[QCj.mk.injEq];exact⟨e.1,e.2.1⟩
  show c.take 3=d.take 3;rw[QBb (by omega),QBb (by omega),H.head c hc,H.head d I,QBl p1.2.1 O.2.1 e1,QvK p1.2.2 e.2.2.1]
 ·exact .nil
theorem Qqt {ls:List Bs} {v:QCm} (hv:v∈ZY ls):∃c∈cutK wPeer ls,v=Qg2 c:=by
 rw[Qmt,Qg3 QsI] at hv;have⟨c,hc,e⟩:=Yo.1 ((JO _ _).mem_iff.1 hv);exact⟨c,hc,e.symm⟩
theorem Qwn {R:List QCm} {x:Int}:isP R x=true↔ ∃q∈R,q.Addr=x:=by
 unfold isP;rw[X0];simp only[YD]
theorem QrX {ls:List Bs} (h:Small ls) {x:Int} (O:isP (ZY ls) x=true):Qpf (Q3 ls) x≠none:=by
 obtain⟨v,hv,rfl⟩:=Qwn.1 O;obtain⟨c,hc,rfl⟩:=Qqt hv;have⟨I,N⟩:=QsS hc;rw[N] at hc;have J:=Y06.1 (Qiz (Qbe I).2).2.2.1 c (ZH hc).1;refine Qwk h I ?_;show Qgp _ (QW (c.getD 1 []))=true
 cases hb:Qgp (ls.map wsL) (QW (c.getD 1 [])) with
 |true=>rfl
 |false=>
  refine(J ?_).elim;unfold Qf5;rw[(ZH hc).2,hb]
  rfl
theorem QsU {ls:List Bs} (h:Small ls) {x:Int} (I:isP (ZY ls) x=true):0<=x∧x<=65535:=by
 obtain⟨v,hv,rfl⟩:=Qwn.1 I;obtain⟨c,hc,rfl⟩:=Qqt hv;have H:=Qdi h wPeer;have h1:=(QnT (H.form c hc) (H.head c hc)).2.1;have h2:=Qco (c.getD 1 []);have h1:0<=QW (c.getD 1 []):=by simpa[ckA] using h1
 exact⟨h1,h2.2⟩
theorem QsV {ls:List Bs} (h:Small ls) {H:List QCh} (J:Hd H):SIn (Q3 ls) (Qbg ls) (ZY ls) H:=by
 have hl:=QsT h;have N:GOk H:=⟨J.few,J.ents⟩;refine⟨⟨QrV h,by omega,QrW h,QsQ N,fun x I=>?_⟩,N,by omega,Qub h,fun x I=>QrX h (Yp.1 I).2⟩;have:=QsU h (Yp.1 I).2;omega
theorem Qwo {ls:List Bs} (h:Small ls) {H:List QCh} (N:GOk H):∀p∈QhT (Q3 ls) (Qbg ls) H,QbO p.Addr p.Len=true:=fun p hp=>by
 rcases Qf8.1 hp with ⟨q,O,rfl⟩|⟨v,hv,rfl⟩|⟨g,J,e,I,rfl⟩
 ·exact(QrV h).ok q O
 ·exact(QrW h v hv).2
 ·have:=(N.ents g J).2.2 e I;unfold J9 at this;simp only[Y2] at this;exact this.1.1
def QhU (ls:List Bs) (H:List QCh):List QCj:=dd preEq (QaA (fun x y=>kLt (Qeu x) (Qeu y)) (QhT (Q3 ls) (Qbg ls) (gOf (ZY ls) H)))
def rowsV (ls:List Bs) (H:List QCh):List (QCl×Bool):=(QhU ls H).map (J5 (Q3 ls) (Qbg ls) (gOf (ZY ls) H))
def QyR (ls:List Bs) (H:List QCh):List QCl:=if Qcu ls=0∧Qfg H=true then tabL (rowsV ls H) else []
theorem Qqu {ls:List Bs} (h:Small ls) (H:List QCh):Qch (ls.map tS) H=some (QyR ls H):=by
 have hf:=h.few;unfold Qch QyR;rw[Qsz h.len (by omega),Qa]
 by_cases hc:Qcu ls=0
 ·rw[Qs (by rw[hc];rfl),QxQ,Qa]
  by_cases I:Qfg H=true
  ·have J:=Qo8 I;rw[Y3 (by rw[hc,I];decide),Y4 ⟨hc,I⟩];rw[Qx0 (QsV h J) (by rw[QxJ h.len (by omega)];unfold Q3 cutK;rw[Y4 hc]) (by rw[Qz7 h.len (by omega)];unfold Qbg;rw[Y4 hc]) (by rw[QxI h.len (by omega)];unfold ZY;rw[Y4 hc]),Qa];unfold rowsV QhU;rw[QAk ⟨J.few,J.ents⟩]
  ·rw[Y4 (by simp[I]),Y3 (fun q=>I q.2)]
 ·rw[QS (by simp[hc]),Qa,Y4 (by simp[hc]),Y3 (fun q=>hc q.1)]
theorem Qx2 {xs:List QCg} (h:xs.length<=1000000):ZW xs=some xs:=by
 unfold ZW;rw[Qd (by omega),Qd (by simp;omega)]
 rfl
theorem Qx3 {H:List QCh} (h:GOk H):Qce H=some H:=by
 have hf:=h.few;unfold Qce;rw[Qfe H.length (fun i=>H.getD i default) (fun a=>(a.length,a)) (fun i a hi ha=>?_) (fun a _=>by rw[Y3 (by simp)]),Qa]
 ·dsimp only;rw[Qar H fun x=>x,List.map_id']
 ·have:=(h.ents _ (Q0 hi)).1;dsimp only;rw[Y4 (by simp;omega),Qd (by omega),Y1,Qx2 (by omega),Qa,Qd (by simp only[Y8,Yd];omega),Qf hi (by omega)]
theorem Qwp {R:List QCm} (hl:R.length<=1048576) (x:Int):Qeh R x=some (isP R x):=by
 unfold Qeh;have e:QZ R x=Qxf (fun q=>Qbl q x) R:=rfl;rw[e,Qmf (pm:=fun q=>Qbl q x) (p:=fun q=>q.Addr==x) (fun q _=>rfl) hl,Qa]
 rfl
theorem QBm {R:List QCm} (hl:R.length<=1048576) {H:List QCh} (I:H.length<=1048576):QB H R=some (gOf R H):=by
 have e:QB H R=QAY (fun h=>Jn h R) H:=rfl;rw[e,Qvj (pm:=fun h=>Jn h R) (p:=fun h=>!isP R h.Peer) (fun h _=>by unfold Jn;rw[Qwp hl,Qa]) I];unfold gOf;simp only[Y0h]
theorem Qqv {ls:List Bs} (h:Small ls) {H:List QCh} (N:H.length<=1048576):Qcf (ls.map tS) H=some (QyR ls H):=by
 have hf:=h.few;unfold Qcf QyR QcR;rw[QsE h.len (by omega),Qa,Qa]
 by_cases hc:Qcu ls=0
 ·rw[Qs (by rw[hc];rfl),QxR N,Qa]
  by_cases I:Qfg H=true
  ·have J:=Qo8 I;have O:GOk H:=⟨J.few,J.ents⟩;have S:=QsV h J;rw[Y3 (by rw[hc,I];decide),Y4 ⟨hc,I⟩,Qmu h,Qa,Qx3 O,Qa,QBm (by have:=S.rl;omega) N,Qa,Qmv h,Qa,Qo5 h,Qa];show bd (JU ⟨Q3 ls,Qbg ls,gOf (ZY ls) H⟩) _=_;rw[QxX S.t (Qwo h (QsQ O)),Qa]
   rfl
  ·rw[Y4 (by simp[I]),Y3 (fun q=>I q.2)]
 ·rw[QS (by simp[hc]),Qa,Y4 (by simp[hc]),Y3 (fun q=>hc q.1)]
theorem QsW (m k:Nat):∀xs:List (QCl×Bool),(Qmy m k xs).2.Sublist (xs.map (·.1)):=by
 intro xs;unfold Qmy
 induction xs with
 |nil=>exact .slnil
 |cons x r I=>
  rw[Y04,YI];split
  ·exact I.cons _
  ·exact I.cons₂ _
theorem Qwq (m k:Nat):∀(xs:List (QCl×Bool)) (x:QCl×Bool),x∈xs->x.2=false->x.1∈(Qmy m k xs).2:=by
 intro xs;unfold Qmy
 induction xs with
 |nil=>intro x I;cases I
 |cons y r N=>
  intro x I J;rw[Y04];rcases Yi.1 I with e|hm
  ·subst e;rw[Y3 (fun q=>by rw[J] at q;cases q.2)];exact List.mem_cons_self
  ·have:=N x hm J;split
   ·exact this
   ·exact YM _ this
theorem Qx4 (m k:Nat):∀xs:List (QCl×Bool),(Qmy m k xs).1<=m∨(Qmy m k xs).1+xs.countP (·.2)=k:=by
 intro xs;unfold Qmy
 induction xs with
 |nil=>exact .inr rfl
 |cons x r I=>
  rw[Y04,List.countP_cons]
  by_cases c:(r.foldr (fun(x:QCl×Bool) (s:Nat×List QCl)=>if s.1>m∧x.2=true then(s.1-1,s.2) else(s.1,x.1::s.2)) (k,[])).1>m∧x.2=true
  ·rw[Y4 c,Y4 c.2];dsimp only;omega
  ·rw[Y3 c];dsimp only;rcases I with h|h
   ·exact .inl h
   ·by_cases hm:(r.foldr (fun(x:QCl×Bool) (s:Nat×List QCl)=>if s.1>m∧x.2=true then(s.1-1,s.2) else(s.1,x.1::s.2)) (k,[])).1>m
    ·rw[Y3 (fun q=>c ⟨hm,q⟩)];exact .inr (by omega)
    ·exact .inl (by omega)
theorem QsX {T:List (QCl×Bool)} (h:(T.filter fun x=>!x.2).length<=16):(tabL T).length<=16:=by
 have⟨n,rest,h1,h2⟩:=Qv0 16 T 0 (XW _);rw[XP] at h1;have h3:=Qx4 16 T.length T;unfold tabL;rw[h1] at h3|-;dsimp only at h3|-;have h4:T.length=T.countP (·.2)+(T.filter fun x=>!x.2).length:=by
  rw[<-List.countP_eq_length_filter,List.length_eq_countP_add_countP (·.2) (l:=T)]
  congr 2
  funext x
  cases x.2<;>rfl
 omega
theorem QsY (ls:List Bs) (H:List QCh):Up Qeu (QhU ls H):=QAe (q:=2) (fun _=>rfl) (fun x y=>(QeP x y).trans ⟨fun e=>by rw[e],Qjp x y⟩) (QdQ (QgS (q:=2) (fun _=>rfl)) _)
theorem Qjr {ls:List Bs} {H:List QCh} {p:QCj}:p∈QhU ls H↔p∈QhT (Q3 ls) (Qbg ls) (gOf (ZY ls) H):=by
 unfold QhU;rw[QsM fun x y e=>(QeP x y).1 e,(JO _ _).mem_iff]
theorem Qwr {ls:List Bs} (h:Small ls) (hc:Qcu ls=0):(Q3 ls).length+(Qbg ls).length<=16:=by
 have J:=(Qbe hc).1;have hl:ls.length<=16:=by
  unfold QgZ at J;split at J
  ·cases J
  ·omega
 have e1:(Q3 ls).length=((ls.map wsL).filter fun c=>c.getD 0 []==wPort).length:=by
  unfold Q3 cutK;rw[Y4 hc,Yb];rfl
 have O:(Qbg ls).length=((ls.map wsL).filter fun c=>c.getD 0 []==wRoute).length:=by
  rw[Qjm,QfB,Yb];unfold cutK;rw[Y4 hc];rfl
 have hm:(ls.map wsL).length<=16:=by rw[Yb];exact hl
 rw[e1,O];have N:∀cs:List (List Bs),(cs.filter fun c=>c.getD 0 []==wPort).length+(cs.filter fun c=>c.getD 0 []==wRoute).length<=cs.length:=by
  intro cs
  induction cs with
  |nil=>exact Yh _
  |cons c r ih=>
   rw[X1,X1,Y8]
   by_cases I:(c.getD 0 []==wPort)=true
   ·have U:¬(c.getD 0 []==wRoute)=true:=by
     rw[YD] at I|-;rw[I];decide
    rw[Y4 I,Y3 U,Y8];omega
   ·rw[Y3 I];split
    ·rw[Y8];omega
    ·omega
 exact Xl (N _) hm
theorem Qqw {ls:List Bs} (h:Small ls) (hc:Qcu ls=0) (H:List QCh):((rowsV ls H).filter fun x=>!x.2).length<=16:=by
 have O:=Qwr h hc;have e:(rowsV ls H).filter (fun x=>!x.2)=((QhU ls H).filter fun p=>!decide (ZV (Q3 ls) (Qbg ls) p=[])).map (J5 (Q3 ls) (Qbg ls) (gOf (ZY ls) H)):=by
  unfold rowsV;rw[Y0w]
  rfl
 have U:((QhU ls H).filter fun p=>!decide (ZV (Q3 ls) (Qbg ls) p=[]))=dd preEq (QaA (fun x y=>kLt (Qeu x) (Qeu y)) (QhT (Q3 ls) (Qbg ls) [])):=by
  refine QAd (ks:=Qeu) (q:=2) (fun _=>rfl) (Qqn (QsY ls H) _) (QAe (q:=2) (fun _=>rfl) (fun x y=>(QeP x y).trans ⟨fun e=>by rw[e],Qjp x y⟩) (QdQ (QgS (q:=2) (fun _=>rfl)) _)) fun p=>?_;rw[Yp,QsM (fun x y e=>(QeP x y).1 e),(JO _ _).mem_iff,Qjr,Qf8,Qf8,<-Y1b,Y6];have I:=Qlh (Ps:=Q3 ls) (V:=Qbg ls) p
  constructor
  ·rintro⟨_,N⟩;exact(I.1 N).elim .inl fun q=>.inr (.inl q)
  ·rintro(q|q|⟨h,J,_⟩)
   ·exact⟨.inl q,I.2 (.inl q)⟩
   ·exact⟨.inr (.inl q),I.2 (.inr q)⟩
   ·cases J
 rw[e,Yb,U];refine Xl (QyN _) ?_;rw[QeJ];unfold QhT;rw[List.flatMap_nil,Xp,Yj,Yb,Yb];exact O
theorem QrY {ls:List Bs} {H:List QCh} {r:QCl} (I:r∈tabL (rowsV ls H)):∃p∈QhU ls H,r=(J5 (Q3 ls) (Qbg ls) (gOf (ZY ls) H) p).1:=by
 have h1:=(QsW 16 (rowsV ls H).length (rowsV ls H)).subset I;have⟨x,J,e⟩:=Yo.1 h1;obtain⟨p,hp,rfl⟩:=Yo.1 J;exact⟨p,hp,e.symm⟩
theorem Qx5 (ls:List Bs) (H:List QCh):(tabL (rowsV ls H)).Pairwise fun r s=>kLt [r.Addr,r.Len] [s.Addr,s.Len]=true:=by
 refine List.Pairwise.sublist (QsW 16 (rowsV ls H).length (rowsV ls H)) ?_;unfold rowsV;rw[XT,Xc];exact QsY ls H
theorem Qws {ls:List Bs} (h:Small ls) {H:List QCh} (hH:Hd H) {p:QCj} (hp:p∈QhU ls H):(Qf9 (Q3 ls) (Qbg ls) (gOf (ZY ls) H) p).length<=4∧1<=(Qf9 (Q3 ls) (Qbg ls) (gOf (ZY ls) H) p).length∧Up Qet (Qf9 (Q3 ls) (Qbg ls) (gOf (ZY ls) H) p)∧∀x∈Qf9 (Q3 ls) (Qbg ls) (gOf (ZY ls) H) p,0<=x.Next∧x.Next<=65535∧0<=x.Port∧x.Port<=15:=by
 have S:=QsV h hH;have O:Qf9 (Q3 ls) (Qbg ls) (gOf (ZY ls) H) p≠ []:=by
  have:=(Qwi (Ps:=Q3 ls) (V:=Qbg ls) S.t.gs p).2 (Qjr.1 hp);unfold okP at this;exact YN this
 have N:∀x,Qpf (Q3 ls) x≠none->0<=Qt9 (Q3 ls) x∧Qt9 (Q3 ls) x<=15:=fun x J=>by
  cases hk:Qpf (Q3 ls) x with
  |none=>exact absurd hk J
  |some k=>
   have⟨k1,k2⟩:=QrT hk;have:=S.t.ps.no _ (Q0 k1);omega
 have I:(Qaa (Q3 ls) p).length<=1∧∀x∈Qaa (Q3 ls) p,0<=x.Next∧x.Next<=65535∧0<=x.Port∧x.Port<=15:=by
  unfold Qaa
  cases hr:Zi (fun i=>mtQ p ((Q3 ls).getD i default)) (Q3 ls).length with
  |none=>exact⟨XW _,fun x J=>by cases J⟩
  |some i=>
   refine⟨Yh _,fun x J=>?_⟩;have:=S.t.ps.no _ (Q0 (Z5 hr).1);rw[XF.1 J];dsimp only;omega
 have Y:∀xs:List QCk,xs.Pairwise (fun x y=>Qet x≠Qet y)->(∀x∈xs,0<=x.Next∧x.Next<=65535∧0<=x.Port∧x.Port<=15)->Up Qet ((QaA (fun x y=>kLt (Qet x) (Qet y)) xs).take 4)∧∀x∈(QaA (fun x y=>kLt (Qet x) (Qet y)) xs).take 4,0<=x.Next∧x.Next<=65535∧0<=x.Port∧x.Port<=15:=fun xs h1 h2=>by
  refine⟨List.Pairwise.sublist (List.take_sublist _ _) (Qqr (ks:=Qet) (q:=2) (fun _=>rfl) h1),fun x J=>h2 x ?_⟩;exact(JO _ _).mem_iff.1 ((List.take_sublist _ _).subset J)
 have U:(Qf9 (Q3 ls) (Qbg ls) (gOf (ZY ls) H) p).length<=4:=by
  unfold Qf9;rw[Ym];omega
 refine⟨U,Nat.one_le_iff_ne_zero.2 fun e=>O (XR.1 e),?_⟩;unfold Qf9;refine Y _ ?_ ?_
 ·split
  ·rw[Qlg S.t.gs,Xc];refine((hH.rise.filter _).filter _).imp fun {a b} hab e=>?_;unfold Qet Qjw at e;simp only[Y02] at e;omega
  ·unfold ZV;split
   ·unfold Qfh;rw[Xc];refine((Quc h).filter _).imp_of_mem fun {a b} ha hb O e=>O ?_;have q1:=(Yp.1 ha).2;have q2:=(Yp.1 hb).2;unfold mtV at q1 q2;simp only[Y2,YD] at q1 q2;unfold Qet at e;simp only[Y02] at e;unfold viaK;rw[q1.1,q1.2,q2.1,q2.2,e.1]
   ·have:=I.1
    match Qaa (Q3 ls) p,this with
    |[],_=>exact .nil
    |[x],_=>exact List.pairwise_singleton _ _
    |_::_::_,h=>exact absurd h (by simp)
 ·split
  ·rw[Qlg S.t.gs];intro x J;obtain⟨g,hg,rfl⟩:=Yo.1 J;have hg:=(Yp.1 hg).1;have h1:=QsU h (Yp.1 hg).2;have h2:=N _ (S.gn g hg);unfold Qjw;dsimp only;omega
  ·unfold ZV;split
   ·intro x J;unfold Qfh at J;obtain⟨v,hv,rfl⟩:=Yo.1 J;have hv:=(Yp.1 hv).1;have h1:=Qwm h v hv;have h2:=(QrW h v hv).1;have h3:=N _ (S.vn v hv);dsimp only;omega
   ·exact I.2
theorem QB7 (a b c d:Int):kLt [a,b] [c,d]=(decide (a<c)||((a==c)&&decide (b<d))):=by
 rw[QbK,QbK,Qin,QrD];simp
theorem QAm {hs:List QCk} (h1:1<=hs.length) (h4:hs.length<=4) (O:Up Qet hs) (U:∀x∈hs,0<=x.Next∧x.Next<=65535∧0<=x.Port∧x.Port<=15):Qa4 hs=some true:=by
 unfold Qa4;rw[QbN hs.length (fun _=>true) (.inl ()) (.inr ()) (fun i hi _=>?_) (fun _=>by rw[Y3 (by simp)]),Y4 (Qck fun _ _=>rfl),Qa]
 ·dsimp only;rw[Qhh,Qa,QeO.2 (by omega)]
 ·have hx:=U _ (Q0 hi);have J:QeX (hs.getD i default)=some true:=by
   unfold QeX;rw[Qhh,Qa,QeO.2 (by omega),Qs rfl,Qhh,Qa,QeO.2 (by omega)]
   rfl
  rw[Y4 (by rw[Y6];omega),Qd (by omega),Y1,J,Qa,Qf hi (by omega),Y4 rfl]
  by_cases h0:0<i
  ·have I:=QAl O (by omega:i-1<i) hi;have I:kLt (Qet (hs.getD (i-1) default)) (Qet (hs.getD i default))=true:=I;unfold Qet at I;rw[QB7] at I;rw[Qa0 hi h0 (by omega),Qd (fun _ _=>by omega),Y1];have N:Qap (hs.getD (i-1) default) (hs.getD i default)=some true:=by
    unfold Qap;rw[I]
   rw[N,Qjc,Qa,Yq (by omega:(i:Int)>0)]
   rfl
  ·have Y:i=0:=by omega
   subst Y;rw[Qd (fun q=>absurd q (by decide)),QS (fun q=>absurd q.1 (by decide)),Qa]
   rfl
theorem Qud {ls:List Bs} (h:Small ls) (hc:Qcu ls=0) {H:List QCh} (J:Hd H):QbG (tabL (rowsV ls H))=some true:=by
 have hl:(tabL (rowsV ls H)).length<=16:=QsX (Qqw h hc H);have N:=Qx5 ls H;have hm:∀r∈tabL (rowsV ls H),QbO r.Addr r.Len=true∧Qa4 r.Hops=some true:=fun r Y=>by
  obtain⟨p,hp,rfl⟩:=QrY Y;have⟨O,U,a3,a4⟩:=Qws h J hp;exact⟨Qwo h (QsQ ⟨J.few,J.ents⟩) p (Qjr.1 hp),QAm U O a3 a4⟩
 generalize tabL (rowsV ls H)=T at hl N hm|-;unfold QbG;rw[QbN T.length (fun _=>true) (.inl ()) (.inr ()) (fun i hi _=>?_) (fun _=>by rw[Y3 (by simp)]),Y4 (Qck fun _ _=>rfl),Qa]
 ·show some (decide (((T.length:Nat):Int)<=16))=some true;rw[Yq (by omega)]
 ·have⟨m1,m2⟩:=hm _ (Q0 hi);have hN:QaO (⟨(T.getD i default).Addr,(T.getD i default).Len⟩:QCj)=some true:=by rw[QvR,m1]
  rw[Y4 (by rw[Y6];omega),Qd (by omega),Y1];unfold JZ;rw[Qa,hN,Qa,Qs (by decide),m2,Qa,Qf hi (by omega),Y4 rfl]
  by_cases h0:0<i
  ·have I:=QAl N (by omega:i-1<i) hi;rw[QB7] at I;rw[Qa0 hi h0 (by omega),Qd (fun _ _=>by omega),Qd (fun _ _=>by omega),Y1];have hb:QcZ ((T.getD (i-1) default).Addr) ((T.getD (i-1) default).Len) ((T.getD i default).Addr) ((T.getD i default).Len)=some true:=by
    unfold QcZ;rw[I]
   rw[hb,Qjc,Qa,Yq (by omega:(i:Int)>0)]
   rfl
  ·have e0:i=0:=by omega
   subst e0;rw[Qd (fun q=>absurd q (by decide)),Qd (fun q=>absurd q (by decide)),QS (fun q=>absurd q.1 (by decide)),Qa]
   rfl
def Rd (n:Nat) (r:QCi):Prop:=RdOk4 r (1000000-(n:Int))
theorem Rd.mono {n m:Nat} {r:QCi} (h:Rd n r) (k:m<=n):Rd m r:=⟨h.bytes,h.len,h.p0,by have:=h.p1;omega⟩
theorem Qpc {b:List Int} {p m:Int} {n:Nat} (h:Rd (n+1) ⟨b,p⟩) (hm:1<=m):Post (QT ⟨b,p⟩ m) fun x=>(0<=x.1∧x.1<m)∧Rd n ⟨b,x.2.p⟩:=by
 refine(QtN h (by omega) hm).mono fun x ⟨h1,h2⟩=>⟨h1,h2.bytes,h2.len,h2.p0,?_⟩;have:=h2.p1;dsimp only at this|-;omega
def QhV {α:Type} (f:α->QCg) (t:List α) (a:Int):Nat:=(t.filter fun x=>decide (a<=(f x).Addr)).length
theorem Qwt {α:Type} {f:α->QCg} (t:List α) (a:Int):QhV f t a<=t.length:=XB _ _
theorem QmA {α:Type} {f:α->QCg} (t:List α) (a:Int):QhV f t (a+1)<=QhV f t a:=by
 induction t with
 |nil=>exact Yh _
 |cons x r I=>
  unfold QhV at*;rw[X1,X1]
  by_cases c:a+1<=(f x).Addr
  ·rw[Y4 (by simpa using c),Y4 (by simp;omega)];simpa using I
  ·rw[Y3 (by simpa using c)];split
   ·simp only[Y8];omega
   ·exact I
theorem Qcq {α:Type} {f:α->QCg} (s t:List α) (a:Int):QhV f (s++t) a=QhV f s a+QhV f t a:=by
 unfold QhV;rw[Xy,Yj]
section
variable {α:Type} [Inhabited α] {f:α→QCg}
theorem Qwu {t:List α} {e:QCg} {x:α} (hx:(f x).Addr=e.Addr) {N:Nat} (hN:t.length<N):
  let O:=if QnV f t e=true then t.set (posK f t e) x else t.take (posK f t e)++[x]++t.drop (posK f t e)
  (N-O.length)+QhV f O (e.Addr+1)<(N-t.length)+QhV f t e.Addr∧O.length<=t.length+1:=by
 have w3:=Qo7 (f:=f) t e;have one:QhV f [x] (e.Addr+1)=0:=by
  unfold QhV;rw[X1,Y3 (by rw[hx];simp;omega)]
  rfl
 dsimp only
 cases hh:QnV f t e
 ·simp only[Yw,Xi];have m:=QmA (f:=f) t e.Addr;have e1:QhV f t (e.Addr+1)=QhV f (t.take (posK f t e)) (e.Addr+1)+QhV f (t.drop (posK f t e)) (e.Addr+1):=by
   rw[<-Qcq,Y01]
  have J:(t.take (posK f t e)++[x]++t.drop (posK f t e)).length=t.length+1:=by simp;omega
  rw[Qcq,Qcq,one,J];omega
 ·have⟨I,U,q3⟩:=Qf7.1 hh;simp only[YE];have g:t.getD (posK f t e) default=t[posK f t e]:=by rw[Y0,Y5 I];rfl
  have s1:t.set (posK f t e) x=t.take (posK f t e)++([x]++t.drop (posK f t e+1)):=by
   rw[List.set_eq_take_append_cons_drop,Y4 I];rfl
  have s2:t=t.take (posK f t e)++([t[posK f t e]]++t.drop (posK f t e+1)):=by
   have:=Y01 (posK f t e) t;rw[X2 I] at this;exact this.symm
  have Y:QhV f [t[posK f t e]] e.Addr=1:=by
   unfold QhV;rw[g] at U;rw[X1,Y4 (by simp;omega)]
   rfl
  have e1:QhV f (t.set (posK f t e) x) (e.Addr+1)=QhV f (t.take (posK f t e)) (e.Addr+1)+(0+QhV f (t.drop (posK f t e+1)) (e.Addr+1)):=by
   rw[s1,Qcq,Qcq,one]
  have J:QhV f t e.Addr=QhV f (t.take (posK f t e)) e.Addr+(1+QhV f (t.drop (posK f t e+1)) e.Addr):=by
   conv=>lhs;rw[s2]
   rw[Qcq,Qcq,Y]
  have m1:=QmA (f:=f) (t.take (posK f t e)) e.Addr;have m2:=QmA (f:=f) (t.drop (posK f t e+1)) e.Addr;rw[e1,J,Y03];omega
end
theorem QmB {b:List Int} {p:Int} {n:Nat} (h:Rd (n+2) ⟨b,p⟩) (e:QCg):Post (QaC ⟨b,p⟩ e) fun x=>Rd n ⟨b,x.2.p⟩:=by
 unfold QaC;refine .bd (Qpc (n:=n+1) h (by decide)) fun x1 ⟨q1,I⟩=>.ite (fun _=>.bd (Qpc (n:=n) I (by decide)) fun x ⟨q,r⟩=>.gd (by simp;omega) (.ret r)) fun _=>.ite (fun _=>.bd (Qpc (n:=n) I (by decide)) fun x ⟨q,r⟩=>.gd (by simp;omega) (.ret r)) fun _=>.ite (fun _=>.bd (Qpc (n:=n) I (by decide)) fun x ⟨q,r⟩=>.gd (by simp;omega) (.ret r)) fun _=>.bd (Qpc (n:=n) I (by decide)) fun x ⟨q,r⟩=>.gd (by simp;omega) (.ret r)
theorem Qqx {b:List Int} {p:Int} {n:Nat} (h:Rd (n+12) ⟨b,p⟩) {t:List QCg} (ht:t.length<=16):Post (lp (σ:=List QCg×Int×Int) (β:=(Nat×(List QCg)×Int)) (fun I=>
  bd (QT (⟨b,I.2.1⟩:QCi) 2) fun J=>
  (if(decide (I.2.2<(IntKind.i64.wrap (8+J.1))))=true then
  gd (((I.1.length)+(([(⟨IntKind.i64.wrap (61440+I.2.2),16,1,0⟩:QCg)]:List QCg).length))*(32+1)<=70368744177664)<|
  some (.inl ((I.1++([(⟨IntKind.i64.wrap (61440+I.2.2),16,1,0⟩:QCg)]:List QCg)),J.2.p,IntKind.i64.wrap (I.2.2+1)))
  else
  some (.inr (I.1.length,I.1,J.2.p)))) (t,p,0)) fun x=>x.2.1.length<=40∧Rd n ⟨b,x.2.2⟩:=by
 refine .lp (fun s=>(s.1.length:Int)<=16+s.2.2∧(0<=s.2.2∧s.2.2<=9)∧Rd (n+1+(10-s.2.2.toNat)) ⟨b,s.2.1⟩) (fun s=>(10-s.2.2).toNat) ⟨by dsimp only;omega,by dsimp only;omega,h.mono (by dsimp only;omega)⟩ fun s ⟨s0,s1,N⟩=>.bd (Qpc (n:=n+(10-s.2.2.toNat)) (N.mono (by omega)) (by decide)) fun x ⟨q,r⟩=>?_;rw[Ql (n:=8+x.1) (by omega) (by omega),Ql (n:=s.2.2+1) (by omega) (by omega)];refine .ite (fun c=>.gd (by simp;omega) (.ret ⟨⟨by simp;omega,?_,r.mono ?_⟩,?_⟩)) fun _=>.ret ⟨by dsimp only;omega,r.mono (by omega)⟩
 ·have:=YN c;dsimp only;omega
 ·dsimp only;omega
 ·have:=YN c;dsimp only;omega
theorem QmC {b:List Int} {p:Int} {n:Nat} (h:Rd (n+20) ⟨b,p⟩) {t:List QCg} (ht:t.length<=16):Post (QaD ⟨b,p⟩ t) fun x=>x.1.length<=40∧Rd n ⟨b,x.2.p⟩:=by
 unfold QaD;rw[QvU (by omega),Qa];refine .bd (Q:=fun r=>match r with| .inl d=>t.length≠0∧Rd (n+10) ⟨b,d⟩| .inr d=>d.2.1.length<=40∧Rd n ⟨b,d.2.2⟩) ?_ fun r J=>?_
 ·refine .ite (fun _=>.ite (fun _=>.bd (Qqx (n:=n) (h.mono (by omega)) ht) fun x U=>.ret U) fun c=>absurd (by simp) c) fun c0=>.bd (Qpc (n:=n+19) h (by decide)) fun x6 ⟨q6,r6⟩=>.ite (fun _=>.bd (Qqx (n:=n) (r6.mono (by omega)) ht) fun x U=>.ret U) fun _=>.ret ⟨?_,r6.mono (by omega)⟩;intro q;rw[q] at c0;exact c0 rfl
 ·match r,J with
  | .inl d,⟨h0,J⟩=>
   refine .bd (Qpc (n:=n+9) J (by omega)) fun x21 ⟨I,Y⟩=>.bd (Qpc (n:=n+8) Y (by decide)) fun x22 ⟨q22,N⟩=>.ite (fun _=>.gd I (.gd (by simp;omega) (.ret ⟨by simp;omega,N.mono (by omega)⟩))) fun _=>.gd I (.bd (QmB (n:=n+6) N _) fun x26 O=>.gd I (.ret ⟨by simp;omega,O.mono (by omega)⟩))
  | .inr d,J=>exact .ret J
theorem Qwv {α:Type} {f:α->QCg} (t:List α) {a I:Int} (h:a<=I):QhV f t I<=QhV f t a:=by
 induction t with
 |nil=>exact Yh _
 |cons x r J=>
  unfold QhV at*;rw[X1,X1]
  by_cases c:I<=(f x).Addr
  ·rw[Y4 (by simpa using c),Y4 (by simp;omega)];simpa using J
  ·rw[Y3 (by simpa using c)];split
   ·simp only[Y8];omega
   ·exact J
theorem QsZ {t:List QCg} {e:QCg} {N:Nat} (Y:t.length<N) {a:Int} (J:e.Addr+1<=a):(N-(QxO t e).length)+QhV idE (QxO t e) a<(N-t.length)+QhV idE t e.Addr∧(QxO t e).length<=t.length+1:=by
 have⟨U,I⟩:=Qwu (f:=idE) (t:=t) (e:=e) (x:=e) rfl Y;have O:QxO t e=(if QnV idE t e=true then t.set (posK idE t e) e else t.take (posK idE t e)++[e]++t.drop (posK idE t e)):=rfl;rw[<-O] at U I;have:=Qwv (f:=idE) (QxO t e) J;exact⟨by omega,I⟩
theorem QBX {b:List Int} {p k:Int} (h:Rq b p k) {n:Nat} (hk:k+n<=1000000):Rd n ⟨b,p⟩:=⟨h.bytes,h.len,h.p0,by have:=h.p1;dsimp only;omega⟩
theorem Qx6 (t:List QCg) (e:QCg):(QxO t e).length<=t.length+1:=by
 have w3:=Qo7 (f:=idE) t e;unfold QxO;split
 ·simp
 ·simp;omega
theorem Qww {b:List Int} {p k:Int} (h:Rq b p k) (hk:k<=100000):Post (Qdt ⟨b,p⟩) fun x=>x.1.length<=16∧Rq b x.2.p (k+20):=by
 unfold Qdt;refine .bd (pk1 h (by omega) (by decide)) fun x1 ⟨q1,O⟩=>.bd (Q:=fun x=>x.2.1.length<=4∧Rq b x.2.2 (k+18)) (.lp (fun s=>(0<=s.2.2∧s.2.2<=4∧(s.1.length:Int)+s.2.2<=4)∧Rq b s.2.1 (k+1+2*(4-s.2.2))) (fun s=>s.2.2.toNat) ⟨⟨by dsimp only;omega,by dsimp only;omega,by simp;omega⟩,O.mono (by dsimp only;omega)⟩ fun s ⟨U,J⟩=>.ite (fun c=>?_) fun c=>.ret ⟨by dsimp only;omega,J.mono (by omega)⟩) fun x5 ⟨t5,r5⟩=>?_
 ·have c:s.2.2>0:=by simpa using c
  refine .bd (pk1 J (by omega) (by decide)) fun x6 ⟨q6,N⟩=>.gd (by simp;omega) (.bd (pk1 N (by omega) (by decide)) fun x8 ⟨q8,r8⟩=>?_);rw[QrJ (by omega),Qa,Ql (n:=s.2.2-1) (by omega) (by omega)];refine .ret ⟨⟨⟨?_,?_,?_⟩,r8.mono (by dsimp only;omega)⟩,by dsimp only;omega⟩
  ·dsimp only;omega
  ·dsimp only;omega
  ·exact Int.le_trans (Int.add_le_add_right (Int.ofNat_le.2 (Qx6 _ _)) _) (by dsimp only;omega)
 ·refine .bd (pk1 r5 (by omega) (by decide)) fun x11 ⟨q11,I⟩=>.ite (fun _=>.bd (Q:=fun x=>x.2.length<=16) (.lp (fun s=>s.1.length<=16∧(0<=s.2∧s.2+((8-s.1.length+QhV idE s.1 (16384+257*s.2):Nat):Int)<=64)) (fun s=>8-s.1.length+QhV idE s.1 (16384+257*s.2)) ⟨by dsimp only;omega,X7 _,?_⟩ fun s ⟨s0,U,J⟩=>.ite (fun d=>?_) fun d=>.ret s0) fun x Y=>.ret ⟨Y,I.mono (by omega)⟩) fun _=>.ret ⟨by dsimp only;omega,I.mono (by omega)⟩
  ·have:=Qwt (f:=idE) x5.2.1 (16384+257*0);dsimp only;omega
  ·have d:s.1.length<8:=by
    have:((s.1.length:Nat):Int)<8:=by simpa using d
    omega
   rw[Ql (n:=257*s.2) (by omega) (by omega),Ql (n:=16384+257*s.2) (by omega) (by omega),QrJ (by omega),Qa,Ql (n:=s.2+1) (by omega) (by omega)];have⟨f1,f2⟩:=QsZ (t:=s.1) (e:=⟨16384+257*s.2,16,1,0⟩) d (a:=16384+257*(s.2+1)) (by dsimp only;omega);dsimp only at f1;exact .ret ⟨⟨by dsimp only;omega,by dsimp only;omega,by dsimp only;omega⟩,by dsimp only;omega⟩
theorem Que {b:List Int} {p k:Int} (h:Rq b p k) (hk:k<=100000):Post (QcF ⟨b,p⟩) fun x=>x.1.length<=3∧Rq b x.2.p (k+2):=by
 unfold QcF;refine .bd (pk1 h (by omega) (by decide)) fun x1 ⟨q1,I⟩=>.ite (fun _=>.ret ⟨by simp,I.mono (by omega)⟩) fun _=>.ite (fun _=>.ret ⟨by simp,I.mono (by omega)⟩) fun _=>.ite (fun _=>.ret ⟨by simp,I.mono (by omega)⟩) fun _=>.ite (fun _=>.bd (pk1 I (by omega) (by decide)) fun x2 ⟨q2,J⟩=>.ite (fun _=>.ret ⟨by simp,J.mono (by omega)⟩) fun _=>.ret ⟨by simp,J.mono (by omega)⟩) fun _=>.ret ⟨by simp,I.mono (by omega)⟩
def Few (H:List QCh):Prop:=∀h∈H,h.Entries.length<=16
theorem Qwx {H:List QCh} (h:Few H) {x:QCh} (J:x.Entries.length<=16):Few (H++[x]):=fun y I=>by
 rcases Yx.1 I with m|m
 ·exact h y m
 ·rw[XF.1 m];exact J
theorem Quf {b:List Int} {p k:Int} (h:Rq b p k) (hk:k<=1000):Post (QcG ⟨b,p⟩) fun x=>x.1.length<=10:=by
 unfold QcG;refine .bd (Que h (by omega)) ?_;rintro⟨O,r⟩ ⟨hn,hr⟩;dsimp only at hn hr|-;refine .bd (Q:=fun x=>(x.1=x.2.1.length∧x.2.1.length<=3∧Few x.2.1)∧Rq b x.2.2 (k+1000)) (.lp (fun s=>∃i:Nat,s.2.2=(i:Int)∧i<=O.length∧s.1.length=i∧Few s.1∧Rq b s.2.1 (k+2+100*i)) (fun s=>O.length-s.2.2.toNat) ⟨0,rfl,by omega,rfl,(fun x hx=>by cases hx),hr.mono (by omega)⟩ ?_) ?_
 ·rintro⟨out,q,z⟩ ⟨i,e,hi,hl,J,N⟩;dsimp only at e hl J N|-;subst e;refine .ite (fun c=>?_) fun c=>.ret ⟨⟨rfl,by dsimp only;omega,J⟩,N.mono (by omega)⟩;have c:=YN c;refine .gd (by omega) (.bd (Qww N (by omega)) ?_);rintro⟨w,r7⟩ ⟨hw,a1⟩;dsimp only at hw a1|-;refine .bd (pk1 a1 (by omega) (by decide)) fun x8 ⟨q8,r8⟩=>.ite (fun _=>?_) fun _=>.gd (by simp only[Y8,Yd];omega) (.ret ?_)
  ·refine .bd (Q:=fun x=>x.2.1.length<=16∧Rq b x.2.2 (k+2+100*i+100)) (.lp (fun s=>s.1.length<=16∧(0<=s.2.2∧s.2.2+((16-s.1.length+QhV idE s.1 (24576+9*s.2.2):Nat):Int)<=40)∧Rq b s.2.1 (k+2+100*i+20+1+s.2.2)) (fun s=>16-s.1.length+QhV idE s.1 (24576+9*s.2.2)) ⟨hw,⟨X7 _,?_⟩,r8.mono (by dsimp only;omega)⟩ fun s ⟨s0,⟨s1,s2⟩,s3⟩=>.ite (fun d=>?_) fun d=>.ret ⟨s0,s3.mono (by omega)⟩) ?_
   ·have:=Qwt (f:=idE) w (24576+9*0);dsimp only;omega
   ·have d:s.1.length<16:=by
     have:((s.1.length:Nat):Int)<16:=by simpa using d
     omega
    refine .bd (pk1 s3 (by omega) (by decide)) fun U ⟨q13,a6⟩=>?_;rw[Ql (n:=9*s.2.2) (by omega) (by omega),Ql (n:=24576+9*s.2.2) (by omega) (by omega),Ql (n:=1+U.1) (by omega) (by omega),QrJ (by omega),Qa,Ql (n:=s.2.2+1) (by omega) (by omega)];have⟨f1,f2⟩:=QsZ (t:=s.1) (e:=⟨24576+9*s.2.2,16,1+U.1,0⟩) d (a:=24576+9*(s.2.2+1)) (by dsimp only;omega);dsimp only at f1;exact .ret ⟨⟨by dsimp only;omega,⟨by dsimp only;omega,by dsimp only;omega⟩,a6.mono (by dsimp only;omega)⟩,by dsimp only;omega⟩
   ·rintro⟨n9,t9,p9⟩ ⟨h9,r9⟩;dsimp only at h9 r9|-;refine .gd (by simp only[Y8,Yd];omega) (.ret ⟨⟨i+1,by rw[Qf (n:=O.length) (by omega) (by omega)],by omega,by simp[hl],Qwx J h9,r9.mono (by omega)⟩,?_⟩);dsimp only;rw[Qf (n:=O.length) (by omega) (by omega)];omega
  ·refine⟨⟨i+1,by rw[Qf (n:=O.length) (by omega) (by omega)],by omega,by simp[hl],Qwx J hw,r8.mono (by omega)⟩,?_⟩;dsimp only;rw[Qf (n:=O.length) (by omega) (by omega)];omega
 ·rintro⟨n5,H,p5⟩ ⟨⟨e5,hl,J⟩,N⟩;dsimp only at e5 hl J N|-;subst e5;refine .bd (pk1 N (by omega) (by decide)) fun x19 ⟨q19,a2⟩=>.ite (fun c=>?_) fun _=>.ret (by dsimp only;omega);simp only[Y2,Y6] at c;refine .bd (pk1 a2 (by omega) (by omega)) fun x20 ⟨I,a5⟩=>.bd (pk1 a5 (by omega) (by decide)) fun x21 ⟨q21,Y⟩=>.ite (fun _=>.bd (pk1 Y (by omega) (by decide)) fun x22 ⟨q22,r22⟩=>.gd (by simp;omega) (.gd I ?_)) fun _=>.ite (fun _=>.gd I (.bd (QmC (n:=10) (QBX Y (by omega)) (J _ (Q0 (by omega)))) fun x27 _=>.gd I (.ret (by simp;omega)))) fun _=>.gd I (.gd I (.gd (by simp only[Y8,Yd];omega) (.ret (by simp;omega))));rw[Qa];exact .ret (by simp;omega)
theorem Qna {a:List Int} (ha:a.length<=9223372036854775807) (h:∀x∈a,Qox x):Post (QaE a) fun x=>Sm x.1 50∧x.2.length<=10:=by
 unfold QaE;refine .bd (Qve ha h) ?_;rintro⟨b,p⟩ ⟨N,Y,O,J⟩;have U:Rq b p 0:=⟨N,Y,O,J⟩;refine .bd (QxL U (by omega)) ?_;rintro⟨ls,r⟩ ⟨hs,I⟩;dsimp only at hs I|-;refine .bd (Quf I (by omega)) fun x3 h3=>.ret ⟨hs.mono (by omega),h3⟩
theorem Qx7 {xs:List QCk} (h:xs.length<=1048576):Qej xs xs=some true:=by
 unfold Qej;rw[Y3 (by simp),QbN xs.length (fun _=>true) (.inl ()) (.inr ()) (fun i hi _=>?_) (fun _=>by rw[Y3 (by simp)]),Y4 (Qck fun _ _=>rfl),Qa];rw[Y4 (by simp;omega),Qd (by omega),Qd (by omega),Y3 (by simp),Y4 rfl,Qf hi (by omega)]
theorem Qqy {xs:List QCl} (h:xs.length<=1048576) (I:∀r∈xs,r.Hops.length<=1048576):Qdz xs xs=some true:=by
 unfold Qdz;rw[Y3 (by simp),QbN xs.length (fun _=>true) (.inl ()) (.inr ()) (fun i hi _=>?_) (fun _=>by rw[Y3 (by simp)]),Y4 (Qck fun _ _=>rfl),Qa];rw[Y4 (by simp;omega),Qd (by omega),Qd (by omega),Qd (fun _=>by omega),Qd (fun _=>by omega),Qd (fun _=>by omega),Qd (fun _=>by omega),Y1,Qx7 (I _ (Q0 hi)),Qs (by simp),Qa,Y3 (by simp),Y4 rfl,Qf hi (by omega)]
theorem Qs0 {α:Type} (p:α->Bool):∀(xs:List α) (b:Bool),xs.foldl (fun a x=>a||p x) b=(b||xs.any p)
 |[],b=>by simp
 |x::r,b=>by rw[Yy,Qs0 p r,List.any_cons,Bool.or_assoc]
theorem Qs1 {α β:Type} [Inhabited α] {step:Bool×Int->Option ((Bool×Int)⊕β)} (xs:List α) (p:α->Bool) (d:Bool->β) (I:Bool) (h1:∀(i:Nat) (a:Bool),i<xs.length->step (a,(i:Int))=some (.inl (a||p (xs.getD i default),((i+1:Nat):Int)))) (h2:∀a,step (a,(xs.length:Int))=some (.inr (d a))):lp step (I,0)=some (d (I||xs.any p)):=by
 have:=(QgT xs.length (fun a i=>a||p (xs.getD i default)) d I (fun _ _=>True) trivial (fun _ _ _ _=>trivial) (fun i a hi _=>h1 i a hi) (fun a _=>h2 a)).1;rw[this,JW xs (fun a x=>a||p x) I,Qs0]
def costP (R:List QCm) (h:QCh) (p:QCj):Int:=if isP R h.Peer=true then costV h p else 0
theorem Qx8 {R:List QCm} (hR:R.length<=1000) {h:QCh} (ho:h.Entries.length<=16∧Ord idE h.Entries∧∀e∈h.Entries,J9 e=true) (r:QCl):Qek h r R=some (costP R h ⟨r.Addr,r.Len⟩):=by
 unfold Qek costP;rw[Qs1 R (fun q=>q.Addr==h.Peer) (fun a=>a) false (fun i a hi=>?_) (fun a=>by rw[Y3 (by simp)]),Qa,YJ]
 ·show bd _ _=some (if isP R h.Peer=true then costV h ⟨r.Addr,r.Len⟩ else 0);have U:(R.any fun q=>q.Addr==h.Peer)=isP R h.Peer:=rfl;rw[U]
  cases hp:isP R h.Peer with
  |false=>
   rw[Zr (b:=.inr ()) (by rw[Y3 (by simp)]),Qa]
   rfl
  |true=>
   rw[Z8 h.Entries.length (fun i=>(h.Entries.getD i default).Addr==r.Addr&&(h.Entries.getD i default).Len==r.Len) (fun i=>.inl ((h.Entries.getD i default).Cost)) (.inr ()) (fun i hi=>?_) (by rw[Y3 (by simp)]),Qa,Y4 rfl]
   ·unfold costV
    cases O:Zi (fun i=>(h.Entries.getD i default).Addr==r.Addr&&(h.Entries.getD i default).Len==r.Len) h.Entries.length with
    |some i=>
     have⟨J,I,_⟩:=Z5 O;simp only[Y2,YD] at I;have⟨p1,Y⟩:=QrI ho.2.1 (e:=Qpg ⟨r.Addr,r.Len⟩) J I;rw[Y4 Y,<-p1]
     rfl
    |none=>
     rw[Y3]
     ·rfl
     ·intro c;have⟨J,I,N⟩:=Qf7.1 c;have:=JV O _ J;have I:(h.Entries.getD (posK idE h.Entries (Qpg ⟨r.Addr,r.Len⟩)) default).Addr=r.Addr:=I;have N:(h.Entries.getD (posK idE h.Entries (Qpg ⟨r.Addr,r.Len⟩)) default).Len=r.Len:=N;rw[I,N] at this;simp at this
   ·rw[Y4 (by rw[YT,Y6];omega),Qd (by omega),Qd (fun _=>by omega),Qd (by omega),Y1,Qf hi (by omega)]
    cases (h.Entries.getD i default).Addr==r.Addr&&(h.Entries.getD i default).Len==r.Len<;>rfl
 ·rw[Y4 (by simp;omega),Qd (fun _=>by dsimp only;omega),Y1,Qf hi (by omega)]
theorem QmD {R:List QCm} (p:QCj) {β:Type} (f:QCh->β):∀(H:List QCh) (c:Int),H.foldl (fun c h=>if 0<costP R h p∧costP R h p<c then costP R h p else c) c=leastC c ((gOf R H).map fun h=>(costV h p,f h))
 |[],_=>rfl
 |h::r,c=>by
  rw[Yy,QmD p f r];unfold gOf costP
  by_cases hp:isP R h.Peer=true
  ·rw[XI (p:=fun h:QCh=>isP R h.Peer) hp,YI,Y4 hp]
   rfl
  ·rw[XJ (p:=fun h:QCh=>isP R h.Peer) hp,Y3 hp,Y3 (by omega)]
theorem Qqz {R:List QCm} (p:QCj) (x:Int):∀(H:List QCh) (c:Int) (g:QCh),H.Pairwise (fun x y=>x.Peer<y.Peer)->g∈H->g.Peer=x->H.foldl (fun c h=>if h.Peer=x then costP R h p else c) c=costP R g p
 |[],_,_,_,hg,_=>by cases hg
 |h::r,c,g,hw,hg,hx=>by
  have⟨h1,h2⟩:=YB.1 hw;rw[Yy];rcases Yi.1 hg with e|m
  ·subst e;rw[Y4 hx];have O:∀(r:List QCh) (c:Int),(∀y∈r,y.Peer≠x)->r.foldl (fun c h=>if h.Peer=x then costP R h p else c) c=c:=by
    intro r
    induction r with
    |nil=>intro c _;rfl
    |cons y r N=>intro c I;rw[Yy,Y3 (I y (by simp)),N c fun z J=>I z (by simp[J])]
   exact O r _ fun y I=>by have:=h1 y I;omega
  ·exact Qqz p x r _ g h2 m hx
theorem Qwy {ls:List Bs} (h:Small ls) {p:QCj} {k:Nat} (N:k<(Q3 ls).length) (hm:mtQ p ((Q3 ls).getD k default)=true):Qaa (Q3 ls) p=[⟨0,((Q3 ls).getD k default).Port⟩]:=by
 unfold Qaa
 cases J:Zi (fun i=>mtQ p ((Q3 ls).getD i default)) (Q3 ls).length with
 |none=>
  have:=JV J k N;rw[hm] at this;cases this
 |some i=>
  have⟨h1,h2,h3⟩:=Z5 J;have I:∀ {j},mtQ p ((Q3 ls).getD j default)=true->QbR ((Q3 ls).getD j default)=p:=fun {j} q=>by
   unfold mtQ at q;simp only[Y2,YD] at q
   cases p
   unfold QbR;rw[QCj.mk.injEq];exact q
  have:i=k:=by
   rcases Nat.lt_trichotomy i k with c|c|c
   ·exact absurd ((I h2).trans (I hm).symm) (QAl (Qwl h) c N)
   ·exact c
   ·have:=h3 k c;rw[hm] at this;cases this
  subst this
  rfl
theorem QAn {Ps:List QCn} {V:List QCo} {p:QCj}:(Ps.any (mtQ p)||V.any (mtV p))=!decide (ZV Ps V p=[]):=by
 rw[YH,<-Y1b,Y6];show _↔ZV Ps V p≠ [];rw[Qlh,Yr,X0,X0];have e1:∀q:QCn,mtQ p q=true↔QbR q=p:=fun q=>by
  cases p
  unfold mtQ QbR;rw[QCj.mk.injEq];simp only[Y2,YD]
 have I:∀v:QCo,mtV p v=true↔QsO v=p:=fun v=>by
  cases p
  unfold mtV QsO;rw[QCj.mk.injEq];simp only[Y2,YD]
 simp only[e1,I]
theorem QqA {α β γ:Type} (f:β->α->β) (g:γ->α->γ):∀(xs:List α) (a:β×γ),xs.foldl (fun a x=>(f a.1 x,g a.2 x)) a=(xs.foldl f a.1,xs.foldl g a.2)
 |[],_=>rfl
 |x::r,a=>by rw[Yy,QqA f g r];rfl
theorem Qug {Ps:List QCn} {V:List QCo} {G:List QCh} {p:QCj} {x:QCk} (h:Qaa Ps p=[x]):Qf9 Ps V G p=[x]:=by
 unfold Qf9 ZV;rw[h,Y3 (by simp),Y3 (by simp),QBW]
 rfl
theorem Quh {Ps:List QCn} {V:List QCo} {G:List QCh} (N:GOk G) {p:QCj} (h:ZV Ps V p=[]) {x:QCk} (I:x∈Qf9 Ps V G p):∃g∈G,x.Next=g.Peer∧0<costV g p∧costV g p=leastC 256 (G.map fun h=>(costV h p,Qjw Ps h)):=by
 unfold Qf9 at I;rw[Y4 h] at I;have I:=(JO _ _).mem_iff.1 ((List.take_sublist _ _).subset I);rw[Qlg N] at I;obtain⟨g,J,rfl⟩:=Yo.1 I;have⟨h1,h2⟩:=Yp.1 J;simp only[Y2,Y6] at h2;exact⟨g,h1,rfl,h2.1,h2.2⟩
theorem Qpd {a0:List Int} (h:a0.length<=9223372036854775807∧∀x∈a0,Qox x):Qc0 a0=some true:=by
 unfold Qc0
 by_cases N:decide (((a0.length:Nat):Int)>1048576)=true
 ·rw[Y4 N]
 rw[Y3 N];have⟨⟨xs,H⟩,e,hs,a6⟩:=Qna h.1 h.2;rw[e,Qa];dsimp only at hs a6|-;rw[QB5 xs];have S:Small (xs.map tB):=⟨fun l hl=>by
  obtain⟨s,b1,rfl⟩:=Yo.1 hl;have:=hs.short s b1;rw[Qvh];omega,by rw[Yb];have:=hs.few;omega⟩
 generalize xs.map tB=ls at S;clear e hs N xs;have hf:=S.few;have hPs:=(QrV S).few;have hVs:=QsT S;rw[Qqv S (by omega),Qa,Qqu S,Qa]
 by_cases hc:Qcu ls=0∧Qfg H=true
 ·have⟨hc,hh⟩:=hc;have hd:=Qo8 hh;have hG:GOk H:=⟨hd.few,hd.ents⟩;have SI:=QsV S hd;have eT:QyR ls H=tabL (rowsV ls H):=by unfold QyR;rw[Y4 ⟨hc,hh⟩]
  rw[eT];have a5:(tabL (rowsV ls H)).length<=16:=QsX (Qqw S hc H);have O:∀r∈tabL (rowsV ls H),r.Hops.length<=4:=fun r Y=>by
   obtain⟨p,hp,rfl⟩:=QrY Y;exact(Qws S hd hp).1
  have a2:∀q∈Q3 ls,∃r∈tabL (rowsV ls H),r.Addr=q.Addr∧r.Len=q.Len:=fun q hq=>by
   have hp:QbR q∈QhU ls H:=Qjr.2 (Qf8.2 (.inl ⟨q,hq,rfl⟩));have hg:ZV (Q3 ls) (Qbg ls) (QbR q)≠ []:=(Qlh _).2 (.inl ⟨q,hq,rfl⟩);refine⟨_,Qwq 16 _ (rowsV ls H) (J5 (Q3 ls) (Qbg ls) (gOf (ZY ls) H) (QbR q)) (Yo.2 ⟨_,hp,rfl⟩) (Yz hg),rfl,rfl⟩
  rw[Qqy (by omega) (fun r Y=>by have:=O r Y;omega),Qa,Qud S hc hd,Qjc,Qa];have e5:((!true)||((decide ((((tabL (rowsV ls H)).length:Nat):Int)>0))&&(!(if(decide ((((tabL (rowsV ls H)).length:Nat):Int)>0)=true∧(!true)=false) then true else default))))=false:=by
   cases hdq:decide ((((tabL (rowsV ls H)).length:Nat):Int)>0) with
   |false=>rfl
   |true=>rw[Y4 ⟨rfl,rfl⟩];rfl
  have iP:Qae (ls.map tS)=some (Q3 ls):=Qmv S;rw[e5,Y3 (by decide),iP,Qa,Qmu S,Qa,Qo5 S,Qa];have J:=fun i (hi:i<(tabL (rowsV ls H)).length)=>QrY (ls:=ls) (H:=H) (Q0 hi);generalize tabL (rowsV ls H)=T at a5 O a2 J|-;rw[QbN T.length (fun _=>true) (.inl ()) (.inr ()) (fun i hi _=>?_) (fun _=>by rw[Y3 (by simp)]),Y4 (Qck fun _ _=>rfl),Qa]
  ·dsimp only
   by_cases hT:T.length=0
   ·rw[Zr (b:=.inr ()) (by rw[hT,Y3 (by simp)]),Qa]
   ·rw[QbN (Q3 ls).length (fun _=>true) (.inl ()) (.inr ()) (fun k I _=>?_) (fun _=>by rw[Y3 (by simp)]),Y4 (Qck fun _ _=>rfl),Qa];rw[Y4 (by rw[Y2,Y6,Y6];omega),Qs1 T (fun r=>r.Addr==((Q3 ls).getD (k:Int).toNat default).Addr&&r.Len==((Q3 ls).getD (k:Int).toNat default).Len) (fun a=>a) false (fun i a hi=>?_) (fun a=>by rw[Y3 (by simp)]),Qa,YJ]
    ·have:(T.any fun r=>r.Addr==((Q3 ls).getD (k:Int).toNat default).Addr&&r.Len==((Q3 ls).getD (k:Int).toNat default).Len)=true:=by
      have⟨r,Y,e1,e2⟩:=a2 _ (Q0 I);rw[Y1];refine X0.2 ⟨r,Y,?_⟩;rw[e1,e2,beq_self_eq_true,beq_self_eq_true];rfl
     rw[this,Y3 (by decide),Y4 rfl,Qf I (by omega)]
    ·dsimp only;rw[Y4 (by rw[Y6];omega),Qd (fun _=>by omega),Qd (fun _=>by omega),Qd (fun _ _=>by omega),Qd (fun _ _=>by omega),Qf hi (by omega),Y1 i]
  ·have⟨p,hp,er⟩:=J i hi;rw[Y4 (by rw[Y6];omega),Qd (by omega),Y4 rfl];have e1:(T.getD (i:Int).toNat default).Addr=p.Addr:=by rw[Y1,er];rfl
   have e2:(T.getD (i:Int).toNat default).Len=p.Len:=by rw[Y1,er];rfl
   have e3:(T.getD (i:Int).toNat default).Hops=Qf9 (Q3 ls) (Qbg ls) (gOf (ZY ls) H) p:=by rw[Y1,er];rfl
   have a7:(T.getD (i:Int).toNat default).Hops.length<=4:=by rw[Y1];exact O _ (Q0 hi)
   have a1:(⟨(T.getD (i:Int).toNat default).Addr,(T.getD (i:Int).toNat default).Len⟩:QCj)=p:=by rw[e1,e2]
   generalize T.getD (i:Int).toNat default=r at e1 e2 e3 a7 a1|-;rw[Qs1 (Q3 ls) (mtQ p) .inr false (fun k a I=>?_) (fun a=>by rw[Y3 (by simp)]),Qa]
   ·dsimp only;rw[Qs1 (Qbg ls) (mtV p) (fun a=>a) _ (fun k a I=>?_) (fun a=>by rw[Y3 (by simp)]),Qa,YJ,QAn]
    ·by_cases hg:ZV (Q3 ls) (Qbg ls) p=[]
     ·rw[Yq hg,QbN r.Hops.length (fun _=>true) (.inl ()) (.inr ()) (fun j hj _=>?_) (fun _=>by rw[Y3 (by simp)]),Y4 (Qck fun _ _=>rfl),Qa]
      ·dsimp only;rw[Qf hi (by omega)]
      ·rw[Y4 (by rw[Y0j,Y00,YT,Y6];omega),Y4 rfl];have a8:(j:Int).toNat<r.Hops.length:=by rw[Y1];exact hj
       have⟨g,a9,g1,g2,g3⟩:=Quh SI.t.gs hg (x:=r.Hops.getD (j:Int).toNat default) (by rw[<-e3];exact Q0 a8);have⟨gH,gP⟩:=Yp.1 a9;have U:=Qqz (R:=ZY ls) p g.Peer H 0 g hd.rise gH rfl;have b0:=QmD (R:=ZY ls) p (Qjw (Q3 ls)) H 256;rw[<-g1] at U;generalize (r.Hops.getD (j:Int).toNat default).Next=x at g1 U|-;refine(Qj4 (fun(a:Int×Int) k=>(a.1,a.2,(k:Int))) H.length (fun a k=>((if(H.getD k default).Peer=x then costP (ZY ls) (H.getD k default) p else a.1),(if 0<costP (ZY ls) (H.getD k default) p∧costP (ZY ls) (H.getD k default) p<a.2 then costP (ZY ls) (H.getD k default) p else a.2))) (fun a=>(a.1,a.2)) (0,256) (fun _ _=>True) rfl trivial (fun _ _ _ _=>trivial) (fun k a I _=>?_) (fun a _=>by rw[Y3 (by simp)])).trans ?_
       ·dsimp only;rw[Y4 (by rw[Y6];omega),Qd (by omega),Y1,Qx8 SI.rl (hG.ents _ (Q0 I)),Qa,a1,Qf I (by omega)];generalize costP (ZY ls) (H.getD k default) p=c;have el:(if(decide (c>0)&&decide (c<a.2))=true then some c else some a.2)=some (if 0<c∧c<a.2 then c else a.2):=by
         by_cases hq:0<c∧c<a.2
         ·rw[Y4 hq,Y4 (by rw[Y2,Y6,Y6];omega)]
         ·rw[Y3 hq,Y3 (by rw[Y2,Y6,Y6];omega)]
        rw[el,Qa,Qd (by omega),Qd (by omega)]
        by_cases hx:(H.getD k default).Peer=x
        ·rw[Y4 (by rw[YD];exact hx),Y4 hx]
        ·rw[Y3 (by rw[YD];exact hx),Y3 hx]
       ·rw[JW H (fun(a:Int×Int) h=>((if h.Peer=x then costP (ZY ls) h p else a.1),(if 0<costP (ZY ls) h p∧costP (ZY ls) h p<a.2 then costP (ZY ls) h p else a.2))),QqA (fun(c:Int) h=>if h.Peer=x then costP (ZY ls) h p else c) (fun(c:Int) h=>if 0<costP (ZY ls) h p∧costP (ZY ls) h p<c then costP (ZY ls) h p else c)];dsimp only;rw[U,b0,<-g3];have ec:costP (ZY ls) g p=costV g p:=by unfold costP;rw[Y4 gP]
        rw[ec,Y3 (by simp;omega),Qf (n:=r.Hops.length) hj (by omega)]
     ·rw[Yz hg,Zr (b:=.inr ()) (by rw[Y3 (by simp)]),Qa];dsimp only;rw[Qf hi (by omega)]
    ·dsimp only;rw[Y4 (by rw[Y6];omega),Qd (fun _=>by omega),Qd (fun _ _=>by omega),Y1,Qf I (by omega),e1,e2]
     rfl
   ·dsimp only;rw[Y4 (by rw[Y6];omega),Qd (by omega),Qd (fun _=>by omega),Y1,Qf I (by omega),e1,e2];show(if mtQ p ((Q3 ls).getD k default)=true then _ else _)=_
    by_cases hm:mtQ p ((Q3 ls).getD k default)=true
    ·have eh:=Qug (V:=Qbg ls) (G:=gOf (ZY ls) H) (Qwy S I hm);rw[Y4 hm,hm,e3,eh,Qd (fun _=>by simp),Qd (fun _=>by omega),Y3 (by simp),Y0r]
    ·rw[Y3 hm,YR.2 hm,Y0v]
 ·have eT:QyR ls H=[]:=by unfold QyR;rw[Y3 hc]
  rw[eT];rw[Qqy (by simp) (fun r Y=>by cases Y),Qa,QS (by simp),Qa,Y3 (by simp),Qmv S,Qa,Qmu S,Qa,Qo5 S,Qa,Zr (b:=.inr ()) (by rw[Y3 (by simp)]),Qa];dsimp only;rw[Zr (b:=.inr ()) (by rw[Y3 (by simp)]),Qa]
end Go.Proofs.YtjjkhncoafdfmaaGreatDoor
