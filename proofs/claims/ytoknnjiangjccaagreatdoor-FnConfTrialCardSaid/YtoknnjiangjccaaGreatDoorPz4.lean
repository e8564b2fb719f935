/-
  Plain Lean: what the models of functions compute; no condition.
-/
import Derived.Test.YtoknnjiangjccaaGreatDoorKz6
import Derived.Test.YtoknnjiangjccaaGreatDoorPz3
import Derived.Test.YtoknnjiangjccaaGreatDoorPz1
import Derived.Test.YtoknnjiangjccaaGreatDoorPz2
set_option linter.all false
namespace Go.Proofs.YtoknnjiangjccaaGreatDoor
open Go Go.Ab
set_option maxHeartbeats 4000000
set_option maxRecDepth 100000
def xrB (F L:List Bt) (x:Bt):Bool:=!((F.any fun y=>y==x)==(L.any fun y=>y==x))
theorem QrE (xs:List Bt):(srtB xs).Perm xs:=by
 unfold srtB;have h:=(List.mergeSort_perm (xs.map fun s=>s.data.toList) fun x y=>decide (x<=y)).map fun l=>(⟨l.toArray⟩:Bt);rw[Xx] at h;have e:xs.map ((fun l=>(⟨l.toArray⟩:Bt))∘fun s:Bt=>s.data.toList)=xs:=(YK fun s _=>QfF s).trans (List.map_id xs);rwa[e] at h
theorem Qyy {F L:List Bt} (I:nB F) (O:nB L):Qdp F L=some (srtB ((F++L).filter (xrB F L))):=by
 have n1:=I.len;have n2:=O.len;have hab:(F++L).length<=32:=by rw[Yk];omega
 have hfl:((F++L).filter (xrB F L)).length<=(F++L).length:=Xe _ _;unfold Qdp;rw[QfK (by omega),Qa,Qd (by omega),Qt3 (F++L) (xrB F L) id (fun ys=>(ys.length,ys)) (fun i ys hi J=>?_) (fun ys J=>?_),Qa]
 ·rw[List.map_id];dsimp only;unfold Z6;rw[Qd (by omega),Qa,Qd (QrE _).length_eq]
 ·have G:(0:Int)<=(i:Int)∧(i:Int)<(((F++L).length:Nat):Int):=by omega
  dsimp only;rw[Y2 (Yd G.2),Qd G,Y3,QmY (by omega),Qa,QmY (by omega),Qa,Qd (by rw[List.length_singleton];omega),Qj hi (by omega)];unfold xrB;simp only[id_eq];split<;>rfl
 ·dsimp only;rw[Y0 (by simp)]
def QyQ (R:List Bt) (l:Bt):Bool:=!(R.any fun y=>y==(⟨#[97,108,108]⟩:Bt))&& !(R.any fun y=>y==(QsI l (⟨#[32]⟩:Bt)).1)
def QsF:May:=fun F L u=>match QwQ F u with
 |none=>false
 |some c=>!(((F++L).filter (xrB F L)).any (QyQ (rwL (c.getD 2 []))))
theorem QuH {F:List Bt} {u:Bt}:QsF F F u=isU F u:=by
 rw[<-QuD];unfold QsF
 cases QwQ F u with
 |none=>rfl
 |some c=>
  have:(F++F).filter (xrB F F)=[]:=List.filter_eq_nil_iff.2 fun x _=>by unfold xrB;simp
  dsimp only;rw[this]
  rfl
theorem QzJ {F L:List Bt} (G:nB F) (J:nB L) (u:Bt):Qdq F L u=some (QsF F L u):=by
 unfold Qdq QsF;rw[Qpv G,Qa,Qe (by rfl),Qpv J,Qa,Y0 (by decide),QwR G,Qa];have N:=Qn2 (ls:=F.map tB) G (by rw[Ya];have:=G.len;omega)
 cases hu:QwQ F u with
 |none=>exact Y2 (by rfl)
 |some c=>
  dsimp only;have hR:(rwL (c.getD 2 [])).length<=1000:=by
   have hc:c∈kind wUser ((F.map tB).map wsL):=List.mem_of_find?_eq_some hu;have⟨l,hl,e2⟩:=YI.1 (Jq hc).1;have hd:(c.getD 2 []).length<=24:=by
    rw[<-e2]
    by_cases h:2<(wsL l).length
    ·exact Qlv l _ (QaC h)
    ·rw[Y1,Xd (by omega)];simp
   unfold rwL;split
   ·simp
   ·have:=QfI 44 (c.getD 2 []);rw[Ya];omega
  generalize rwL (c.getD 2 [])=R at hR|-;rw[Y0 (by simp),Qyy G J,Qa];have hY:∀x∈(F++L).filter (xrB F L),x.size<=1000:=fun x hx=>by
   rcases Yo.1 (YB.1 hx).1 with h|h
   ·have:=G.short h;omega
   ·have:=J.short h;omega
  have O:((F++L).filter (xrB F L)).length<=32:=by
   have:=Xe (xrB F L) (F++L);rw[Yk] at this;have:=G.len;have:=J.len;omega
  generalize (F++L).filter (xrB F L)=Y at hY O;have hp:=QrE Y;have U:=hp.length_eq;have hX:∀x∈srtB Y,x.size<=1000:=fun x hx=>hY x (hp.mem_iff.1 hx);have I:Y.any (QyQ R)=(srtB Y).any (QyQ R):=by
   rw[YE,YN,YN]
   constructor
   ·rintro⟨x,h1,h2⟩;exact⟨x,hp.mem_iff.2 h1,h2⟩
   ·rintro⟨x,h1,h2⟩;exact⟨x,hp.mem_iff.1 h1,h2⟩
  rw[I,Qe7];generalize srtB Y=X at hX U;rw[Jp X.length (fun i=>QyQ R (X.getD i default)) (fun _=>.inl ()) (.inr ()) (fun i hi=>?_) ?_,Qa]
  ·cases ZQ (fun i=>QyQ R (X.getD i default)) X.length<;>rfl
  ·rw[Y0 (by simp)]
  ·have hg:(0:Int)<=(i:Int)∧(i:Int)<((X.length:Nat):Int):=by omega
   have hs:=hX _ (Zb hi);rw[Y2 (Yd hg.2),Qd hg,Y3];unfold Jm;rw[Qd (by omega),Qa,QmY (by omega),Qa,Qj hi (by omega)];unfold QyQ
   cases hA:R.any fun y=>y==(⟨#[97,108,108]⟩:Bt)
   ·rw[Qe (by rfl),QmY (by omega),Qa];split<;>rfl
   ·rw[QO (by decide),Qa]
    rfl
theorem Qm7 {s:QAv} (h:Ok s) (hu:s.Up=true) (u:Bt) (t:Int):Qu s ⟨5,u,ByteArray.empty,t⟩=some (Qbz QsF s u t):=by
 cases h with
 |down lv la a o D=>cases hu
 |up lv la a o cs b j D C P=>
  have a2:Ok ⟨true,b,two lv a o,lv,la,j⟩:=.up lv la a o cs b j D C P;have hF:=(P.force D).neat
  have hE:=P.ed D;have hc:=P.cands;have h3:=C.few;have hd:Qr ⟨true,b,two lv a o,lv,la,j⟩ ⟨5,u,ByteArray.empty,t⟩=some ((Qbz QsF ⟨true,b,two lv a o,lv,la,j⟩ u t).2,(Qbz QsF ⟨true,b,two lv a o,lv,la,j⟩ u t).1):=by
   unfold Qr;dsimp only;rw[Y0 (by simp),Y0 (by simp),Qa,Y0 (by simp),Y0 (by simp),Y2 (by simp)];unfold QaP Qbz Qh0;dsimp only;rw[hc,QuG (by omega)]
   cases J:atU cs u with
   |none=>rfl
   |some k=>
    have⟨h1,h2,_⟩:=Qh1 J
    have G:=C.each _ (Zb h1);dsimp only;have a1:Qs t 0 9=some (decide (0<=t)&&decide (t<=9)):=rfl;rw[a1,Qa,QuA G.lines,QzJ hF G.lines]
    by_cases g1:0<=t∧t<=9
    rotate_left
    ·rw[Y2 (show(!(decide (0<=t)&&decide (t<=9)))=true by simp;omega),Y2 g1,Qa]
    rw[Y0 (show ¬((!(decide (0<=t)&&decide (t<=9)))=true) by simp;omega),Y0 (show ¬ ¬(0<=t∧t<=9) from fun h=>h g1)]
    by_cases U:j.Kind=0
    rotate_left
    ·rw[Y2 (show(j.Kind !=0)=true by simpa using U),Y2 (show j.Kind≠0 from U),Qa]
    rw[Y0 (show ¬((j.Kind !=0)=true) by simpa using U),Y0 (show ¬(j.Kind≠0) from fun h=>h U)]
    by_cases Y:b.Trial>0
    ·rw[Y2 (show decide (b.Trial>0)=true from Yd Y),Y2 Y,Qa]
    rw[Y0 (show ¬(decide (b.Trial>0)=true) by simpa using Y),Y0 Y]
    by_cases g4:(cs.getD k default).Base=b.Edition
    rotate_left
    ·rw[Y2 (show((cs.getD k default).Base !=b.Edition)=true by simpa using g4),Y2 (show(cs.getD k default).Base≠b.Edition from g4),Qa]
    rw[Y0 (show ¬(((cs.getD k default).Base !=b.Edition)=true) by simpa using g4),Y0 (show ¬((cs.getD k default).Base≠b.Edition) from fun h=>h g4),Qa]
    by_cases g5:Qbj ((cs.getD k default).Lines.map tB)=0
    rotate_left
    ·rw[Y2 (show(Qbj ((cs.getD k default).Lines.map tB) !=0)=true by simpa using g5),Y2 (show Qbj ((cs.getD k default).Lines.map tB)≠0 from g5),Qa]
    rw[Y0 (show ¬((Qbj ((cs.getD k default).Lines.map tB) !=0)=true) by simpa using g5),Y0 (show ¬(Qbj ((cs.getD k default).Lines.map tB)≠0) from fun h=>h g5),Qa]
    cases hm:QsF b.Lines (cs.getD k default).Lines u
    ·rw[Y2 (show(!false)=true from rfl),Y2 rfl,Qa]
    rw[Y0 (show ¬((!true)=true) by decide),Y0 (show ¬(true=false) by decide)]
    by_cases O:b.Edition>=1000000
    ·rw[Y2 (show decide (b.Edition>=1000000)=true from Yd O),Y2 O,Qa]
    rw[Y0 (show ¬(decide (b.Edition>=1000000)=true) by simpa using O),Y0 O,QuB G.lines,Qa,Qm6 (by dsimp only;rw[hc];omega),Qa,Qa,Qm (n:=b.Edition+1) (by omega) (by omega)];have he:=QjK (xs:=cs) (p:=fun c=>c.User==u) (C.rise.imp fun {x y} h ⟨e1,e2⟩=>by
     rw[Nc.bq.1 e1,Nc.bq.1 e2,QgK] at h
     cases h)
    have I:cs.findIdx? (fun c=>c.User==u)=some k:=J
    rw[I] at he;dsimp only at he|-;rw[hc,<-he]
  have:=Qpw (e:=⟨5,u,ByteArray.empty,t⟩) a2 (show(1:Int)<=5∧(5:Int)<=10 by decide) (show ¬(true=false) by decide) hd;rw[this];have hz:(Qbz QsF ⟨true,b,two lv a o,lv,la,j⟩ u t).2≠0->(Qbz QsF ⟨true,b,two lv a o,lv,la,j⟩ u t).1=⟨true,b,two lv a o,lv,la,j⟩:=by
   unfold Qbz Qh0;split
   ·intro _;rfl
   dsimp only;split
   ·intro _;rfl
   split
   ·intro _;rfl
   split
   ·intro _;rfl
   split
   ·intro _;rfl
   split
   ·intro _;rfl
   split
   ·intro _;rfl
   split
   ·intro _;rfl
   exact fun h=>absurd rfl h
  by_cases h0:(Qbz QsF ⟨true,b,two lv a o,lv,la,j⟩ u t).2=0
  ·rw[Y2 h0]
  ·rw[Y0 h0];exact congrArg some (Prod.ext (hz h0).symm rfl)
theorem QuI (s:QAv) (ev:QAw):QI s ev ((0:Nat):Int)=some s:=by
 unfold QI;rw[Z8 (b:=(s.Up,s.Box.Edition,s.Box.Lines,s.Box.Trial,s.Box.Back,s.Box.Cands,s.Slots,s.Live,s.Last,s.Job.Kind,s.Job.Step,s.Job.Edition,s.Job.Ticks,s.Job.Lines)) (by dsimp only;rw[Y0 (by simp)]),Qa]
theorem QlH {s s':QAv} {ev:QAw} {c:Int} {n:Nat} (hn:n<=1000) (h:Qu s ev=some (s',c)):QI s ev ((n+1:Nat):Int)=QI s' ev (n:Int):=by
 unfold QI;rw[J2 (s':=(s'.Up,s'.Box.Edition,s'.Job.Step,s'.Job.Edition,s'.Job.Ticks,s'.Job.Lines,s'.Box.Lines,s'.Box.Trial,s'.Box.Back,s'.Box.Cands,s'.Slots,s'.Live,s'.Last,s'.Job.Kind,(n:Int)))];dsimp only;rw[Y2 (Yd (by omega)),h,Qa];dsimp only;rw[Qm (by omega) (by omega),show(((n+1:Nat):Int) -1)=(n:Int) by omega]
theorem QrF {xs:List Bt} (h:xs.length<=1000):QcL xs xs=some true:=by
 unfold QcL;rw[Y0 (by simp),Qst xs.length (.inr ()) (fun i hi=>?_) ?_,Qa]
 ·rw[Y0 (by simp)]
 ·have G:(0:Int)<=(i:Int)∧(i:Int)<((xs.length:Nat):Int):=by omega
  rw[Y2 (Yd G.2),Qd G,Qd G,Y0 (by simp),Qj hi (by omega)]
theorem QlI {s s':QAv} {e:QAw} {c:Int} (h:Qu s e=some (s',c)):QI s e 1=some s':=(QlH (n:=0) (by omega) h).trans (QuI _ _)
theorem Qyz:∀(n:Nat) {s:QAv},n<=1000->Ok s->s.Up=true->Qpu s.Job<=n->∃s',QI s ⟨8,ByteArray.empty,ByteArray.empty,0⟩ (n:Int)=some s'∧Ok s'∧s'.Up=true∧Qpu s'.Job=0∧(Qoa s->Qoa s')
 |0,s,_,h,hu,hl=>⟨s,QuI _ _,h,hu,by omega,fun h=>h⟩
 |n+1,s,hn,h,hu,hl=>by
  have e:=QlF h hu
  cases h with
  |down lv la a o D=>cases hu
  |up lv la a o cs b j D C P=>
   have⟨U,O,w3,w4⟩:=QsD D P;have J:=Qrv D C P;dsimp only at hl;have I:Qpu (Qa0 ⟨true,b,two lv a o,lv,la,j⟩).1.Job<=n:=by
    rcases X9 (Qpu j) with G|G
    ·rw[O G];dsimp only;omega
    ·have:=w3 G;omega
   have⟨s',p1,p2,p3,p4,Y⟩:=Qyz n (by omega) J U I;refine⟨s',?_,p2,p3,p4,fun h=>Y (w4 h)⟩;rw[QlH (by omega) (show Qu _ _=some ((Qa0 ⟨true,b,two lv a o,lv,la,j⟩).1,(Qa0 ⟨true,b,two lv a o,lv,la,j⟩).2) from e)];exact p1
inductive Still:QAv→Prop where
 |trial (lv la:Int) (a o:QAu) (cs:List QAr) (T:Int) (D:Disk lv la a o) (C:CandsB la cs) (h1:1≤T) (h9:T≤9) (ht:a.Trial=true):Still (Qck lv la a o T 0 cs)
 |idle (lv la:Int) (a o:QAu) (cs:List QAr) (E:Int) (D:Disk lv la a o) (C:CandsB E cs) (ht:a.Trial=false) (hE:Qf4 E la a.Edition):Still (Qf6 lv la a o E cs)
theorem QzK {s:QAv} (h:Ok s) (G:s.Up=true) (hl:Qpu s.Job=0):Still s:=by
 cases h with
 |down lv la a o D=>cases G
 |up lv la a o cs b j D C P=>
  rcases Qwc P hl with ⟨T,h1,h9,ht,rfl,rfl⟩|⟨E,ht,hE,rfl,rfl⟩
  ·exact .trial lv la a o cs T D C h1 h9 ht
  ·exact .idle lv la a o cs E D C ht hE
@[reducible] def Tup (q:QAv):Bool × Int × Int × Int × Int × List Bt × List Bt × Int × List Bt × List QAr × List QAu × Int × Int × Int:=(q.Up,q.Box.Edition,q.Job.Step,q.Job.Edition,q.Job.Ticks,q.Job.Lines,q.Box.Lines,q.Box.Trial,q.Box.Back,q.Box.Cands,q.Slots,q.Live,q.Last,q.Job.Kind)
def QqC (q:QAv):Prop:=∃lv la a o cs T,Disk lv la a o∧CandsB la cs∧1<=T∧T<=9∧a.Trial=true∧q=Qck lv la a o T 0 cs
section
variable {lv la:Int} {a o:QAu} {cs:List QAr}
theorem Qod {E:Int} (D:Disk lv la a o) (C:CandsB E cs) (ht:a.Trial=false) (hE:Qf4 E la a.Edition):Ok (Qf6 lv la a o E cs):=.up lv la a o cs _ _ D C (.idle E ht hE)
theorem Qoe {T k:Int} (D:Disk lv la a o) (C:CandsB la cs) (h1:1<=T) (h9:T<=9) (hk:k=0∨k=2) (ht:a.Trial=true):Ok (Qck lv la a o T k cs):=.up lv la a o cs _ _ D C (.trial T k ht h1 h9 hk)
theorem QyA (D:Disk lv la a o) (C:CandsB la cs) (ht:a.Trial=true):Ok (Qux lv la a o cs):=.up lv la a o cs _ _ D (C.mono (by dsimp only;omega)) (.back ht)
theorem QyB {E t:Int} {u:Bt} (D:Disk lv la a o) (C:CandsB E cs) (ht:a.Trial=false) (hE:Qf4 E la a.Edition) (h0:1<=t) (h9:t<=9) (U:isU a.Lines u=true) (h3:¬(atU cs u=none∧cs.length=3)):
  ∃s1,Qu (Qf6 lv la a o E cs) ⟨1,u,ByteArray.empty,0⟩=some (s1,0)∧((E>=1000000∧∃G,Qu s1 ⟨5,u,ByteArray.empty,t⟩=some (G,9))∨ ∃G,Qu s1 ⟨5,u,ByteArray.empty,t⟩=some (G,0)∧Ok G∧G.Up=true∧Qoa G):=by
 have Y:=Qod D C ht hE;have O:=(Phase.ed D (Phase.idle (cs:=cs) E ht hE)).1;have J:=D.a0.2.2.neat
 have C':CandsB E (QfV cs ⟨u,E,a.Lines,a.Lines⟩):=C.put ⟨QlB J U,O,X7 _,J,J⟩ h3;have I:=Qod D C' ht hE;have hb:QdQ (Qf6 lv la a o E cs) u=(Qf6 lv la a o E (QfV cs ⟨u,E,a.Lines,a.Lines⟩),0):=by
  unfold QdQ;dsimp only;rw[Y0 (by rw[U];decide),Y0 h3]
  rfl
 refine⟨Qf6 lv la a o E (QfV cs ⟨u,E,a.Lines,a.Lines⟩),?_,?_⟩
 ·rw[Qpz Y rfl,hb]
 ·have hc:=Qm7 I rfl u t;rcases Quz (cs:=cs) (E:=E) (may:=QsF) (u:=u) D h0 h9 (by rw[QuH];exact U) with ⟨g,e⟩|⟨G,e,e2,e3⟩
  ·rw[e] at hc;exact .inl ⟨g,_,hc⟩
  ·have hk:=Qpq (may:=QsF) D C' (Phase.idle (cs:=QfV cs ⟨u,E,a.Lines,a.Lines⟩) E ht hE) u t;rw[e] at hk hc;exact .inr ⟨G,hc,hk,e2,e3⟩
theorem Qwh {s:QAv} (h:Ok s) (I:s.Up=true) (hl:Qpu s.Job=0) (ht:Qoa s):QqC s:=by
 have:=QzK h I hl
 cases this with
 |trial lv la a o cs T D C h1 h9 G=>exact⟨lv,la,a,o,cs,T,D,C,h1,h9,G,rfl⟩
 |idle lv la a o cs E D C G hE=>
  rcases ht with ⟨h,_⟩|⟨_,h⟩
  ·exact absurd h (show ¬((0:Int)=1) by decide)
  ·exact absurd h (show ¬((0:Int)<0) by decide)
theorem QpA {s:QAv} (h:Ok s) (I:s.Up=true) (G:s.Box.Trial=0):∀n:Nat,n<=1000->QI s ⟨7,ByteArray.empty,ByteArray.empty,0⟩ (n:Int)=some s
 |0,_=>QuI _ _
 |n+1,hn=>by
  have e:=QrD h I;have:Qj1 s=s:=by unfold Qj1;exact Y2 G
  rw[this] at e;rw[QlH (by omega) e];exact QpA h I G n (by omega)
end
theorem Qof {x c:List Int} (hx:x.length<=9223372036854775807∧∀y∈x,Qmc y):Post (Qbh x c) fun r=>r=true:=by
 unfold Qbh;refine .ite (fun _=>.ret rfl) fun hl=>.bd (Qj2 (a:=x) (by simp at hl;omega) hx.2) fun s hs=>.bd (Q:=fun t=>∃q,Ok q∧q.Up=true∧t=Tup q) ?_ ?_
 ·cases hs with
  |down lv la a o D=>exact .ite (fun _=>.bd ⟨_,Qoc D,rfl⟩ fun y I=>by subst I;exact .ret ⟨_,Quk D,by rw[Qqy D],rfl⟩) fun h=>absurd rfl h
  |up lv la a o cs b j D C P=>exact .ite (fun h=>absurd h (by simp)) fun _=>.ret ⟨_,.up lv la a o cs b j D C P,rfl,rfl⟩
 rintro _ ⟨q0,h0,u0,rfl⟩;have b8:Qpu q0.Job<=19:=by
  cases h0 with
  |down lv la a o D=>cases u0
  |up lv la a o cs b j D C P=>exact Quy P
 have⟨q1,p1,k1,u1,l1,_⟩:=Qyz 19 (by omega) h0 u0 b8;refine .bd ⟨q1,p1,rfl⟩ fun q1' e1=>?_;subst e1;have hm9:0<=(((c.length:Nat):Int):Int).tmod 9∧(((c.length:Nat):Int):Int).tmod 9<9:=⟨Y0p _ (by omega),Y0a _ (by decide)⟩;have a9:IntKind.i64.wrap (1+(((c.length:Nat):Int):Int).tmod 9)=1+(((c.length:Nat):Int):Int).tmod 9:=Qm (by omega) (by omega);refine .bd (Q:=fun r=>match r with| .inl t=>∃q,QqC q∧t=Tup q| .inr d=>d=true) ?_ ?_
 ·have S:=QzK k1 u1 l1
  cases S with
  |trial lv la a o cs T D C h1 h9 ht=>exact .ite (fun h=>absurd h (by simp;omega)) fun _=>.ret ⟨_,⟨lv,la,a,o,cs,T,D,C,h1,h9,ht,rfl⟩,rfl⟩
  |idle lv la a o cs E D C ht hE=>
   refine .ite (fun _=>?_) fun h=>absurd rfl h;have Y:∀(E':Int) (s1:QAv),(E'>=1000000->E>=999999)->((E'>=1000000∧∃O,Qu s1 ⟨5,⟨#[97,110,110]⟩,ByteArray.empty,1+(((c.length:Nat):Int):Int).tmod 9⟩=some (O,9))∨ ∃O,Qu s1 ⟨5,⟨#[97,110,110]⟩,ByteArray.empty,1+(((c.length:Nat):Int):Int).tmod 9⟩=some (O,0)∧Ok O∧O.Up=true∧Qoa O)->Post (bd (Qu s1 ⟨5,⟨#[97,110,110]⟩,ByteArray.empty,1+(((c.length:Nat):Int):Int).tmod 9⟩) fun a3=>(if(((0:Int) !=0)||(a3.2 !=0))=true then some (Sum.inr (((0:Int)==3)||((a3.2==9)&&(decide (E>=999999))))) else bd (QI a3.1 ⟨8,ByteArray.empty,ByteArray.empty,0⟩ 19) fun c1=>some (Sum.inl (Tup c1)))) fun r=>match r with| .inl t=>∃q,QqC q∧t=Tup q| .inr d=>d=true:=fun E' s1 c0 h=>by
    rcases h with ⟨g,O,e⟩|⟨O,e,e1,e2,e3⟩
    ·rw[e,Qa];refine .ite (fun _=>.ret ?_) fun h=>absurd rfl h;have:=c0 g;simp;exact this
    ·rw[e,Qa];refine .ite (fun h=>absurd h (by simp)) fun _=>?_;have b6:Qpu O.Job<=19:=by
      cases e1 with
      |down lv la a o D=>cases e2
      |up lv la a o cs b j D C P=>exact Quy P
     have⟨q,p1,p2,p3,p4,p5⟩:=Qyz 19 (by omega) e1 e2 b6;exact .bd ⟨q,p1,rfl⟩ fun q' eq=>by subst eq;exact .ret ⟨_,Qwh p2 p3 p4 (p5 e3),rfl⟩
   have G:=Qod D C ht hE;have hE0:=(Phase.ed D (Phase.idle (cs:=cs) E ht hE));have U:=Qpz G rfl (⟨#[97,110,110]⟩:Bt)
   cases hU:isU a.Lines (⟨#[97,110,110]⟩:Bt) with
   |false=>
    have hb:QdQ (Qf6 lv la a o E cs) (⟨#[97,110,110]⟩:Bt)=(Qf6 lv la a o E cs,3):=by
     unfold QdQ;exact Y2 hU
    rw[hb] at U;refine .bd ⟨_,U,rfl⟩ fun y I=>?_;subst I;refine .bd (Q:=fun t=>∃q,Ok q∧q.Up=true∧t=(q.Up,q.Box.Edition,q.Job.Step,q.Job.Edition,q.Job.Ticks,q.Job.Lines,q.Box.Lines,q.Box.Trial,q.Box.Back,q.Box.Cands,q.Slots,q.Live,q.Last,q.Job.Kind,(3:Int))) (.ite (fun h=>absurd h (by simp)) fun _=>.ret ⟨_,G,rfl,rfl⟩) ?_;rintro _ ⟨q,hq,b9,rfl⟩;refine .gd (by decide) (.bd ⟨_,Qm7 hq b9 _ _,rfl⟩ fun y _=>.ite (fun _=>.ret rfl) fun h=>absurd (by simp) h)
   |true=>
    by_cases h3:atU cs (⟨#[97,110,110]⟩:Bt)=none∧cs.length=3
    ·have hb:QdQ (Qf6 lv la a o E cs) (⟨#[97,110,110]⟩:Bt)=(Qf6 lv la a o E cs,4):=by
      unfold QdQ;dsimp only;rw[Y0 (by rw[hU];decide),Y2 h3]
     rw[hb] at U;refine .bd ⟨_,U,rfl⟩ fun y I=>?_;subst I;have b7:Qf4 (E0 la a) la a.Edition:=by
      have:=D.a0.2.1;unfold E0 Qf4;rw[ht];split
      ·rename_i h;rcases h with h|h
       ·cases h
       ·omega
      ·rename_i h;simp at h;omega
     have a4:upS lv la a o=Qf6 lv la a o (E0 la a) []:=by
      unfold upS F0;rw[ht]
      rfl
     have⟨s1,b1,b2⟩:=QyB (cs:=[]) (t:=1+(((c.length:Nat):Int):Int).tmod 9) (u:=(⟨#[97,110,110]⟩:Bt)) D .nil ht b7 (by omega) (by omega) hU (fun h=>by simp at h);have hf:=QlI (QrC G rfl);have J:=QlI (Qoc D);rw[Qqy D,a4] at J;refine .bd (Q:=fun t=>t=(s1.Up,s1.Box.Edition,s1.Job.Step,s1.Job.Edition,s1.Job.Ticks,s1.Job.Lines,s1.Box.Lines,s1.Box.Trial,s1.Box.Back,s1.Box.Cands,s1.Slots,s1.Live,s1.Last,s1.Job.Kind,(0:Int))) (.ite (fun _=>.bd ⟨_,hf,rfl⟩ fun y1 e1=>?_) fun h=>absurd rfl h) ?_
     ·subst e1;refine .bd ⟨_,J,rfl⟩ fun y2 e2=>?_;subst e2;exact .bd ⟨_,b1,rfl⟩ fun y3 e3=>by subst e3;exact .ret rfl
     ·rintro _ rfl;refine .gd (by decide) ?_;rw[a9];refine Y (E0 la a) s1 (fun h=>?_) b2;unfold E0 at h;unfold Qf4 at hE;split at h<;>omega
    ·have⟨s1,b1,b2⟩:=QyB (t:=1+(((c.length:Nat):Int):Int).tmod 9) (u:=(⟨#[97,110,110]⟩:Bt)) D C ht hE (by omega) (by omega) hU h3;refine .bd ⟨_,b1,rfl⟩ fun y I=>?_;subst I;refine .bd (Q:=fun t=>t=(s1.Up,s1.Box.Edition,s1.Job.Step,s1.Job.Edition,s1.Job.Ticks,s1.Job.Lines,s1.Box.Lines,s1.Box.Trial,s1.Box.Back,s1.Box.Cands,s1.Slots,s1.Live,s1.Last,s1.Job.Kind,(0:Int))) (.ite (fun h=>absurd h (by simp)) fun _=>.ret rfl) ?_;rintro _ rfl;refine .gd (by decide) ?_;rw[a9];exact Y E s1 (fun h=>by omega) b2
 ·rintro(t|d) J
  rotate_left
  ·exact .ret J
  obtain⟨_,⟨lv,la,a,o,cs,T,D,C,h1,h9,ht,rfl⟩,rfl⟩:=J;have l0:=D.l0;have l1:=D.l1;have hA:=D.ab.few;have hO:=D.ob.few;refine .ite (fun h=>absurd h (by simp;omega)) fun _=>?_;refine .bd (Q:=fun t=>t=(true,la+1,o.Lines,(0:Int),[],cs,two lv a o,lv,la,(3:Int),(0:Int),(0:Int),(0:Int),[])) (.lp (fun t=>∃(i:Nat),i<=9∧t=(if i=0 then(true,la+1,(0:Int),(0:Int),(0:Int),[],o.Lines,(0:Int),[],cs,two lv a o,lv,la,(3:Int),(0:Int)) else(true,la,(0:Int),(0:Int),(0:Int),[],a.Lines,(i:Int),o.Lines,cs,two lv a o,lv,la,(0:Int),(i:Int)))) (fun t=>t.2.2.2.2.2.2.2.2.2.2.2.2.2.2.toNat) ⟨T.toNat,by omega,?_⟩ ?_) ?_
  ·rw[Y0 (by omega),show((T.toNat:Nat):Int)=T by omega]
  ·rintro _ ⟨i,hi,rfl⟩
   by_cases h0:i=0
   ·rw[Y2 h0];exact .ite (fun h=>absurd h (by simp)) fun _=>.ret rfl
   ·rw[Y0 h0];have G:Ok (Qck lv la a o (i:Int) 0 cs):=Qoe D C (by omega) (by omega) (.inl rfl) ht;have ew:IntKind.i64.wrap ((i:Int) -1)=((i-1:Nat):Int):=(Qm (by omega) (by omega)).trans (by omega);have a5:=QlI (QrD G rfl);have b5:QI (Qck lv la a o (i:Int) 0 cs) ⟨8,ByteArray.empty,ByteArray.empty,0⟩ 1=some (Qck lv la a o (i:Int) 0 cs):=by
     have:=QlF G rfl;have e:Qa0 (Qck lv la a o (i:Int) 0 cs)=(Qck lv la a o (i:Int) 0 cs,11):=by
      unfold Qa0;dsimp only;rw[Y0 (by simp),Y0 (by simp),Y0 (by simp)]
     rw[e] at this;exact QlI this
    have a2:∀q:QAv,q=Qj1 (Qck lv la a o (i:Int) 0 cs)->(q.Up,q.Box.Edition,q.Job.Step,q.Job.Edition,q.Job.Ticks,q.Job.Lines,q.Box.Lines,q.Box.Trial,q.Box.Back,q.Box.Cands,q.Slots,q.Live,q.Last,q.Job.Kind,IntKind.i64.wrap ((i:Int) -1))=(if i-1=0 then(true,la+1,(0:Int),(0:Int),(0:Int),[],o.Lines,(0:Int),[],cs,two lv a o,lv,la,(3:Int),(0:Int)) else(true,la,(0:Int),(0:Int),(0:Int),[],a.Lines,((i-1:Nat):Int),o.Lines,cs,two lv a o,lv,la,(0:Int),((i-1:Nat):Int))):=fun q hq=>by
     rw[hq,ew];unfold Qj1;dsimp only;rw[Y0 (by omega)]
     by_cases h1:i=1
     ·rw[Y2 (by omega),Y2 (by omega),h1]
      rfl
     ·rw[Y0 (by omega),Y0 (by omega),show(i:Int) -1=((i-1:Nat):Int) by omega]
    refine .ite (fun _=>.gd (by decide) (.ite (fun _=>?_) fun _=>?_)) fun h=>absurd (by simp;omega) h
    ·show Post (bd (QI (Qck lv la a o (i:Int) 0 cs) _ 1) _) _;rw[b5,Qa];refine .bd ⟨_,a5,rfl⟩ fun q hq=>.ret ⟨⟨i-1,by omega,a2 q hq.symm⟩,?_⟩;dsimp only;rw[ew];omega
    ·show Post (bd (QI (Qck lv la a o (i:Int) 0 cs) _ 1) _) _;refine .bd ⟨_,a5,rfl⟩ fun q hq=>.ret ⟨⟨i-1,by omega,a2 q hq.symm⟩,?_⟩;dsimp only;rw[ew];omega
  ·rintro _ rfl;have a8:Ok (Qck lv la a o T 0 cs):=Qoe D C h1 h9 (.inl rfl) ht;have a7:Ok (Qux lv la a o cs):=QyA D C ht;have b4:=QlG a7 rfl (⟨#[97,110,110]⟩:Bt) la;have eB:Qav (Qux lv la a o cs) (⟨#[97,110,110]⟩:Bt) la=(Qux lv la a o cs,8):=by unfold Qav;exact Y2 rfl
   rw[eB] at b4;have b3:=QlG a8 rfl (⟨#[97,110,110]⟩:Bt) la;refine .bd ⟨true,QrF (xs:=o.Lines) (by omega),rfl⟩ fun y I=>?_;subst I;dsimp only;rw[Qm (n:=la+1) (by omega) (by omega)];refine .ite (fun h=>absurd h (by simp)) fun _=>?_;show Post (bd (Qu (Qux lv la a o cs) _) _) _;rw[b4,Qa];refine .ite (fun h=>absurd h (by simp)) fun _=>?_;show Post (bd (Qu (Qck lv la a o T 0 cs) _) _) _
   cases hU:isU a.Lines (⟨#[97,110,110]⟩:Bt) with
   |false=>
    have eT:Qav (Qck lv la a o T 0 cs) (⟨#[97,110,110]⟩:Bt) la=(Qck lv la a o T 0 cs,3):=by
     unfold Qav;dsimp only;rw[Y0 (show ¬T=0 by omega),Y0 (show ¬(la≠la) from fun h=>h rfl),Y2 hU]
    rw[b3,eT,Qa];exact .ite (fun _=>.ret rfl) fun h=>absurd rfl h
   |true=>
    have eT:Qav (Qck lv la a o T 0 cs) (⟨#[97,110,110]⟩:Bt) la=(Qck lv la a o T 2 cs,0):=by
     unfold Qav;dsimp only;rw[Y0 (show ¬T=0 by omega),Y0 (show ¬(la≠la) from fun h=>h rfl),Y0 (by rw[hU];decide),Y0 (show ¬((0:Int)≠0) by decide)]
    rw[b3,eT,Qa];refine .ite (fun h=>absurd h (by simp)) fun _=>?_;have a6:Ok (Qck lv la a o T 2 cs):=Qoe D C h1 h9 (.inr rfl) ht;have⟨t1,t2,t3,t4⟩:=D.tr ht;have D':Disk lv la {a with Trial:=false} o:=⟨D.lv,l0,l1,D.aw,⟨D.ab.whole,fun e=>by have:=D.aw;rw[this] at e;cases e⟩,D.ob,fun e=>by cases e⟩;have a1:Ok (Qf6 lv la {a with Trial:=false} o la cs):=Qod D' C rfl (.inl ⟨rfl,t1⟩);have hw:QI (Qck lv la a o T 2 cs) ⟨8,ByteArray.empty,ByteArray.empty,0⟩ 1=some (Qf6 lv la {a with Trial:=false} o la cs):=by
     have:=QlF a6 rfl;have e:Qa0 (Qck lv la a o T 2 cs)=(Qf6 lv la {a with Trial:=false} o la cs,0):=by
      unfold Qa0 Qf5 QpC;dsimp only;rw[Y0 (by decide),Y2 rfl,JO D.lv,J3 D.lv]
     rw[e] at this;exact QlI this
    have hf:=QlI (QrC a1 rfl);have J:=QlI (Qoc D');rw[Qqy D'] at J;have a4:upS lv la {a with Trial:=false} o=Qf6 lv la {a with Trial:=false} o la []:=by
     unfold upS F0 E0;dsimp only;rw[Y0 (fun h=>h.elim (fun h=>by cases h) fun h=>h t1)]
     rfl
    rw[a4] at J;refine .bd ⟨_,hw,rfl⟩ fun y1 e1=>?_;subst e1;refine .bd ⟨_,QpA a1 rfl rfl 10 (by omega),rfl⟩ fun y2 e2=>?_;subst e2;refine .bd ⟨_,hf,rfl⟩ fun y3 e3=>?_;subst e3;refine .bd ⟨_,J,rfl⟩ fun y4 e4=>?_;subst e4;refine .bd (Q:=fun r=>r=true) (.gcall (fun _=>⟨true,QrF (xs:=a.Lines) (by omega),rfl⟩) fun h=>absurd rfl h) fun y5 e5=>?_;subst e5;exact .ret (by simp)
theorem Qog {x c:List Int} (G:x.length<=9223372036854775807∧∀y∈x,Qmc y) (_:c.length<=9223372036854775807∧∀y∈c,Qmc y):Qbh x c=some true:=by
 obtain⟨r,e,rfl⟩:=Qof (c:=c) G;exact e
end Go.Proofs.YtoknnjiangjccaaGreatDoor
