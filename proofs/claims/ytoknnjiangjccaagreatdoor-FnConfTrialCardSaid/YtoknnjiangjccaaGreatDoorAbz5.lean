/-
  Regions whose order Go leaves open, more; rows out of contracts: a part of the frame in which a given row's proof walks the program; no condition.
-/
import Derived.Test.YtoknnjiangjccaaGreatDoorAbz4
import Derived.ProofKit
import Derived.SizedLaws
import Derived.Deep.Slices
set_option linter.all false
namespace Go.Ab
open Go.RowKit
variable {P:Program} {tb:Tb} {S:St}
def Qdt:List Bool->Nat->Bool
 |[],_=>false
 |b::_,0=>b
 |_::r,n+1=>Qdt r n
noncomputable def tsM (b:List Bool):List Rs->List (Nat×V):=List.rec (motive:=fun _=>List Rs->List (Nat×V)) (fun _=>[]) (fun x _ G R=>match R with
 |[]=>[]
 |r::rs=>match x with
  |true=>(match r.dst with
   |some t=>(t,r.shown)::G rs
   |none=>G rs)
  |false=>G rs) b
noncomputable def gsM (b:List Bool):List Rs->List Gd:=List.rec (motive:=fun _=>List Rs->List Gd) (fun _=>[]) (fun x _ G R=>match R with
 |[]=>[]
 |r::rs=>match x with
  |true=>(match r.dst,r.g with
   |some t,some (key,want)=>⟨t,key,want,r.v⟩::G rs
   |_,_=>G rs)
  |false=>G rs) b
noncomputable def bsM (b:List Bool):List Rs->List (Nat×Blk):=List.rec (motive:=fun _=>List Rs->List (Nat×Blk)) (fun _=>[]) (fun x _ G R=>match R with
 |[]=>[]
 |r::rs=>match x with
  |true=>r.nb++G rs
  |false=>G rs) b
theorem QzT {b:List Bool} {r:Rs} {rs:List Rs}:tsM (true::b) (r::rs)=match r.dst with
   |some t=>(t,r.shown)::tsM b rs
   |none=>tsM b rs:=rfl
theorem QzU {b:List Bool} {r:Rs} {rs:List Rs}:gsM (true::b) (r::rs)=match r.dst,r.g with
   |some t,some (key,want)=>⟨t,key,want,r.v⟩::gsM b rs
   |_,_=>gsM b rs:=rfl
theorem QzV {b:List Bool} {r:Rs} {rs:List Rs}:bsM (true::b) (r::rs)=r.nb++bsM b rs:=rfl
theorem QzW {b:List Bool} {r:Rs} {rs:List Rs}:tsM (false::b) (r::rs)=tsM b rs:=rfl
theorem QzX {b:List Bool} {r:Rs} {rs:List Rs}:gsM (false::b) (r::rs)=gsM b rs:=rfl
theorem QzY {b:List Bool} {r:Rs} {rs:List Rs}:bsM (false::b) (r::rs)=bsM b rs:=rfl
theorem Qi4 {E:Nat->Bool}:∀ {R:List Rs} {i0:Nat},(∀i,i<R.length->E (i0+i)=false)->QdE E i0 R=[]∧QdO E i0 R=[]∧JN E i0 R=[]
 |[],_,_=>⟨rfl,rfl,rfl⟩
 |r::R,i0,h=>by
  have G:E i0=false:=h 0 (by simp);have⟨I,O,J⟩:=Qi4 (E:=E) (R:=R) (i0:=i0+1) fun i hi=>by
   have:=h (i+1) (by simp;omega);rwa[show i0+1+i=i0+(i+1) by omega]
  exact⟨by simp[QdE,G,I],by simp[QdO,G,O],by simp[JN,G,J]⟩
theorem QqQ {E:Nat->Bool}:∀ {R:List Rs} {b:List Bool} {i0:Nat},(∀i,i<R.length->Qdt b i=E (i0+i))->tsM b R=QdE E i0 R∧gsM b R=QdO E i0 R∧bsM b R=JN E i0 R
 |[],b,_,_=>by cases b with
  |nil=>exact⟨rfl,rfl,rfl⟩
  |cons x r=>cases x<;>exact⟨rfl,rfl,rfl⟩
 |r::R,[],i0,h=>by
  have⟨h1,h2,h3⟩:=Qi4 (E:=E) (R:=r::R) (i0:=i0) fun i hi=>(h i hi).symm;rw[h1,h2,h3];exact⟨rfl,rfl,rfl⟩
 |r::R,x::b,i0,h=>by
  have U:x=E i0:=h 0 (by simp);have⟨O,I,J⟩:=QqQ (E:=E) (R:=R) (b:=b) (i0:=i0+1) fun i hi=>by
   have:=h (i+1) (by simp;omega);rw[show i0+1+i=i0+(i+1) by omega];exact this
  subst U
  cases G:E i0
  ·exact⟨by rw[QzW];simp only[QdE,G];exact O,by rw[QzX];simp only[QdO,G];exact I,by rw[QzY];simp only[JN,G];exact J⟩
  ·refine⟨?_,?_,by rw[QzV];simp only[JN,G];rw[J]⟩
   ·rw[QzT];simp only[QdE,G]
    cases r.dst<;>simp[O]
   ·rw[QzU];simp only[QdO,G]
    cases r.dst with
    |none=>simp[I]
    |some t=>cases r.g with
     |none=>simp[I]
     |some g=>have⟨k,w⟩:=g;simp[I]
noncomputable def stM (S0:St) (R:List Rs) (b:List Bool):St:=match S0 with
 |⟨base,nt,ts,_,bs,fs⟩=>⟨base,nt,tsM b R++ts,gsM b R,bsM b R++bs,fs⟩
theorem Qtd {S0:St} {R:List Rs} {b:List Bool} {E:Nat->Bool} (h:∀i,i<R.length->Qdt b i=E i):stM S0 R b=stOf S0 R E:=by
 have⟨h1,h2,h3⟩:=QqQ (E:=E) (R:=R) (b:=b) (i0:=0) fun i hi=>by simpa using h i hi
 have⟨base,nt,ts,gs,bs,fs⟩:=S0;simp[stM,stOf,h1,h2,h3]
def Qte (ops:List Oper) (dsts:List (Option Nat)) (anc:List Nat):Option (Nat×Bool)->Bool
 |none=>true
 |some (jg,_)=>(match ops[jg]? with
  |some ⟨some key,_,_,_,_,_⟩=>ZZ anc jg&&okT anc key 0 dsts
  |_=>false)
def QmC (ops:List Oper) (dsts:List (Option Nat)):List Oper->Nat->List (List Nat)->List (List Bool)->Bool
 |[],_,_,_=>true
 |o::rest,j,ancs,mk::mks=>o.op.operands.toList.all (Qik dsts (Qcd ancs o))&&Qte ops dsts (Qcd ancs o) o.guard&&(List.range j).all (fun i=>Qdt mk i==ZZ (Qcd ancs o) i)&&
   QmC ops dsts rest (j+1) (ancs++[Qcd ancs o]) mks
 |_,_,_,[]=>false
def JS:List Oper->List (List Nat)->List (List Nat)
 |[],ancs=>ancs
 |o::rest,ancs=>JS rest (ancs++[Qcd ancs o])
noncomputable def Qxa (P:Program) (tb:Tb) (cs:Nat->Option CS) (ops:List Oper) (S0:St) (l:List Oper):List (List Bool)->Nat->List Rs->(List Rs->Prop)->Prop:=
 List.rec (motive:=fun _=>List (List Bool)->Nat->List Rs->(List Rs->Prop)->Prop) (fun _ _ R K=>K R) (fun o _ J G j R K=>match G with
  |mk::G=>evD P tb cs ops j o (stM S0 R mk) fun g v nb=>Qs6 R ⟨o.dst,g,v,nb⟩ fun I=>J G (j+1) I K
  | [] => Stuck "drawn region masks") l
theorem Qu3 {P:Program} {tb:Tb} {cs:Nat->Option CS} {ops:List Oper} {S0:St} {G:List (List Bool)} {j:Nat} {R:List Rs} {K:List Rs->Prop}:Qxa P tb cs ops S0 [] G j R K=K R:=rfl
theorem Qtf {P:Program} {tb:Tb} {cs:Nat->Option CS} {ops:List Oper} {S0:St} {o:Oper} {rest:List Oper} {mk:List Bool} {G:List (List Bool)} {j:Nat} {R:List Rs} {K:List Rs->Prop}:
  Qxa P tb cs ops S0 (o::rest) (mk::G) j R K=evD P tb cs ops j o (stM S0 R mk) fun g v nb=>Qs6 R ⟨o.dst,g,v,nb⟩ fun I=>Qxa P tb cs ops S0 rest G (j+1) I K:=rfl
theorem Qp0 {cs:Nat->Option CS} {ops:List Oper} {dsts:List (Option Nat)} {S0:St} {K:List (List Nat)->List Rs->Prop} {K':List Rs->Prop} {D:List (Option Nat)}:∀(l:List Oper) (G:List (List Bool)) (j:Nat) (ancs:List (List Nat)) (R:List Rs),
  QmC ops dsts l j ancs G=true->R.length=j->R.map (·.dst)++l.map (·.dst)=D->(∀J,J.map (·.dst)=D->K' J=K (JS l ancs) J)->Qxa P tb cs ops S0 l G j R K'=evM P tb cs ops dsts S0 l j ancs R K
 |[],_,j,ancs,R,_,hR,hD,hK=>by
  rw[Qu3];simp only[evM];exact hK R (by simpa using hD)
 |o::rest,[],j,ancs,R,h,_,_,_=>by simp[QmC] at h
 |o::rest,mk::G,j,ancs,R,h,hR,hD,hK=>by
  simp only[QmC,Y4] at h;have⟨⟨⟨h1,h2⟩,h3⟩,h4⟩:=h;rw[Qtf];simp only[evM,Qmu];have O:(match o.guard with
   |none=>true
   |some (jg,_)=>(match ops[jg]? with
    |some ⟨some key,_,_,_,_,_⟩=>ZZ (Qcd ancs o) jg&&okT (Qcd ancs o) key 0 dsts
    |_=>false))=true:=h2
  rw[h1];have hs:stM S0 R mk=stOf S0 R (ZZ (Qcd ancs o)):=Qtd fun i hi=>by
   have:=Yb.1 h3 i (by simp;omega);simpa using this
  rw[hs];split
  ·congr 1
   funext g v nb
   rw[Qkj,Qkj];exact Qp0 rest G (j+1) _ _ h4 (by simp[hR]) (by simpa using hD) hK
  ·rename_i I;exact absurd O (I rfl)
def Qio (S0:St) (ancs:List (List Nat)) (R:List Rs):Bool:=
 Qmw ((JN (fun _=>true) 0 R).map (·.1))&&
 (QlM (fun _ ri=>ri.nb.all fun p=>!S0.mentions p.1) 0 R&&
 (QlM (fun j rj=>match rj.nb with
  |[]=>true
  |nb=>QlM (fun i ri=>Nat.beq i j||(ZZ (nth ancs i) j||nb.all fun p=>!ri.v.mentions p.1&&ri.nb.all fun q=>!q.2.mentions p.1)) 0 R) 0 R&&
 QlM (fun _ ri=>match ri.dst with|some t=>Nat.blt t S0.nt&&(match ri.g with|some (k,_)=>!Nat.beq k t|none=>true)|none=>(match ri.nb with|[]=>true|_=>false)) 0 R))
def QoD:Nat->Option Nat->Nat->List (Option Nat)->Bool
 |_,_,_,[]=>true
 |i,d,j,e::r=>(Nat.beq i j||QuX d e)&&QoD i d (j+1) r
def Qi5 (D:List (Option Nat)):Nat->List (Option Nat)->Bool
 |_,[]=>true
 |i,d::r=>QoD i d 0 D&&Qi5 D (i+1) r
theorem QhF {f:Nat->Rs->Bool}:∀ {R:List Rs} {i0:Nat},(∀(j:Nat) (r:Rs),R[j]? =some r->f (i0+j) r=true)->QlM f i0 R=true
 |[],_,_=>rfl
 |q::R,i0,h=>by
  simp only[QlM,show f i0 q=true from h 0 q rfl];exact QhF fun j r hj=>by rw[show i0+1+j=i0+(j+1) by omega];exact h (j+1) r (by simpa using hj)
theorem QmD {i:Nat} {d:Option Nat}:∀ {D:List (Option Nat)} {G:Nat},QoD i d G D=true->∀(j:Nat) (e:Option Nat),D[j]? =some e->(Nat.beq i (G+j)||QuX d e)=true
 |x::D,G,h,j,e,hj=>by
  simp only[QoD,Y4] at h
  cases j with
  |zero=>simp at hj;subst hj;exact h.1
  |succ j=>rw[show G+(j+1)=G+1+j by omega];exact QmD h.2 j e (by simpa using hj)
 |[],_,_,_,_,hj=>by simp at hj
theorem Qk8 {D:List (Option Nat)}:∀ {l:List (Option Nat)} {i0:Nat},Qi5 D i0 l=true->∀(i:Nat) (d:Option Nat),l[i]? =some d->QoD (i0+i) d 0 D=true
 |x::l,i0,h,i,d,hi=>by
  simp only[Qi5,Y4] at h
  cases i with
  |zero=>simp at hi;subst hi;exact h.1
  |succ i=>rw[show i0+(i+1)=i0+1+i by omega];exact Qk8 h.2 i d (by simpa using hi)
 |[],_,_,_,_,hi=>by simp at hi
theorem Qr2 {S0:St} {ancs:List (List Nat)} {R:List Rs} {D:List (Option Nat)} (I:R.map (·.dst)=D) (J:Qi5 D 0 D=true) (h:Qio S0 ancs R=true):Qhf S0 ancs R=true:=by
 simp only[Qio,Y4] at h;have⟨h2,h3,h4,h5⟩:=h;simp only[Qhf,Y4];refine⟨?_,h2,h3,?_,h5⟩
 ·refine QhF fun i ri hi=>QhF fun j rj hj=>?_;have e1:=Qk8 J i ri.dst (by rw[<-I];simp[hi]);have G:=QmD e1 j rj.dst (by rw[<-I];simp[hj]);simpa using G
 ·refine QhF fun i ri hi=>QhF fun j rj hj=>?_;have e1:=QaA h4 j rj hj;simp only[Yg] at e1|-;split at e1
  ·rename_i O;rw[O];simp
  ·have G:=QaA e1 i ri hi;simpa using G
theorem QoE {S0:St} {ancs:List (List Nat)} {R:List Rs} {D:List (Option Nat)} (I:R.map (·.dst)=D) (G:Qi5 D 0 D=true):Qio S0 ancs R=Qhf S0 ancs R:=by
 rw[YE];refine⟨Qr2 I G,fun h=>?_⟩;simp only[Qhf,Y4] at h;have⟨_,h2,h3,h4,h5⟩:=h;simp only[Qio,Y4];refine⟨h2,h3,QhF fun j rj hj=>?_,h5⟩;have J:(QlM (fun i ri=>Nat.beq i (0+j)||(ZZ (nth ancs i) (0+j)||rj.nb.all fun p=>!ri.v.mentions p.1&&ri.nb.all fun q=>!q.2.mentions p.1)) 0 R)=true:=QhF fun i ri hi=>by
  have:=QaA (QaA h4 i ri hi) j rj hj;simpa using this
 split
 ·rfl
 ·exact J
def QeS:List (List Bool)->Nat->List Bool
 |[],_=>[]
 |a::_,0=>a
 |_::r,n+1=>QeS r n
def orB:List Bool->List Bool->List Bool
 |[],b=>b
 |a,[]=>a
 |x::a,y::b=>(x||y)::orB a b
def Qu4:Nat->List Bool
 |0=>[true]
 |n+1=>false::Qu4 n
def QoF (G:List (List Bool)):List Nat->List Bool
 |[]=>[]
 |i::r=>orB (orB (Qu4 i) (QeS G i)) (QoF G r)
theorem Qnu:∀ {a b:List Bool} {k:Nat},Qdt (orB a b) k=(Qdt a k||Qdt b k)
 |[],b,k=>by simp[orB,Qdt]
 |x::a,[],k=>by simp[orB,Qdt]
 |x::a,y::b,0=>rfl
 |x::a,y::b,k+1=>by simpa[orB,Qdt] using Qnu (a:=a) (b:=b) (k:=k)
theorem QoG:∀ {n k:Nat},Qdt (Qu4 n) k=Nat.beq n k
 |0,0=>rfl
 |0,k+1=>rfl
 |n+1,0=>rfl
 |n+1,k+1=>by
  show Qdt (Qu4 n) k=Nat.beq n k;exact QoG
theorem Qk9:∀ {a b:List Nat} {k:Nat},ZZ (a++b) k=(ZZ a k||ZZ b k)
 |[],b,k=>rfl
 |x::a,b,k=>by
  simp only[XA,ZZ];split
  ·rfl
  ·exact Qk9
theorem Qtg {x:Nat} {a:List Nat} {k:Nat}:ZZ (x::a) k=(Nat.beq x k||ZZ a k):=by
 simp only[ZZ];cases Nat.beq x k<;>rfl
theorem QhG {G:List (List Bool)} {ancs:List (List Nat)} (h:∀i k,Qdt (QeS G i) k=ZZ (nth ancs i) k):∀ {es:List Nat} {k:Nat},Qdt (QoF G es) k=ZZ (ancIn ancs es) k
 |[],k=>rfl
 |i::r,k=>by
  simp only[QoF,ancIn];rw[Qnu,Qnu,QoG,h,QhG h,Qtg,Qk9,Bool.or_assoc]
theorem Qla {x:List Bool}:∀ {l:List (List Bool)} {i:Nat},QeS (l++[x]) i=if i=l.length then x else QeS l i
 |[],0=>rfl
 |[],i+1=>by simp[QeS]
 |a::l,0=>by simp[QeS]
 |a::l,i+1=>by simpa[QeS] using Qla (l:=l) (i:=i)
theorem Qlb {x:List Nat}:∀ {l:List (List Nat)} {i:Nat},nth (l++[x]) i=if i=l.length then x else nth l i
 |[],0=>rfl
 |[],i+1=>by simp[nth]
 |a::l,0=>by simp[nth]
 |a::l,i+1=>by simpa[nth] using Qlb (l:=l) (i:=i)
def isD (d:Option Nat) (t:Nat):Bool:=match d with
 |some u=>Nat.beq u t
 |none=>false
def Qxb (t:Nat):List Bool->List (Option Nat)->Bool
 |_,[]=>true
 |[],d::r=>!isD d t&&Qxb t [] r
 |b::bs,d::r=>(b|| !isD d t)&&Qxb t bs r
theorem Qnv {anc:List Nat} {t:Nat}:∀ {ds:List (Option Nat)} {mk:List Bool} {i:Nat},(∀k,Qdt mk k=ZZ anc (i+k))->Qxb t mk ds=okT anc t i ds
 |[],_,_,_=>by cases ‹List Bool›<;>rfl
 |d::r,[],i,h=>by
  have G:ZZ anc i=false:=(h 0).symm;have I:=Qnv (anc:=anc) (t:=t) (ds:=r) (mk:=[]) (i:=i+1) fun k=>by rw[show i+1+k=i+(k+1) by omega];exact h (k+1)
  simp only[Qxb,okT,G,isD];rw[I]
  cases d with
  |none=>rfl
  |some u=>dsimp only;cases Nat.beq u t<;>rfl
 |d::r,b::bs,i,h=>by
  have G:b=ZZ anc i:=h 0;have I:=Qnv (anc:=anc) (t:=t) (ds:=r) (mk:=bs) (i:=i+1) fun k=>by rw[show i+1+k=i+(k+1) by omega];exact h (k+1)
  simp only[Qxb,okT,<-G,isD];rw[I]
  cases d with
  |none=>cases b<;>rfl
  |some u=>dsimp only;cases Nat.beq u t<;>cases b<;>rfl
def Qr3 (dsts:List (Option Nat)) (mk:List Bool):Operand->Bool
 | .tmp t=>Qxb t mk dsts
 |_=>true
def QqR (ops:List Oper) (dsts:List (Option Nat)) (mk:List Bool):Option (Nat×Bool)->Bool
 |none=>true
 |some (jg,_)=>(match ops[jg]? with
  |some ⟨some key,_,_,_,_,_⟩=>Qdt mk jg&&Qxb key mk dsts
  |_=>false)
def Qy6:List Bool->List Bool->Bool
 |[],[]=>true
 |true::a,true::b=>Qy6 a b
 |false::a,false::b=>Qy6 a b
 |_,_=>false
theorem Qnw:∀ {a b:List Bool},Qy6 a b=true->a=b
 |[],[],_=>rfl
 |true::a,true::b,h=>by rw[Qnw (a:=a) (b:=b) h]
 |false::a,false::b,h=>by rw[Qnw (a:=a) (b:=b) h]
 |[],_::_,h=>by cases h
 |true::_,[],h=>by cases h
 |false::_,[],h=>by cases h
 |true::_,false::_,h=>by cases h
 |false::_,true::_,h=>by cases h
def Qlc (ops:List Oper) (dsts:List (Option Nat)):List Oper->List (List Bool)->List (List Bool)->Bool
 |[],_,_=>true
 |o::rest,acc,mk::mks=>Qy6 (QoF acc (Zl o.after.toList)) mk&&(o.op.operands.toList.all (Qr3 dsts mk)&&(QqR ops dsts mk o.guard&&Qlc ops dsts rest (acc++[mk]) mks))
 |_::_,_,[]=>false
theorem Qi6 {ops:List Oper} {dsts:List (Option Nat)}:∀(l:List Oper) (I G:List (List Bool)) (ancs:List (List Nat)) (j:Nat),Qlc ops dsts l G I=true->G.length=j->ancs.length=j->(∀i k,Qdt (QeS G i) k=ZZ (nth ancs i) k)->
  QmC ops dsts l j ancs I=true∧∀i k,Qdt (QeS (G++I.take l.length) i) k=ZZ (nth (JS l ancs) i) k
 |[],I,G,ancs,j,_,_,_,h=>⟨rfl,by simpa[JS] using h⟩
 |o::rest,[],G,ancs,j,h,_,_,_=>by simp[Qlc] at h
 |o::rest,mk::I,G,ancs,j,h,h1,h2,hA=>by
  simp only[Qlc,Y4] at h;have⟨e1,e2,Y,e4⟩:=h;have e1:=Qnw e1;have J:∀k,Qdt mk k=ZZ (Qcd ancs o) k:=fun k=>by rw[<-e1];exact QhG hA
  have O:∀i k,Qdt (QeS (G++[mk]) i) k=ZZ (nth (ancs++[Qcd ancs o]) i) k:=fun i k=>by
   rw[Qla,Qlb,h1,h2];split
   ·exact J k
   ·exact hA i k
  have⟨U,i2⟩:=Qi6 rest I (G++[mk]) (ancs++[Qcd ancs o]) (j+1) e4 (by simp[h1]) (by simp[h2]) O;refine⟨?_,by simpa[JS] using i2⟩;simp only[QmC,Y4];refine⟨⟨⟨?_,?_⟩,?_⟩,U⟩
  ·rw[<-e2]
   congr 1
   funext x
   cases x with
   |tmp t=>exact(Qnv (anc:=Qcd ancs o) (i:=0) fun k=>by rw[Yg];exact J k).symm
   |_=>rfl
  ·rw[<-Y]
   cases hg:o.guard with
   |none=>rfl
   |some g=>
    have⟨jg,want⟩:=g;simp only[Qte,QqR];split
    ·rw[J,Qnv (anc:=Qcd ancs o) (i:=0) fun k=>by rw[Yg];exact J k]
    ·rfl
  ·exact Yb.2 fun i _=>by simp[J i]
def QeO (S0:St) (G:List (List Bool)) (R:List Rs):Bool:=
 Qmw ((JN (fun _=>true) 0 R).map (·.1))&&
 (QlM (fun _ ri=>ri.nb.all fun p=>!S0.mentions p.1) 0 R&&
 (QlM (fun j rj=>match rj.nb with
  |[]=>true
  |nb=>QlM (fun i ri=>Nat.beq i j||(Qdt (QeS G i) j||nb.all fun p=>!ri.v.mentions p.1&&ri.nb.all fun q=>!q.2.mentions p.1)) 0 R) 0 R&&
 QlM (fun _ ri=>match ri.dst with|some t=>Nat.blt t S0.nt&&(match ri.g with|some (k,_)=>!Nat.beq k t|none=>true)|none=>(match ri.nb with|[]=>true|_=>false)) 0 R))
noncomputable def Qnx (P:Program) (tb:Tb) (cs:Nat->Option CS) (m:Nat) (G:List (List Bool)) (ops:List Oper) (S:St) (K:St->Prop):Prop:=
 stK (QpW ((ops.take m).map (·.dst)) S) fun S0=>Qxa P tb cs ops S0 (ops.take m) G 0 [] fun R=>
   match QeO S0 G R with
   |true=>stK (stM S0 R (List.replicate m true)) fun I=>QeN P tb ops (ops.drop m) I fun S=>S.noGds K
   | false => Stuck "drawn region what is made is named too early"
theorem Qny:∀ {m i:Nat},i<m->Qdt (List.replicate m true) i=true
 |m+1,0,_=>rfl
 |m+1,i+1,h=>by simpa[List.replicate_succ,Qdt] using Qny (m:=m) (i:=i) (by omega)
end Go.Ab
namespace Go.Ab
open Go.RowKit
variable {P:Program} {tb:Tb}
theorem QqS {α:Type} {xs:Array α} {d t:Nat} {x v:α} (h:d≠t):(xs.setIfInBounds t v).setIfInBounds d x=(xs.setIfInBounds d x).setIfInBounds t v:=by
 apply Array.ext_getElem?
 intro i;simp only[YO]
 by_cases e1:d=i
 ·subst e1
  by_cases G:t=d
  ·exact absurd G.symm h
  ·simp[G]
 ·by_cases G:t=i
  ·subst G;simp[e1]
  ·simp[e1,G]
theorem Act.put_comm {a:Act} {d t:Nat} {x v:Value} (h:d≠t):(a.put (some t) v).put (some d) x=(a.put (some d) x).put (some t) v:=by
 have:(a.tmps.setIfInBounds t v).setIfInBounds d x=(a.tmps.setIfInBounds d x).setIfInBounds t v:=by
  exact QqS h
 exact congrArg (fun x=>(⟨x,a.defers⟩:Act)) this
theorem Qld {a:Act} {t:Nat} {v:Value} {x:Operand} (h:x≠ .tmp t):(a.put (some t) v).eval x=a.eval x:=by
 cases x with
 |tmp u=>
  have:u≠t:=fun e=>h (by rw[e]);simp only[Act.eval,Act.put,Y6,YO,Y0 (YU this)]
 |_=>rfl
structure Light (ops:Array Oper) (i t s k:Nat):Prop where
 out:∃ty pos after,ops[i]? =some ⟨some t,.extract (.tmp s) k,ty,pos,after,none⟩
structure Comm (ops:Array Oper) (t s:Nat) (o:Oper):Prop where
 sel:∀cs b,o.op≠ .select cs b
 reads:∀x∈o.op.operands,x≠ .tmp t
 dst:o.dst≠some t
 src:o.dst≠some s
 guard:∀jg w,o.guard=some (jg,w)→(ops[jg]?).bind (·.dst)≠some t
variable {ops:Array Oper} {Q:Exit→Act→World→Prop} {i t s k:Nat}
theorem QoH (hl:Light ops i t s k) (J:∀e a w,Q e a w->e=.normal) {K:Act->World->Prop} {a:Act} {w:World} (h:wpOp P ops Q i K a w):
  ∃vs v,a.eval (.tmp s)=.tuple vs∧vs[k]? =some v∧K (a.put (some t) v) w:=by
 have⟨ty,pos,after,ho⟩:=hl.out;unfold wpOp at h;simp only[ho,Region.wanted,YG] at h;rcases h with h|h
 ·unfold Oper.wp at h;simp only[execOp] at h
  cases G:a.eval (.tmp s) with
  |tuple vs=>
   rw[G] at h;simp only[Instr.extract] at h
   cases hk:vs[k]? with
   |none=>rw[hk] at h;simp[Oper.upon,stuck] at h
   |some v=>
    rw[hk] at h;simp only[pure_bind,Sem.run_pure] at h;exact⟨vs,v,rfl,hk,h⟩
  |_=>rw[G] at h;simp[Instr.extract,Oper.upon,stuck] at h
 ·have⟨_,a',w',I⟩:=h;have:=J _ _ _ I;cases this
theorem Qu5 (hl:Light ops i t s k) {K:Act->World->Prop} {a:Act} {w:World} {vs:Array Value} {v:Value} (h1:a.eval (.tmp s)=.tuple vs) (h2:vs[k]? =some v) (h3:K (a.put (some t) v) w):wpOp P ops Q i K a w:=by
 have⟨ty,pos,after,ho⟩:=hl.out;unfold wpOp;simp only[ho,Region.wanted,YG];refine .inl ?_;unfold Oper.wp;simp only[execOp,h1,Instr.extract,h2,pure_bind,Sem.run_pure];exact h3
theorem Qxc (hQ:∀e a w,Q e a w->e=.normal) {j:Nat} {o:Oper} (hj:ops[j]? =some o) (hc:Comm ops t s o) {K:Act->World->Prop} {a:Act} {w:World} {v:Value} (h:wpOp P ops Q j K (a.put (some t) v) w):
  wpOp P ops Q j (fun a' w'=>a'.eval (.tmp s)=a.eval (.tmp s)∧K (a'.put (some t) v) w') a w:=by
 have U:Region.wanted o (yielded ops (a.put (some t) v).tmps)=Region.wanted o (yielded ops a.tmps):=by
  unfold Region.wanted
  cases hg:o.guard with
  |none=>rfl
  |some g=>
   have⟨jg,want⟩:=g;have J:=hc.guard jg want hg;simp only;have:yielded ops (a.put (some t) v).tmps jg=yielded ops a.tmps jg:=by
    unfold yielded
    cases O:(ops[jg]?).bind (·.dst) with
    |none=>rfl
    |some d=>
     rw[O] at J;have J:t≠d:=fun e=>J (by rw[e]);simp only[Y0i,Act.put,YO,Y0 J]
   rw[this]
 have a1:execOp (a.put (some t) v).eval o=execOp a.eval o:=execOp_congr o hc.sel fun x hx=>Qld (hc.reads x hx);have I:∀x,(a.put (some t) v).put o.dst x=(a.put o.dst x).put (some t) v:=fun x=>by
  cases O:o.dst with
  |none=>rfl
  |some d=>exact Act.put_comm fun e=>hc.dst (by rw[O,e])
 have G:∀x,(a.put o.dst x).eval (.tmp s)=a.eval (.tmp s):=fun x=>by
  cases O:o.dst with
  |none=>rfl
  |some d=>exact Qld fun e=>hc.src (by rw[O];cases e;rfl)
 unfold wpOp at h|-;simp only[hj] at h|-;rw[U] at h;split
 ·rename_i hw;rw[Y2 hw] at h;rcases h with h|h
  ·refine .inl ?_;unfold Oper.wp at h|-;rw[a1] at h;generalize (execOp a.eval o).run P w=r at*
   cases r with
   |ok n w'=>
    cases n with
    |value x=>exact⟨G x,by rw[<-I];exact h⟩
    |skip=>exact⟨G _,by rw[<-I];exact h⟩
    |defer d=>
     simp only[Oper.upon] at h|-;refine⟨?_,?_⟩
     ·have:=G undef
      cases O:o.dst<;>rw[O] at this<;>exact this
     ·cases O:o.dst with
      |none=>rw[O] at h;exact h
      |some d'=>
       rw[O] at h;have J:d'≠t:=fun e=>hc.dst (by rw[O,e]);have:=Act.put_comm (a:={a with defers:=d::a.defers}) (x:=undef) (v:=v) J;rw[<-this];exact h
    |enter f args=>
     simp only[Oper.upon] at h|-;refine Calls.mono h fun e a2 Y=>?_
     cases e with
     |returned x=>exact⟨G x,by rw[<-I];exact Y⟩
     |panicked c=>have:=hQ _ _ _ Y;cases this
     |outgrown=>exact Y
    |row r args=>
     simp only[Oper.upon] at h|-;exact Rows.mono h fun x a2 Y=>⟨G x,by rw[<-I];exact Y⟩
    |_=>simp only[Oper.upon] at h
   |halt x w'=>
    cases x<;>simp only[Oper.upon] at h|-
    all_goals first
     |exact h
     |(have:=hQ _ _ _ h;cases this)
  ·have⟨_,a',w',h'⟩:=h;have:=hQ _ _ _ h';cases this
 ·rename_i hw;rw[Y0 hw] at h;exact⟨G _,by rw[<-I];exact h⟩
theorem Qth {listed:Array Bool} {i x:Nat} (G:x<listed.size):(listed.setIfInBounds i true).getD x false=(decide (i=x)||listed.getD x false):=by
 simp only[Y6,YO]
 by_cases e:i=x
 ·subst e;simp[G]
 ·simp[e]
theorem Qle {listed:Array Bool} {i x:Nat} (h:listed.getD x false=true):(listed.setIfInBounds i true).getD x false=true:=by
 have G:x<listed.size:=by
  by_cases G:x<listed.size
  ·exact G
  ·rw[Y6,XJ (by omega)] at h;cases h
 rw[Qth G];simp[h]
theorem QzZ (hQ:∀e a w,Q e a w->e=.normal) (hl:Light ops i t s k)
  (a5:∀j o,ops[j]? =some o->j≠i->i∈Zl o.after.toList∨(∃oi,ops[i]? =some oi∧j∈Zl oi.after.toList)∨Comm ops t s o):
  ∀(I:Nat) (listed:Array Bool) (a:Act) (w:World),listed.size=ops.size->i∈Region.ready .any ops listed->wpOp P ops Q i (wpAny P .any ops Q I (listed.setIfInBounds i true)) a w->wpAny P .any ops Q (I+1) listed a w:=by
 intro I
 induction I with
 |zero=>
  intro listed a w hs Y h;refine⟨fun hn=>by rw[hn] at Y;simp at Y,fun j hj=>?_⟩
  by_cases G:j=i
  ·subst G;exact h
  ·exfalso;have⟨vs,v,_,_,h3⟩:=QoH hl hQ h;have⟨h4,_⟩:=h3;have:j∈Region.ready .any ops (listed.setIfInBounds i true):=by
    have⟨g1,o,g2,g3⟩:=mem_ready.1 hj;refine mem_ready.2 ⟨?_,o,g2,fun e he hb=>?_⟩
    ·simp only[Y6,YO] at g1|-;rw[Y0 (YU G)];exact g1
    ·have:=g3 e he hb;exact Qle this
   rw[h4] at this;simp at this
 |succ I ih=>
  intro listed a w hs Y h;refine⟨fun hn=>by rw[hn] at Y;simp at Y,fun j hj=>?_⟩
  by_cases G:j=i
  ·subst G;exact h
  ·have⟨vs,v,e1,e2,h3⟩:=QoH hl hQ h;have⟨g1,o,g2,g3⟩:=mem_ready.1 hj;have a4:j∈Region.ready .any ops (listed.setIfInBounds i true):=by
    refine mem_ready.2 ⟨?_,o,g2,fun e he hb=>?_⟩
    ·simp only[Y6,YO] at g1|-;rw[Y0 (YU G)];exact g1
    ·have:=g3 e he hb;exact Qle this
   have h4:=h3.2 j a4;have⟨r1,oi,r2,r3⟩:=mem_ready.1 Y;have a2:i<listed.size:=by rw[hs];exact(Yr.1 r2).1
   have hc:Comm ops t s o:=by
    rcases a5 j o g2 G with hc|⟨oi',f1,f2⟩|hc
    ·exfalso;have⟨ed,J,hb,O⟩:=Qar.1 hc;have:=g3 ed (by simpa using J) hb;rw[O,<-Qfx a2,r1] at this
     cases this
    ·exfalso;rw[r2] at f1;cases f1;have⟨ed,J,hb,O⟩:=Qar.1 f2;have:=r3 ed (by simpa using J) hb;have a1:j<listed.size:=by rw[hs];exact(Yr.1 g2).1
     rw[O,<-Qfx a1,g1] at this
     cases this
    ·exact hc
   refine wpOp_mono (fun a' w' hk=>?_) (Qxc hQ g2 hc h4);have⟨k1,k2⟩:=hk;have a3:i∈Region.ready .any ops (listed.setIfInBounds j true):=by
    refine mem_ready.2 ⟨?_,oi,r2,fun e he hb=>?_⟩
    ·simp only[Y6,YO] at r1|-;rw[Y0 G];exact r1
    ·have:=r3 e he hb;exact Qle this
   refine ih _ a' w' (by simpa using hs) a3 (Qu5 hl (by rw[k1];exact e1) e2 ?_);have U:(listed.setIfInBounds j true).setIfInBounds i true=(listed.setIfInBounds i true).setIfInBounds j true:=by
    exact QqS (YU G)
   rw[U];exact k2
end Go.Ab
namespace Go.Ab
open Go.RowKit
variable {P:Program} {tb:Tb} {w:World} {ρ:Env} {a:Act} {B:Bd} {w0:World} {F:List (Array Value)}
 {cs:Nat→Option CS} {m:Nat} {ops:List Oper} {S0:St} {A:List (List Nat)} {R:List Rs} {ls:List Nat}
def Qi7 (m:Nat) (ls:List Nat) (ops:List Oper):Prop:=∀(j:Nat) (o:Oper),ops[j]? =some o->m<=j->∀e,e<j->e∈nth (JS ops []) j∨(e<m∧e∈ls)
theorem Qfz:∀ {l:List Oper} {ancs:List (List Nat)},(JS l ancs).take ancs.length=ancs∧(JS l ancs).length=ancs.length+l.length
 |[],ancs=>by simp[JS]
 |o::r,ancs=>by
  have⟨h1,h2⟩:=Qfz (l:=r) (ancs:=ancs++[Qcd ancs o]);simp only[JS];refine⟨?_,by rw[h2];simp;omega⟩;have:((JS r (ancs++[Qcd ancs o])).take (ancs++[Qcd ancs o]).length).take ancs.length=ancs:=by rw[h1];simp
  rwa[Y00,Xh (by simp)] at this
theorem QoI:∀ {l:List Oper} {ancs:List (List Nat)} {i:Nat} {o:Oper},l[i]? =some o->nth (JS l ancs) (ancs.length+i)=Qcd ((JS l ancs).take (ancs.length+i)) o
 |o::r,ancs,0,q,h=>by
  simp at h;subst h;have⟨h1,_⟩:=Qfz (l:=r) (ancs:=ancs++[Qcd ancs o]);have⟨h3,_⟩:=Qfz (l:=o::r) (ancs:=ancs);rw[X0,h3];simp only[JS];rw[<-Qim (A:=JS r (ancs++[Qcd ancs o])) (j:=(ancs++[Qcd ancs o]).length) (by simp),h1,Qmx];simp
 |o::r,ancs,i+1,q,h=>by
  have:=QoI (l:=r) (ancs:=ancs++[Qcd ancs o]) (i:=i) (o:=q) (by simpa using h);simp only[JS];have e:(ancs++[Qcd ancs o]).length+i=ancs.length+(i+1):=by simp;omega
  rw[e] at this;exact this
 |[],_,_,_,h=>by simp at h
theorem Qnz {ops:List Oper} (I:Qc3 0 ops=true) {j:Nat} {o:Oper} (ho:ops[j]? =some o) {i:Nat}:i∈nth (JS ops []) j↔ ∃e∈Zl o.after.toList,i=e∨i∈nth (JS ops []) e:=by
 have:=QoI (ancs:=[]) ho;rw[Yx,Yg] at this;rw[this];unfold Qcd;rw[Qk6];have key:∀e∈Zl o.after.toList,nth ((JS ops []).take j) e=nth (JS ops []) e:=fun e G=>Qim (by simpa using Qby I j o ho e G)
 constructor
 ·rintro⟨e,h1,h2⟩;rw[key e h1] at h2;exact⟨e,h1,h2⟩
 ·rintro⟨e,h1,h2⟩;refine⟨e,h1,?_⟩;rw[key e h1];exact h2
theorem Qr4 {A:List (List Nat)} {j:Nat} (h:A.length<=j):nth A j=[]:=by rw[Qmx,Xd h];rfl
theorem Qwp {ops:List Oper} (G:Qc3 0 ops=true):∀(n j:Nat),j<n->∀i∈nth (JS ops []) j,i<j
 |n+1,j,hj,i,hi=>by
  cases ho:ops[j]? with
  |none=>
   have hlen:(JS ops []).length=ops.length:=by simpa using (Qfz (l:=ops) (ancs:=[])).2
   have:ops.length<=j:=by simpa using ho
   rw[Qr4 (by omega)] at hi;simp at hi
  |some o=>
   have⟨e,h1,h2⟩:=(Qnz G ho).1 hi;have hlt:=Qby G j o ho e h1;rcases h2 with rfl|h2
   ·omega
   ·have:=Qwp G n e (by omega) i h2;omega
 |0,_,hj,_,_=>absurd hj (by omega)
theorem Walked.same (W:Walked P tb cs m ops S0 A R) (G:Qc3 0 ops=true):∀(n j:Nat),j<n->j<m->∀i,i∈nth (JS ops []) j->i∈nth A j
 |n+1,j,hj,hm,i,hi=>by
  have⟨o,ho⟩:=W.op hm;have⟨e,h1,h2⟩:=(Qnz G ho).1 hi;refine(W.anc hm ho).2 ⟨e,h1,?_⟩;rcases h2 with h2|h2
  ·exact .inl h2
  ·have hlt:=Qby G j o ho e h1;exact .inr (W.same G n e (by omega) (by omega) i h2)
 |0,_,hj,_,_,_=>absurd hj (by omega)
theorem Qwq {opsA:Array Oper} (hf:Qi7 m ls opsA.toList) (he:Qc3 0 opsA.toList=true) {Q:Exit->Act->World->Prop}:
  ∀(fuel k:Nat) (listed:Array Bool),m<=k->k<=opsA.size->listed.size=opsA.size->unl listed=fuel->(∀i,i<opsA.size->listed.getD i false=decide (i<k))->
  ∀(a:Act) (w:World),wpOps P opsA Q (List.range' k (opsA.size-k)) a w->wpAny P .any opsA Q fuel listed a w:=by
 intro fuel
 induction fuel with
 |zero=>
  intro k listed hm hk hs hu hl a w h;have hkn:k=opsA.size:=by
   apply Nat.le_antisymm hk
   apply Y0l
   intro hlt;have:=hl k hlt;rw[<-Qfx (by omega)] at this;have:=QpZ (listed:=listed) (i:=k) (by simpa using this);omega
  refine⟨?_,?_⟩
  ·rw[List.eq_nil_iff_forall_not_mem];intro j hj;obtain⟨h1,o,ho,_⟩:=mem_ready.1 hj;have:=QpZ h1;omega
  ·subst hkn;simpa[wpOps] using h
 |succ fuel ih=>
  intro k listed hm hk hs hu hl a w h;have huniq:∀j∈Region.ready .any opsA listed,j=k∧k<opsA.size:=by
   intro j hj;obtain⟨h1,o,ho,h2⟩:=mem_ready.1 hj;have hjlt:j<opsA.size:=(Yr.1 ho).1;have hjk:k<=j:=by
    apply Y0l
    intro hlt;have:=hl j hjlt;rw[Qfx (by omega)] at h1;rw[h1] at this;simp at this;omega
   refine⟨?_,by omega⟩
   by_cases e:j=k
   ·exact e
   ·exfalso;have hin:=(hf j o (by simpa using ho) (by omega) k (by omega)).resolve_right (fun h=>by omega);obtain⟨e',he',hk'⟩:=(Qnz he (by simpa using ho)).1 hin;obtain⟨ed,hed,hb,hon⟩:=Qar.1 he';have hlt:=Qby he j o (by simpa using ho) e' he';have:=h2 ed (by simpa using hed) hb;rw[hon,hl e' (by omega)] at this;have hek:e'<k:=by simpa using this
    rcases hk' with hk'|hk'
    ·omega
    ·have:=Qwp he (e'+1) e' (by omega) k hk';omega
  by_cases hkn:k=opsA.size
  ·refine⟨fun _=>?_,fun i hi=>?_⟩
   ·subst hkn;simpa[wpOps] using h
   ·have:=(huniq i hi).2;omega
  ·have hklt:k<opsA.size:=by omega
   obtain⟨o,ho⟩:∃o,opsA[k]? =some o:=⟨_,Xm hklt⟩;have hkun:listed.getD k true=false:=by rw[Qfx (by omega),hl k hklt];simp
   have hkr:k∈Region.ready .any opsA listed:=by
    refine mem_ready.2 ⟨hkun,o,ho,fun e hee hb=>?_⟩;have hlt:=Qby he k o (by simpa using ho) e.on (Qar.2 ⟨e,by simpa using hee,hb,rfl⟩);rw[hl e.on (by omega)];simp;omega
   refine⟨fun hnil=>?_,fun i hi=>?_⟩
   ·rw[hnil] at hkr;simp at hkr
   ·obtain⟨rfl,_⟩:=huniq i hi;have hr:List.range' i (opsA.size-i)=i::List.range' (i+1) (opsA.size-(i+1)):=by
     rw[show opsA.size-i=(opsA.size-(i+1))+1 by omega,List.range'_succ]
    rw[hr,wpOps_cons] at h;refine wpOp_mono (fun a w h=>?_) h;refine ih (i+1) _ (by omega) (by omega) (by simpa using hs) ?_ (fun x hx=>?_) a w h
    ·have:=Qnt hkun;omega
    ·have:=congrFun (Qfy (listed:=listed) (j:=i) (by omega)) x;rw[this,QfT,hl x hx]
     by_cases e:x=i
     ·subst e;simp
     ·have:Nat.beq x i=false:=by
       cases hb:Nat.beq x i
       ·rfl
       ·exact absurd (Y5 hb) e
      rw[this];simp;omega
theorem Qwr {opsA:Array Oper} (W:Walked P tb cs m opsA.toList S0 A R) (hf:Qi7 m ls opsA.toList) (he:Qc3 0 opsA.toList=true) {Q:Exit->Act->World->Prop} (hQ:∀e a w,Q e a w->e=.normal) (Inv:(Nat->Bool)->Act->World->Prop)
  (hls:∀i∈ls,∃t s k,Light opsA i t s k∧∀j o,opsA[j]? =some o->j≠i->i∈Zl o.after.toList∨(∃oi,opsA[i]? =some oi∧j∈Zl oi.after.toList)∨Comm opsA t s o)
  (hstep:∀(E:Nat->Bool) (j:Nat) (o:Oper),Qgw m A E->j<m->E j=false->opsA.toList[j]? =some o->(∀e∈Zl o.after.toList,E e=true)->∀a w,Inv E a w->∀next:Act->World->Prop,(∀a' w',Inv (QfT E j) a' w'->next a' w')->wpOp P opsA Q j next a w)
  (hend:∀(E:Nat->Bool) a w,(∀i,i<m->E i=true)->Inv E a w->wpOps P opsA Q (List.range' m (opsA.size-m)) a w):
  ∀(fuel:Nat) (listed:Array Bool),listed.size=opsA.size->unl listed=fuel->(∀i,listed.getD i false=true->i<m)->Qgw m A (fun i=>listed.getD i false)->
  ∀(a:Act) (w:World),Inv (fun i=>listed.getD i false) a w->wpAny P .any opsA Q fuel listed a w:=by
 have hml:m<=opsA.size:=by simpa using W.len
 intro fuel
 induction fuel with
 |zero=>
  intro listed hs hu hE hc a w h
  by_cases hall:∀i,i<m->listed.getD i false=true
  ·refine Qwq hf he 0 m listed (Yi _) hml hs hu (fun i hi=>?_) a w (hend _ a w hall h)
   by_cases hi':i<m
   ·simp[hall i hi',hi']
   ·cases hb:listed.getD i false
    ·simp[hi']
    ·exact absurd (hE i hb) hi'
  ·exfalso;have:∃i,i<m∧listed.getD i false=false:=by
    apply XN
    intro hno
    apply hall
    intro i hi
    cases hb:listed.getD i false
    ·exact absurd ⟨i,hi,hb⟩ hno
    ·rfl
   obtain⟨i,hi,hb⟩:=this;have:=QpZ (listed:=listed) (i:=i) (by rw[Qfx (by omega)];exact hb);omega
 |succ fuel ih=>
  intro listed hs hu hE hc a w h
  by_cases hall:∀i,i<m->listed.getD i false=true
  ·refine Qwq hf he (fuel+1) m listed (Yi _) hml hs hu (fun i hi=>?_) a w (hend _ a w hall h)
   by_cases hi':i<m
   ·simp[hall i hi',hi']
   ·cases hb:listed.getD i false
    ·simp[hi']
    ·exact absurd (hE i hb) hi'
  ·have hex:∃i,i<m∧listed.getD i false=false∧∀k,k<i->listed.getD k false=true:=by
    apply XN
    intro hno
    apply hall
    intro i
    induction i using Nat.strongRecOn with
    |ind i ih=>
     intro hi
     cases hb:listed.getD i false
     ·exact absurd ⟨i,hi,hb,fun k hk=>ih k hk (by omega)⟩ hno
     ·rfl
   obtain⟨i,hi,hb,hlow⟩:=hex;obtain⟨o,ho⟩:=W.op hi
   by_cases hil:i∈ls
   ·obtain⟨t,s,k,hl,hcm⟩:=hls i hil;have hir:i∈Region.ready .any opsA listed:=by
     refine mem_ready.2 ⟨by rw[Qfx (by omega)];exact hb,o,by simpa using ho,fun e hee hbd=>?_⟩;exact hlow _ (W.lt i o ho e.on (Qar.2 ⟨e,by simpa using hee,hbd,rfl⟩))
    obtain⟨h1,oj,hoj,h2⟩:=mem_ready.1 hir;have hrdy:∀e∈Zl oj.after.toList,(fun i=>listed.getD i false) e=true:=fun e hee=>by
     obtain⟨ed,hed,hbd,hon⟩:=Qar.1 hee;rw[<-hon];exact h2 ed (by simpa using hed) hbd
    refine QzZ hQ hl hcm fuel listed a w hs hir ?_;refine hstep _ i oj hc hi hb (by simpa using hoj) hrdy a w h _ (fun a' w' h'=>?_);refine ih _ (by simpa using hs) ?_ (fun x hx=>?_) ?_ a' w' ?_
    ·have:=Qnt h1;omega
    ·have hx':=congrFun (Qfy (listed:=listed) (j:=i) (by omega)) x;rw[hx',QaS] at hx;rcases hx with hx|hx
     ·exact hE x hx
     ·omega
    ·rw[Qfy (by omega)];exact Qmz hc (W.ancIn hc hi (by simpa using hoj) hrdy)
    ·rw[Qfy (by omega)];exact h'
   refine⟨fun hnil=>?_,fun j hj=>?_⟩
   ·have:i∈Region.ready .any opsA listed:=by
     refine mem_ready.2 ⟨by rw[Qfx (by omega)];exact hb,o,by simpa using ho,fun e hee hbd=>?_⟩;exact hlow _ (W.lt i o ho e.on (Qar.2 ⟨e,by simpa using hee,hbd,rfl⟩))
    rw[hnil] at this;simp at this
   ·obtain⟨h1,oj,hoj,h2⟩:=mem_ready.1 hj;have hjlt:j<opsA.size:=(Yr.1 hoj).1;have hjm:j<m:=by
     apply Nat.lt_of_not_le
     intro hle;have hin:=(hf j oj (by simpa using hoj) (by omega) i (by omega)).resolve_right (fun h=>hil h.2);obtain⟨e',he',hk'⟩:=(Qnz he (by simpa using hoj)).1 hin;obtain⟨ed,hed,hbd,hon⟩:=Qar.1 he';have hle:=h2 ed (by simpa using hed) hbd;rw[hon] at hle;have hem:=hE e' hle;rcases hk' with hk'|hk'
     ·subst hk';rw[hb] at hle;cases hle
     ·have:=hc e' hem hle i (W.same he (e'+1) e' (by omega) hem i hk');dsimp only at this;rw[hb] at this;cases this
    have hrdy:∀e∈Zl oj.after.toList,(fun i=>listed.getD i false) e=true:=fun e hee=>by
     obtain⟨ed,hed,hbd,hon⟩:=Qar.1 hee;rw[<-hon];exact h2 ed (by simpa using hed) hbd
    have hjE:listed.getD j false=false:=by rw[<-Qfx (by omega)];exact h1
    refine hstep _ j oj hc hjm hjE (by simpa using hoj) hrdy a w h _ (fun a' w' h'=>?_);refine ih _ (by simpa using hs) ?_ (fun x hx=>?_) ?_ a' w' ?_
    ·have:=Qnt h1;omega
    ·have hx':=congrFun (Qfy (listed:=listed) (j:=j) (by omega)) x;rw[hx',QaS] at hx;rcases hx with hx|hx
     ·exact hE x hx
     ·omega
    ·rw[Qfy (by omega)];exact Qmz hc (W.ancIn hc hjm (by simpa using hoj) hrdy)
    ·rw[Qfy (by omega)];exact h'
theorem Qy7 (hT:TOk P tb) {G:Array Oper} (W:Walked P tb cs m G.toList S0 A R) (a3:∀j,j<m->Qil (cs j)=false) (a2:∀(j:Nat) (o:Oper),j<m->G.toList[j]? =some o->o.dst≠none) (hf:Qi7 m ls G.toList) (he:Qc3 0 G.toList=true) {Q:Exit->St->Prop} (hQ:∀e S,Q e S->e=.normal)
  (Y:∀i∈ls,∃t s k,Light G i t s k∧∀j o,G[j]? =some o->j≠i->i∈Zl o.after.toList∨(∃oi,G[i]? =some oi∧j∈Zl oi.after.toList)∨Comm G t s o)
  (O:QeN P tb G.toList (G.toList.drop m) (stOf S0 R fun _=>true) fun S=>Q .normal S) (I:Nat) (listed:Array Bool) (hs:listed.size=G.size) (hu:unl listed=I) (hE:∀i,listed.getD i false=true->i<m) (hc:Qgw m A (fun i=>listed.getD i false))
  (ρ:Env) (a:Act) (w:World) (h:Sim P B w0 F ρ (stOf S0 R fun i=>listed.getD i false) a w):
  wpAny P .any G (fun e U w'=>∃ρ' S',Sim P B w0 F ρ' S' U w'∧Q e S') I listed a w:=by
 refine Qwr W hf he (fun e a w ⟨_,S',_,h⟩=>hQ e S' h) (fun E a w=>∃ρ,Sim P B w0 F ρ (stOf S0 R E) a w) Y ?_ ?_ I listed hs hu hE hc a w ⟨ρ,h⟩
 ·rintro E j o hc hj a1 ho hr a w ⟨ρ,h⟩ next hn;exact QoC hT W rfl hc hj a1 ho (a3 j hj) (a2 j o hj ho) hr h (fun ρ' U w' h'=>hn U w' ⟨ρ',h'⟩) _
 ·rintro E a w J ⟨ρ,h⟩;rw[QmB (E':=fun _=>true) (fun i hi=>J i (by rw[<-W.hm];exact hi))] at h;refine Qft hT G Q F _ _ (by simp) (fun i k hk=>?_) _ ρ a w h O;rw[Y8] at hk;have⟨_,hk⟩:=hk;simp at hk;subst hk;simp
def Qp1 (cs:Nat->Option CS):Nat->Bool
 |0=>true
 |m+1=>match Qil (cs m) with
  |true=>false
  |false=>Qp1 cs m
theorem QnA {cs:Nat->Option CS}:∀ {m:Nat},Qp1 cs m=true->∀j,j<m->Qil (cs j)=false
 |m+1,h,j,hj=>by
  simp only[Qp1] at h;split at h
  ·cases h
  ·rename_i I
   by_cases G:j=m
   ·subst G;exact I
   ·exact QnA h j (by omega)
 |0,_,j,hj=>absurd hj (by omega)
def QjE (ops:List Oper) (cs:Nat->Option CS) (m:Nat):Bool:=(List.range m).all fun j=>Qgu (cs j)||(match ops[j]? with
 |some o=>o.dst.isSome
 |none=>true)
theorem Qlf {ops:List Oper} {cs:Nat->Option CS} {m:Nat} (h:QjE ops cs m=true) {j:Nat} {o:Oper} (hj:j<m) (ho:ops[j]? =some o) (ha:Qgu (cs j)=false):o.dst≠none:=by
 have:=Yb.1 h j (by simpa using hj);rw[ha,ho] at this;intro e;simp only[e] at this;simp at this
theorem QqT {x:Option CS} (h:Qil x=false):Qgu x=false:=by
 unfold Qgu;split
 ·rename_i hc;cases h
 ·rfl
def Qp2 (P:Program) (tb:Tb) (cs:Nat->Option CS) (m:Nat) (ls:List Nat) (ops:List Oper) (S:St) (K:St->Prop):Prop:=
 match Qc3 0 ops with
 |true=>stK (QpW ((ops.take m).map (·.dst)) S) fun S0=>evM P tb cs ops ((ops.take m).map (·.dst)) S0 (ops.take m) 0 [] [] fun ancs R=>
   match Qhf S0 ancs R with
   |true=>stK (stOf S0 R fun _=>true) fun G=>QeN P tb ops (ops.drop m) G fun S=>S.noGds K
   | false => Stuck "drawn region what is made is named too early"
 | false => Stuck "drawn region its end is not forced"
theorem Qr5 (hT:TOk P tb) (a6:P.follows .mixedOrders=true) {id:Nat} {G:Array Oper} {S:St} {K:St->Prop} (cs:Nat->Option CS) (m:Nat) (ls:List Nat) (b2:m<=G.size) (a3:Qp1 cs m=true) (a9:Qi7 m ls G.toList) (a7:QjE G.toList cs m=true)
  (a5:∀i∈ls,∃t s k,Light G i t s k∧∀j o,G[j]? =some o->j≠i->i∈Zl o.after.toList∨(∃oi,G[i]? =some oi∧j∈Zl oi.after.toList)∨Comm G t s o)
  (h:Qp2 P tb cs m ls G.toList S K):DrawP P id G S K:=by
 refine⟨fun B w0 F ρ a w hs=>?_⟩;unfold Qp2 at h;split at h
 case h_2=>exact h.no.elim
 rename_i a2;rw[QfS] at h;have⟨A,R,h1,h2,_,_,h5,h6⟩:=Qk7 _ 0 _ _ _ rfl rfl h;split at h5
 case h_2=>exact h5.no.elim
 rename_i O;rw[QfS] at h5;have W:=QoA (by simpa using h2) (by simpa using b2) h6 a2 O;have J:Pure w {w with drawn:=w.drawn+1}:=⟨rfl,rfl,rfl,Yi _,fun _ _=>rfl⟩;have a4:Sim P B w0 F ρ (QpW ((G.toList.take m).map (·.dst)) S) a {w with drawn:=w.drawn+1}:=by
  have:=hs.pure J;have⟨base,nt,ts,gs,bs,fs⟩:=S;exact this.congr (fun t v hv=>QgW hv) (fun g hg=>by simp at hg) (fun _ _=>Iff.rfl)
 refine wp_mono (Q:=fun e a' w'=>∃ρ' S',Sim P B w0 F ρ' S' a' w'∧e=.normal∧S'.noGds K) (wp_region_any a6 ?_) (fun e a' w' h=>by
  have⟨ρ',S',Y,g2,g3⟩:=h;have⟨a8,g4,g5⟩:=Qeq Y g3;exact⟨ρ',a8,g4,g2,g5⟩)
 have I:(fun i=>(Array.replicate G.size false).getD i false)=fun _=>false:=by
  funext i;rw[Y6,Array.getElem?_replicate];split<;>rfl
 have U:∀S0:St,S0.gds=[]->stOf S0 R (fun _=>false)=S0:=by
  intro S0 hg;have⟨base,nt,ts,gs,bs,fs⟩:=S0;dsimp only at hg;subst hg;have:∀(i0:Nat) (R:List Rs),QdE (fun _=>false) i0 R=[]∧QdO (fun _=>false) i0 R=[]∧JN (fun _=>false) i0 R=[]:=by
   intro i0 R
   induction R generalizing i0 with
   |nil=>exact⟨rfl,rfl,rfl⟩
   |cons r R ih=>
    have⟨Y,g2,g3⟩:=ih (i0+1);exact⟨by simp[QdE,Y],by simp[QdO,g2],by simp[JN,g3]⟩
  have⟨Y,g2,g3⟩:=this 0 R;unfold stOf;rw[Y,g2,g3];rfl
 have b3:unl (Array.replicate G.size false)=G.size:=by
  simp[unl,List.countP_replicate]
 have a1:QeN P tb G.toList (G.toList.drop m) (stOf (QpW ((G.toList.take m).map (·.dst)) S) R fun _=>true) fun S=>(fun(e:Exit) (S':St)=>e=.normal∧S'.noGds K) .normal S:=by
  simpa using h5
 exact Qy7 (B:=B) (w0:=w0) (F:=F) hT W (QnA a3) (fun j o hj ho=>Qlf a7 hj ho (QqT (QnA a3 j hj))) a9 a2 (Q:=fun(e:Exit) (S':St)=>e=.normal∧S'.noGds K) (fun e S h=>h.1) a5 a1 G.size (Array.replicate G.size false) (by simp) b3
  (fun i hi=>by rw[congrFun I i] at hi;cases hi) (by rw[I];exact fun i _ hi=>by cases hi) ρ a {w with drawn:=w.drawn+1} (by
   rw[I,U _ (by have⟨base,nt,ts,gs,bs,fs⟩:=S;rfl)];exact a4)
def QqU (ops:List Oper) (t s:Nat) (o:Oper):Bool:=
 (match o.op with
  | .select ..=>false
  |_=>true)&&(o.op.operands.toList.all (fun x=>match x with
   | .tmp u=>!Nat.beq u t
   |_=>true)&&(!isD o.dst t&&(!isD o.dst s&&(match o.guard with
  |none=>true
  |some (jg,_)=>(match ops[jg]? with
   |some G=>!isD G.dst t
   |none=>true)))))
def QnB (ops:List Oper) (i t s:Nat) (G:List Nat):Nat->List Oper->Bool
 |_,[]=>true
 |j,o::r=>(Nat.beq j i||(ZZ (Zl o.after.toList) i||(ZZ G j||QqU ops t s o)))&&QnB ops i t s G (j+1) r
def Qp3 (ops:List Oper) (i:Nat):Bool:=match ops[i]? with
 |some ⟨some t,.extract (.tmp s) _,_,_,after,none⟩=>QnB ops i t s (Zl after.toList) 0 ops
 |_=>false
theorem Qti {d:Option Nat} {t:Nat} (h:isD d t=false):d≠some t:=fun e=>by subst e;simp[isD] at h
theorem Qtj {G:Array Oper} {t s:Nat} {o:Oper} (h:QqU G.toList t s o=true):Comm G t s o:=by
 simp only[QqU,Y4,YF] at h;have⟨h1,h2,h3,h4,h5⟩:=h;refine⟨fun cs b e=>(by rw[e] at h1;cases h1),fun x U e=>?_,Qti h3,Qti h4,fun jg w J=>?_⟩
 ·have:=Yb.1 h2 x (by simpa using U);subst e;simp at this
 ·rw[J] at h5;dsimp only at h5
  cases hj:G[jg]? with
  |none=>simp
  |some O=>
   have I:G.toList[jg]? =some O:=by simpa using hj
   rw[I] at h5;dsimp only at h5;simp only[YF] at h5;simpa using Qti h5
theorem QmE {ops:List Oper} {i t s:Nat} {I:List Nat}:∀ {l:List Oper} {G:Nat},QnB ops i t s I G l=true->∀(j:Nat) (o:Oper),l[j]? =some o->G+j≠i->i∈Zl o.after.toList∨G+j∈I∨QqU ops t s o=true
 |q::l,G,h,j,o,hj,hne=>by
  simp only[QnB,Y4,YJ] at h
  cases j with
  |zero=>
   simp at hj;subst hj;rcases h.1 with h1|h1|h1|h1
   ·exact absurd (Y5 h1) (by simpa using hne)
   ·exact .inl (ZO.1 h1)
   ·exact .inr (.inl (ZO.1 h1))
   ·exact .inr (.inr h1)
  |succ j=>
   rw[show G+(j+1)=G+1+j by omega] at hne|-;exact QmE h.2 j o (by simpa using hj) hne
 |[],_,_,_,_,hj,_=>by simp at hj
theorem QmF {G:Array Oper} {i:Nat} (h:Qp3 G.toList i=true):∃t s k,Light G i t s k∧∀j o,G[j]? =some o->j≠i->i∈Zl o.after.toList∨(∃J,G[i]? =some J∧j∈Zl J.after.toList)∨Comm G t s o:=by
 unfold Qp3 at h;split at h
 ·rename_i t s k ty pos after hi;have I:G[i]? =some ⟨some t,.extract (.tmp s) k,ty,pos,after,none⟩:=by simpa using hi
  refine⟨t,s,k,⟨ty,pos,after,I⟩,fun j o hj hne=>?_⟩;rcases QmE h j o (by simpa using hj) (by omega) with h1|h1|h1
  ·exact .inl h1
  ·rw[Yg] at h1;exact .inr (.inl ⟨_,I,h1⟩)
  ·exact .inr (.inr (Qtj h1))
 ·cases h
def QmG:List Oper->List (List Bool)->List (List Bool)->Bool
 |[],_,_=>true
 |o::rest,acc,mk::mks=>Qy6 (QoF acc (Zl o.after.toList)) mk&&QmG rest (acc++[mk]) mks
 |_::_,_,[]=>false
theorem QoJ:∀(l:List Oper) (I G:List (List Bool)) (ancs:List (List Nat)),QmG l G I=true->G.length=ancs.length->(∀i k,Qdt (QeS G i) k=ZZ (nth ancs i) k)->
  ∀i k,Qdt (QeS (G++I.take l.length) i) k=ZZ (nth (JS l ancs) i) k
 |[],I,G,ancs,_,_,h=>by simpa[JS] using h
 |o::rest,[],G,ancs,h,_,_=>by simp[QmG] at h
 |o::rest,mk::I,G,ancs,h,h1,hA=>by
  simp only[QmG,Y4] at h;have⟨e1,U⟩:=h;have e1:=Qnw e1;have J:∀k,Qdt mk k=ZZ (Qcd ancs o) k:=fun k=>by rw[<-e1];exact QhG hA
  have O:∀i k,Qdt (QeS (G++[mk]) i) k=ZZ (nth (ancs++[Qcd ancs o]) i) k:=fun i k=>by
   rw[Qla,Qlb,h1];split
   ·exact J k
   ·exact hA i k
  have:=QoJ rest I (G++[mk]) (ancs++[Qcd ancs o]) U (by simp[h1]) O;intro i k;simpa[JS] using this i k
def Qtk (m:Nat) (ls:List Nat) (n:Nat) (M:List (List Bool)):Bool:=(List.range n).all fun k=>Nat.blt k m||(List.range k).all fun i=>Qdt (QeS M k) i||(Nat.blt i m&&ZZ ls i)
theorem QmH {m:Nat} {ls:List Nat} {ops:List Oper} {M:List (List Bool)} (h1:QmG ops [] M=true) (h2:Qtk m ls ops.length M=true) (hl:M.length=ops.length):Qi7 m ls ops:=fun j o ho hm e I=>by
 have G:=QoJ ops M [] [] h1 rfl (fun i k=>rfl);rw[YA,XI (by omega)] at G;have hj:=(Y8.1 ho).1;have:=Yb.1 h2 j (by simpa using hj);simp only[YJ] at this;rcases this with h|h
 ·have:j<m:=by simpa[XQ] using h
  omega
 ·have:=Yb.1 h e (by simpa using I);simp only[YJ,Y4] at this;rcases this with h3|⟨h3,h4⟩
  ·rw[G] at h3;exact .inl (ZO.1 h3)
  ·exact .inr ⟨by simpa[XQ] using h3,ZO.1 h4⟩
def QhH (m:Nat) (ls:List Nat) (ops:List Oper) (G I:List (List Bool)):Bool:=
 (QmG ops [] (G++I)&&(Qtk m ls ops.length (G++I)&&(Nat.beq (G++I).length ops.length&&(Qc3 0 ops&&ls.all (Qp3 ops)))))&&(Nat.beq G.length m&&(Qlc ops ((ops.take m).map (·.dst)) (ops.take m) [] G&&Qi5 ((ops.take m).map (·.dst)) 0 ((ops.take m).map (·.dst))))
theorem Qy8 (hT:TOk P tb) (a3:P.follows .mixedOrders=true) {id:Nat} {G:Array Oper} {S:St} {K:St->Prop} (cs:Nat->Option CS) (m:Nat) (ls:List Nat) (I a2:List (List Bool)) (a5:m<=G.size) (J:(Qp1 cs m&&QjE G.toList cs m)=true)
  (O:QhH m ls G.toList I a2=true) (h:Qnx P tb cs m I G.toList S K):DrawP P id G S K:=by
 simp only[QhH,Y4] at O;have⟨⟨a6,a8,a9,he,a7⟩,hl,b2,hd⟩:=O;simp only[Y4] at J;refine Qr5 hT a3 cs m ls a5 J.1 (QmH a6 a8 (Y5 a9)) J.2 (fun i hi=>QmF (Yb.1 a7 i hi)) ?_;have hl:=Y5 hl;have⟨hs,hA⟩:=Qi6 (G.toList.take m) I [] [] 0 b2 rfl rfl (fun i k=>rfl);unfold Qp2;simp only[he];unfold Qnx at h;rw[QfS] at h|-;have Y:(G.toList.take m).length=m:=by simp;omega
 have U:∀S0 R,QeO S0 I R=Qio S0 (JS (G.toList.take m) []) R:=fun S0 R=>by
  have a4:∀i k,Qdt (QeS I i) k=ZZ (nth (JS (G.toList.take m) []) i) k:=fun i k=>by
   have:=hA i k;rwa[YA,Y,XI (by omega)] at this
  simp only[QeO,Qio,a4]
 have key:=Qp0 (P:=P) (tb:=tb) (cs:=cs) (ops:=G.toList) (dsts:=(G.toList.take m).map (·.dst)) (S0:=QpW ((G.toList.take m).map (·.dst)) S)
  (K:=fun A R=>match Qhf (QpW ((G.toList.take m).map (·.dst)) S) A R with
   |true=>stK (stOf (QpW ((G.toList.take m).map (·.dst)) S) R fun _=>true) fun S1=>QeN P tb G.toList (G.toList.drop m) S1 fun S=>S.noGds K
   | false => Stuck "drawn region what is made is named too early")
  (K':=fun R=>match QeO (QpW ((G.toList.take m).map (·.dst)) S) I R with
   |true=>stK (stM (QpW ((G.toList.take m).map (·.dst)) S) R (List.replicate m true)) fun S1=>QeN P tb G.toList (G.toList.drop m) S1 fun S=>S.noGds K
   | false => Stuck "drawn region what is made is named too early") (D := (G.toList.take m).map (·.dst)) (G.toList.take m) I 0 [] [] hs rfl (by simp) (fun R' a1 => by
    rw[U,QoE a1 hd,Qtd (E:=fun _=>true) fun i hi=>Qny ?_];have:=congrArg List.length a1;simp at this;omega)
 exact Eq.mp key h
end Go.Ab
namespace Go.Ab
open Go.RowKit Go.ChangeShapes Go.WideShapes
inductive DRs (w:World) (ow:Nat→Prop):List D→List Value→Prop
 |nil:DRs w ow [] []
 |cons {d v ds vs}:DR w ow d v→DRs w ow ds vs→DRs w ow (d::ds) (v::vs)
def Qp4 (p:TypeId->List D->Prop):List (TypeId×Nat)->List D->Prop
 |[],ds=>ds=[]
 |(t,_)::r,ds=>∃I G,ds=I++G∧p t I∧Qp4 p r G
def QfA (tb:Tb):Nat->TypeId->List D->Prop
 |0,_,_=>True
 |f+1,t,ds=>match tb.find t with
  |some ⟨.bool,_,_,_,_⟩=>∃b,ds=[.bool b]
  |some ⟨.int k,_,_,_,_⟩=>∃n,ds=[.int k n]∧k.min<=n∧n<=k.max
  |some ⟨.str,_,_,_,_⟩=>∃s,ds=[.str s]∧s.size<=140737488355328
  |some ⟨.slice e,_,_,_,_⟩=>(match tb.find e with
   |some ⟨_,_,by_,_,_⟩=>∃n row,ds=[.sl n row]∧n*by_<=140737488355328∧n<=9223372036854775807∧∀i,i<n->QfA tb f e (row i)
   |none=>True)
  |some ⟨.struct fs,_,_,_,_⟩=>Qp4 (QfA tb f) fs ds
  |_=>True
def lay (tb:Tb):Nat->List (TypeId×Nat)->Option Nat
 |o,[]=>some o
 |o,(t,off)::r=>match Nat.beq off o,tb.find t with
  |true,some ti=>lay tb (o+ti.size) r
  |_,_=>none
def Qtl (tb:Tb):Nat->TypeId->Bool
 |0,_=>false
 |f+1,t=>match tb.find t with
  |some ⟨.bool,_,_,_,_⟩=>true
  |some ⟨.int _,_,_,_,_⟩=>true
  |some ⟨.str,_,_,_,_⟩=>true
  |some ⟨.slice e,_,_,_,_⟩=>(match tb.find e with
   |some ti=>Nat.blt 0 ti.size
   |none=>false)&&Qtl tb f e
  |some ⟨.struct fs,sz,_,_,_⟩=>(lay tb 0 fs==some sz)&&fs.all fun p=>Qtl tb f p.1
  |_=>false
variable {P:Program} {tb:Tb} {w:World} {ow:Nat→Prop} {H:Type} {enc:TypeId×Value→H} {base:Nat} {spare:Nat→Bool} {held:Bool}
theorem DRs.len {ds:List D} {vs:List Value} (h:DRs w ow ds vs):ds.length=vs.length:=by
 induction h with
 |nil=>rfl
 |cons _ _ G=>simp[G]
theorem DRs.append {ds G:List D} {vs I:List Value} (h:DRs w ow ds vs) (J:DRs w ow G I):DRs w ow (ds++G) (vs++I):=by
 induction h with
 |nil=>exact J
 |cons a _ O=>exact .cons a O
theorem DRs.get {ds:List D} {vs:List Value} (h:DRs w ow ds vs):∀ {j:Nat} {d:D},ds[j]? =some d->∃v,vs[j]? =some v∧DR w ow d v:=by
 induction h with
 |nil=>intro j d hj;simp at hj
 |cons a _ G=>
  intro j d hj
  cases j with
  |zero=>simp at hj;subst hj;exact⟨_,rfl,a⟩
  |succ j=>simpa using G (by simpa using hj)
theorem Qi8 (G:TOk P tb) {t:TypeId} {ti:TI} (h:tb.find t=some ti):P.cellsOf t=ti.size∧P.bytesOf t=ti.bytes:=by
 have⟨i,z,h1,h2,h3,_⟩:=(G.ok t ti h).info;simp[Program.cellsOf,Program.bytesOf,h1,h2,h3]
theorem Qhg {e:TypeId}:∀ {ds:List (DataW H)} {d:DataW H},d∈ds->∀n∈d.weights P e,n∈DataW.weightsAll P e ds
 |x::r,d,G,n,hn=>by
  simp only[DataW.weightsAll,Yo];rcases Yh.1 G with G|G
  ·subst G;exact .inl hn
  ·exact .inr (Qhg G n hn)
 |[],_,G,_,_=>by simp at G
theorem Qhh (G:TOk P tb) {t:TypeId} {ti:TI} (h:tb.find t=some ti):∃d,P.underlying t=some d∧kOk ti.kind d=true:=(G.ok t ti h).kind
theorem Qxd (hT:TOk P tb):∀(f:Nat) (t:TypeId) (cs:List Value) (a3:Nat) (x:DataW H×List MemPlace),Qtl tb f t=true->
  DataW.trod enc P w base spare held a3 t cs=some x->(∀n∈x.1.weights P t,n<=reachBytes)->∃ds,DRs w (fun _=>False) ds cs∧QfA tb f t ds:=by
 intro f
 induction f with
 |zero=>intro t cs a3 x h;simp[Qtl] at h
 |succ f ih=>
  intro t cs a3 x O h hw;simp only[Qtl] at O;split at O
  ·rename_i J;have⟨d,U,hk⟩:=Qhh hT J
   cases d<;>simp only[kOk] at hk<;>try (cases hk;done)
   obtain⟨b,rfl,_⟩:=DataW.trod_bool U h;exact⟨[.bool b],.cons .bool .nil,by simp only[QfA,J];exact⟨b,rfl⟩⟩
  ·rename_i J;have⟨d,U,hk⟩:=Qhh hT J
   cases d<;>simp only[kOk] at hk<;>try (cases hk;done)
   have hk:=Yl hk;subst hk;obtain⟨n,rfl,_,b9⟩:=DataW.trod_int U h;simp only[Lit.wf,Y4,Ym] at b9;exact⟨[.int _ n],.cons .int .nil,by simp only[QfA,J];exact⟨n,rfl,b9⟩⟩
  ·rename_i J;have⟨d,U,hk⟩:=Qhh hT J
   cases d<;>simp only[kOk] at hk<;>try (cases hk;done)
   obtain⟨s,rfl,rfl,hs⟩:=DataW.trod_string U h;refine⟨[.str s],.cons .str .nil,?_⟩;simp only[QfA,J];refine⟨s,rfl,?_⟩;have:=hw s.data.toList.length (by unfold DataW.weights;exact Xa.2 rfl);have e:s.data.toList.length=s.size:=rfl;rw[e] at this;unfold reachBytes at this;omega
  ·rename_i e _ _ _ _ J;have⟨d,U,hk⟩:=Qhh hT J
   cases d<;>simp only[kOk] at hk<;>try (cases hk;done)
   have hk:=eq_of_beq hk;subst hk;rw[Y4] at O;have⟨I,b7⟩:=O;split at I
   case h_2=>cases I
   rename_i ti a8;have⟨kk,sz,c7,zz,qq⟩:=ti;have I:0<sz:=by simpa[XQ] using I
   have⟨a2,b4⟩:=Qi8 hT a8;dsimp only at a2 b4;rcases Go.Deep.open_slice U h with ⟨rfl,_⟩|⟨a,len,cap,m,n,Df,Pl,rfl,_,c6,d1,hm,rfl,hi⟩
   ·refine⟨[.sl 0 fun _=>[]],.cons (.sl0 rfl) .nil,?_⟩;simp only[QfA,J,a8];exact⟨0,_,rfl,by omega,by omega,fun i hi=>absurd hi (Nat.not_lt_zero _)⟩
   ·have d3:len<=m:=by rw[hm];split<;>omega
    have c8:len*c7<=reachBytes:=by
     have:=hw ((((List.range len).map Df).length+((List.range (m-len)).map fun j=>Df (len+j)).length)*P.bytesOf e) (by simp[DataW.weights,U]);simp only[Ya,Y0f] at this;rw[b4,show len+(m-len)=m by omega] at this;exact Y05 (Yf _ d3) this
    have d2:∀i,i<len->∃(y:List D×List Value),DRs w (fun _=>False) y.1 y.2∧QfA tb f e y.1∧y.2.length=sz∧∀j,j<sz->w.cell? (a.add (i*sz+j))=y.2[j]?:=fun i G=>by
     have⟨c3,h1,h2⟩:=hi i (by omega);rw[a2] at h1;have⟨_,g2,g3⟩:=World.cells?_some h1;have⟨ds,g4,g5⟩:=ih e c3 n _ b7 h2 (fun k hk=>hw k (by
      simp only[DataW.weights,U,Yh,Yo];exact .inr (.inl (Qhg (YI.2 ⟨i,by simpa using G,rfl⟩) k hk))))
     exact⟨(ds,c3),g4,g5,g2,fun j hj=>by rw[<-Go.Deep.add_add];exact g3 j hj⟩
    have⟨Y,hY⟩:=Go.Deep.choose_lt (α:=List D×List Value) d2;refine⟨[.sl len fun i=>(Y i).1],?_,?_⟩
    ·refine .cons ?_ .nil
     by_cases h0:len=0
     ·subst h0;exact .sl0 rfl
     ·have⟨b,off,b3⟩:=a;have a9:b3=none∧b<w.heap.size:=by
       have⟨g1,_,g3,g4⟩:=hY 0 (by omega);have:=g4 0 I;rw[Y7 (by omega)] at this;have e0:(0*sz+0)=0:=by omega
       rw[e0] at this;exact⟨by simpa[Addr.add] using World.cell?_spot this,by have:=QsW this;simpa[Addr.add] using this⟩
      obtain⟨rfl,hb⟩:=a9;have b2:∀k,(⟨b,off,none⟩:Addr).add k=⟨b,off+k,none⟩:=fun k=>by
       unfold Addr.add;split
       ·rename_i h;subst h;rfl
       ·rfl
      refine .sl (sz:=sz) (fun i j=>(Y i).2.getD j undef) (fun h=>h) hb (fun i G=>?_) (fun i j d G a6=>?_) (fun i j d G a6=>?_) c6
      ·have⟨g1,_,g3,_⟩:=hY i G;rw[g1.len,g3]
      ·have⟨g1,_,g3,g4⟩:=hY i G;have⟨v,hv,_⟩:=g1.get a6;have hj:j<sz:=by have:=(Y8.1 hv).1;omega
       have:=g4 j hj;rw[b2,<-Xi] at this;rw[this,hv,Y1,hv];rfl
      ·have⟨g1,_,g3,g4⟩:=hY i G;have⟨v,hv,hdr⟩:=g1.get a6;rw[Y1,hv];exact hdr
    ·simp only[QfA,J,a8];unfold reachBytes at c8;unfold maxLen at d1;exact⟨len,_,rfl,by omega,by omega,fun i G=>(hY i G).2.1⟩
  ·rename_i fs sz _ _ _ J;have⟨d,U,hk⟩:=Qhh hT J
   cases d<;>simp only[kOk] at hk<;>try (cases hk;done)
   rename_i fields;rw[Y4] at hk;have b8:=eq_of_beq hk.1;rw[Y4] at O;have⟨a1,c4⟩:=O;have a1:=eq_of_beq a1;have⟨a2,_⟩:=Qi8 hT J;dsimp only at a2;obtain⟨xs,n,_,rfl,b6,d0,hg⟩:=DataW.trod_struct U h;rw[a2] at b6;simp only[QfA,J];have key:∀(L:List (TypeId×Nat)) (k o:Nat),(∀i,L[i]? =fs[k+i]?)->lay tb o L=some sz->∃ds,DRs w (fun _=>False) ds (cs.drop o)∧Qp4 (QfA tb f) L ds:=by
    intro L
    induction L with
    |nil=>
     intro k o _ hl;simp only[lay,Y9] at hl;refine⟨[],?_,rfl⟩;rw[List.drop_eq_nil_of_le (by omega)];exact .nil
    |cons p L d4=>
     intro k o a4 hl;have⟨ft,off⟩:=p;simp only[lay] at hl;split at hl
     case h_2=>cases hl
     rename_i ti hb c5;have hb:=Y5 hb;subst hb;have⟨c0,g1,g2⟩:=d4 (k+1) (off+ti.size) (fun i=>by
      have:=a4 (i+1);simp only[XS] at this;rw[this];congr 1;omega) hl
     have c2:fs[k]? =some (ft,off):=by have:=a4 0;simpa using this.symm
     rw[b8,Yz] at c2;have⟨fd,a7,he⟩:=Yc.1 c2;simp only[YY] at he;obtain⟨rfl,rfl⟩:=he;have a5:fields[k]? =some fd:=by simpa using a7
     have hx:=hg k fd a5;have c1:k<xs.length:=by rw[d0];exact(Yr.1 a5).1
     rw[Y7 c1] at hx;have⟨c9,_⟩:=Qi8 hT c5;rw[c9] at hx;have⟨b5,g3,g4⟩:=ih _ _ _ _ (Yb.1 c4 (fd.type,fd.offset) (by rw[b8];exact YI.2 ⟨fd,X1 a7,rfl⟩)) hx (fun j hj=>hw j (by
      simp only[DataW.weights,U];refine DataW.weights_mem_each (j:=k) (t:=fd.type) (d:=xs[k].1) (by simp[a7]) (by simp[Y7 c1]) j hj))
     refine⟨b5++c0,?_,⟨b5,c0,rfl,g4,g2⟩⟩;have:=g3.append g1;rw[show cs.drop (fd.offset+ti.size)=(cs.drop fd.offset).drop ti.size by rw[List.drop_drop],List.take_append_drop] at this;exact this
   have⟨ds,g1,g2⟩:=key fs 0 0 (fun i=>by rw[Yg]) a1;exact⟨ds,by simpa using g1,g2⟩
  ·cases O
end Go.Ab
namespace Go.Ab
open Go.RowKit Go.ChangeShapes Go.WideShapes
variable {P:Program} {tb:Tb} {w:World} {ow:Nat→Prop} {H:Type} {enc:TypeId×Value→H} {base:Nat} {spare:Nat→Bool} {held:Bool}
def Qxe (tb:Tb) (t:TypeId) (ds:List D):V:=match tb.find t with
 |some ⟨.struct _,_,_,_,_⟩=>.agg (ds.map .d)
 |_=>(match ds with
  |[d]=>.d d
  |_=>.any)
def QnC (tb:Tb):List TypeId->List (List D)->List V
 |t::ts,ds::r=>Qxe tb t ds::QnC tb ts r
 |_,_=>[]
def QfB (tb:Tb) (f:Nat):List TypeId->List (List D)->Prop
 |[],[]=>True
 |t::ts,ds::r=>QfA tb f t ds∧QfB tb f ts r
 |_,_=>False
theorem Qkk {t:TypeId} {ds:List D} {v:Value} {ρ:Env} (G:∀fs a b c d,tb.find t≠some ⟨.struct fs,a,b,c,d⟩) (h:DRs w ow ds [v]):VR w ow ρ (Qxe tb t ds) v:=by
 cases h with|cons h1 h2=>
 cases h2
 unfold Qxe;split
 ·rename_i I;exact absurd I (G _ _ _ _ _)
 ·exact .d h1
theorem Qu6 (Y:TOk P tb) {f:Nat} {t:TypeId} {v:Value} {d:DataW H} {p:List MemPlace} {r:Reach} {b0:Nat} (ρ:Env) (I:Qtl tb f t=true) (hv:Value.okWide P w r b0 t v)
  (h:DataW.Trod enc P w base spare held t v d p) (hw:∀n∈d.weights P t,n<=reachBytes):∃ds,QfA tb f t ds∧VR w (fun _=>False) ρ (Qxe tb t ds) v:=by
 have⟨fuel,hf⟩:=h;have⟨ds,h1,h2⟩:=Qxd Y f t _ _ _ I hf hw;refine⟨ds,h2,?_⟩
 cases f with
 |zero=>simp[Qtl] at I
 |succ f=>
  simp only[Qtl] at I;split at I
  ·rename_i G;have⟨d,J,hk⟩:=Qhh Y G
   cases d<;>simp only[kOk] at hk<;>try (cases hk;done)
   obtain⟨b,rfl⟩:=okWide_bool J hv;exact Qkk (fun _ _ _ _ _ e=>by rw[G] at e;cases e) h1
  ·rename_i G;have⟨d,J,hk⟩:=Qhh Y G
   cases d<;>simp only[kOk] at hk<;>try (cases hk;done)
   obtain⟨b,rfl⟩:=okWide_int J hv;exact Qkk (fun _ _ _ _ _ e=>by rw[G] at e;cases e) h1
  ·rename_i G;have⟨d,J,hk⟩:=Qhh Y G
   cases d<;>simp only[kOk] at hk<;>try (cases hk;done)
   obtain⟨b,rfl⟩:=okWide_string J hv;exact Qkk (fun _ _ _ _ _ e=>by rw[G] at e;cases e) h1
  ·rename_i G;have⟨d,J,hk⟩:=Qhh Y G
   cases d<;>simp only[kOk] at hk<;>try (cases hk;done)
   obtain⟨a,l,c,rfl⟩:=okWide_slice J hv;exact Qkk (fun _ _ _ _ _ e=>by rw[G] at e;cases e) h1
  ·rename_i G;have⟨d,J,hk⟩:=Qhh Y G
   cases d<;>simp only[kOk] at hk<;>try (cases hk;done)
   obtain⟨cs,rfl,_⟩:=okWide_struct J hv;have h1:DRs w (fun _=>False) ds cs.toList:=h1;have O:=h1.len;unfold Qxe;rw[G];refine .agg (by simp[O]) (fun j hj=>?_) (fun j u hu=>?_)
   ·have:ds[j]? =some (ds[j]'(by simp at O;omega)):=Y7 _;have⟨x,hx,hdr⟩:=h1.get this;have U:cs[j]? =some x:=by simpa using hx
    rw[Y6,U];exact hdr.oneCell
   ·rw[Yz] at hu;obtain⟨d,a1,rfl⟩:=Yc.1 hu;have⟨x,hx,hdr⟩:=h1.get a1;have U:cs[j]? =some x:=by simpa using hx
    rw[Y6,U];exact .d hdr
  ·cases I
theorem QoK (hT:TOk P tb) {f:Nat} (ρ:Env):∀ {ts:List TypeId} {vs:List Value} {ds:List (DataW H)} {U:List MemPlace},(∀t∈ts,Qtl tb f t=true)->
  (∀(j:Nat) t v,ts[j]? =some t->vs[j]? =some v->∃r b0,Value.okWide P w r b0 t v)->DataW.TrodAll enc P w base spare held ts vs ds U->
  (∀(j:Nat) t d,ts[j]? =some t->ds[j]? =some d->∀n∈d.weights P t,n<=reachBytes)->
  ∃G,QfB tb f ts G∧vs.length=(QnC tb ts G).length∧∀(j:Nat) u,(QnC tb ts G)[j]? =some u->VR w (fun _=>False) ρ u (vs.getD j undef)
 |[],vs,ds,U,_,_,h,_=>by
  obtain⟨rfl,_,_⟩:=trodAll_nil h;exact⟨[],trivial,rfl,fun j u I=>by simp[QnC] at I⟩
 |t::ts,vs,ds,U,hok,hv,h,hw=>by
  obtain⟨v,vs',d,ds',p,q,rfl,rfl,rfl,h1,h2⟩:=trodAll_cons h;have⟨r,b0,O⟩:=hv 0 t v rfl rfl;have⟨x,g1,g2⟩:=Qu6 hT ρ (hok t (by simp)) O h1 (hw 0 t d rfl rfl);have⟨G,g3,g4,g5⟩:=QoK hT ρ (fun u I=>hok u (by simp[I])) (fun j Y v' ht J=>hv (j+1) Y v' (by simpa using ht) (by simpa using J)) h2 (fun j Y d' ht a1=>hw (j+1) Y d' (by simpa using ht) (by simpa using a1));refine⟨x::G,⟨g1,g3⟩,by simp[QnC,g4],fun j u I=>?_⟩
  cases j with
  |zero=>simp[QnC] at I;subst I;simpa using g2
  |succ j=>simpa using g5 j u (by simpa[QnC] using I)
theorem Qip (hl:laidOutB P=true) {W J:World} (hb:Below W.heap.size W J):∀ {ts:List TypeId} {vs:List Value} {ds:List (DataW H)} {G:List MemPlace},
  (∀t∈ts,P.readableRec t=true∧t<P.types.size)->(∀x∈G,x.block<W.heap.size)->
  DataW.TrodAll enc P W 0 (fun _=>true) true ts vs ds G->DataW.TrodAll enc P J 0 (fun b=>decide (b<W.heap.size)) true ts vs ds G
 |[],vs,ds,G,_,_,h=>by
  obtain⟨rfl,rfl,rfl⟩:=trodAll_nil h;rfl
 |t::ts,vs,ds,G,hr,hlt,h=>by
  obtain⟨v,vs',d,ds',p,q,rfl,rfl,rfl,h1,h2⟩:=trodAll_cons h;exact⟨p,q,Below.trod hl (hr t (by simp)).1 (hr t (by simp)).2 h1 hb (fun x I=>hlt x (by simp[I])),Qip hl hb (fun u O=>hr u (by simp[O])) (fun x I=>hlt x (by simp[I])) h2,rfl⟩
theorem Qlg:∀ {ts:List TypeId} {vs:List Value} {ds:List (DataW H)} {G:List MemPlace},DataW.TrodAll enc P w base spare held ts vs ds G->ds.length=ts.length
 |[],vs,ds,G,h=>by obtain⟨rfl,rfl,rfl⟩:=trodAll_nil h;rfl
 |t::ts,vs,ds,G,h=>by
  obtain⟨v,vs',d,ds',p,q,rfl,rfl,rfl,h1,h2⟩:=trodAll_cons h;simp[Qlg h2]
theorem Qu7 {C:Checked} {f:FuncId} {fn:Func} {s:ChangeSpec} {fu:Nat} {tb:Tb} {rt:TypeId} (hT:TOk C.prog tb)
  (hl:laidOutB C.prog=true) (U:fn.params.toList.all (fun t=>C.prog.readableRec t&&decide (t<C.prog.types.size))=true) (a8:fn.params.toList.all (Qtl tb fu)=true) (G:s.vars=[])
  (a4:fn.resultTypes=#[rt]) (O:C.prog.underlying rt=some .bool)
  (Y:∀ds:List (DataW H),ds.length=fn.params.toList.length->s.fn H ds={results:=[.lit (.bool true)],args:=ds})
  (b3:∀I,QfB tb fu fn.params.toList I->PureC C.prog f (QnC tb fn.params.toList I) (.d (.bool true)) [])
  (W:World) (base:Nat) (args:Array Value) (ds gs:List (DataW H)) (J:List MemPlace)
  (a5:∀(j:Nat) t v,fn.params[j]? =some t->args[j]? =some v->Value.okWide C.prog W .any base t v)
  (hW:DataW.Whole enc C.prog fn.params.toList s.vars false W args.toList ds gs J)
  (b2:(DataW.weightsEach C.prog (fn.params.toList++s.plain.varTypes C.prog) (ds++gs)).all (·<=reachBytes)=true)
  (a3:TabB C.prog (fun b=>b<W.heap.size) W):
  Calls C.prog f args W fun e W'=>∃v,e=.returned v∧s.post enc C.prog fn false true false false W args v W':=by
 have a2:=hW;obtain⟨p,q,hA,hV,rfl,hfz,hnd⟩:=hW;have a7:gs=[]∧q=[]:=by
  rw[G] at hV;exact trodVars_none hV
 obtain⟨rfl,rfl⟩:=a7;have a6:∀x∈p,x.block<W.heap.size:=fun x hx=>a2.lt x (by simp[hx]);have a9:=Qlg hA;have⟨I,g1,g2,g3⟩:=QoK hT (f:=fu) (fun _=>⟨0,0,0,0,0,true⟩) (fun t ht=>Yb.1 a8 t ht) (fun j t v ht hv=>⟨_,_,a5 j t v (by simpa using ht) (by simpa using hv)⟩) hA
  (fun j t d ht hd n hn=>by
   have hj:j<fn.params.toList.length:=(Y8.1 ht).1;have:=Yb.1 b2 n (DataW.weights_mem_each (j:=j) (t:=t) (d:=d) (by rw[Yy hj];exact ht) (by rw[Yy (by omega)];exact hd) n hn);simpa using this)
 have hc:=b3 I g1;refine(hc.out W args (fun _=>⟨0,0,0,0,0,true⟩) ⟨by simpa using g2,fun j u hu=>?_⟩ a3).mono fun e W' he=>?_
 ·have:=g3 j u hu;rw[Y1] at this;rw[Y6];simpa using this
 ·obtain⟨v,ρ,rfl,hp,hv,_⟩:=he;have hb:=hv.bool_inv;subst hb;have a1:=hp.below;have hs:=Y (ds++[]) (by simp[a9]);rw[Xr] at hs;refine⟨_,rfl,⟨ds,[],p++[],[],p,[],a2,?_,?_,?_,a1.frame _,fun h=>by cases h⟩⟩
  ·rw[Xr,hs,a4];exact trodAll_mk1 ⟨1,by simp[DataW.trod,Value.cells,O]⟩
  ·rw[Xr,hs];exact Qip hl a1 (fun t ht=>by have:=Yb.1 U t ht;simpa using this) a6 hA
  ·rw[Xr,hs,G];rfl
theorem Qi9 {a:Assume} {C:Checked} {os:Os} {f:FuncId} {fn:Func} {s:ChangeSpec} {O:List PathCond} {G a2 J a3:Bool} {X:World->Array Value->Prop}
  (hX:∀(w w':World) (args:Array Value),w.heap=w'.heap->X w args->X w' args)
  (own:ownKnob C.prog.godebug=none) (a1:os.Started) (a4:C.prog.inits.idxOf? f=none) (b3:C.prog.funcs[f]? =some fn)
  (Y:∃(w:World) (tape:Tape) (i:Input),w.os=os∧(w.forCall tape i).Shaped C.prog∧i.vars=[]∧Input.okWide C.prog (w.forCall tape i) .any w.heap.size f i∧
   ((s.pre enc C.prog fn O G (w.forCall tape i).memory i.args∧X (w.forCall tape i).memory i.args)∧sizedMet enc C.prog fn (OpenSpec.ofChange s) G (w.forCall tape i).memory i.args)∧a.holds C.prog (lone (Frame.enter C.prog f i.args .normal) [] (w.forCall tape i)))
  (U:∀(W:World) (base:Nat) (args:Array Value) (ds gs:List (DataW H)) (I:List MemPlace),
   (∀(j:Nat) t v,fn.params[j]? =some t->args[j]? =some v->Value.okWide C.prog W .any base t v)->
   DataW.Whole enc C.prog fn.params.toList s.vars G W args.toList ds gs I->
   O.all (PathCond.test C.prog ⟨fn.params.toList,ds,s.plain.varTypes C.prog,gs⟩)=true->
   (DataW.weightsEach C.prog (fn.params.toList++s.plain.varTypes C.prog) (ds++gs)).all (·<=reachBytes)=true->X W args->W.ShapedOpen C.prog->
   a.holds C.prog (lone (Frame.enter C.prog f args .normal) [] W)->
   Calls C.prog f args W fun e W'=>∃v,e=.returned v∧s.post enc C.prog fn G a2 J a3 W args v W'):
  ReturnsInHanded a C os f .any (fun w args=>(s.pre enc C.prog fn O G w args∧X w args)∧sizedMet enc C.prog fn (OpenSpec.ofChange s) G w args) (s.post enc C.prog fn G a2 J a3):=by
 refine returnsInHanded_of_calls own a1 a4 Y ?_;intro w tape i _ a9 _ b2 a8 a5;have⟨_,_,_,b4,a6,_,_,_,_,a7⟩:=b2;have e:b4=fn:=Yw (a6.symm.trans b3);subst e;have⟨⟨⟨ds,gs,I,hw,hc⟩,hx⟩,hz⟩:=a8;have b5:=DataW.Whole.of_heap (w':=w.forCall tape i) (by rfl) hw;refine(U (w.forCall tape i) w.heap.size i.args ds gs I a7 b5 hc (hz.weights hw) (hX _ _ _ (by rfl) hx) a9 a5).mono fun e W' ⟨v,he,hp⟩=>?_;subst he;exact ChangeSpec.post_blind hp
end Go.Ab
namespace Go.Ab
open Go.RowKit
variable {P:Program} {tb:Tb}
noncomputable def JW (f:Func):Code:=f.body.getD .skip
@[reducible] def rows {α:Type} [Inhabited α] (enc:α→List D) (xs:List α):Nat→List D:=fun i=>enc (xs.getD i default)
@[reducible] def slD {α:Type} [Inhabited α] (enc:α→List D) (xs:List α):D:=.sl xs.length (rows enc xs)
@[reducible] def i64 (n:Int):V:=.d (.int .i64 n)
@[reducible] def bl (b:Bool):V:=.d (.bool b)
@[reducible] def QyR (n:Int):List D:=[.int .i64 n]
@[reducible] def Qt (n:Int):List D:=[.int .u8 n]
theorem QsM {n:Nat} {xs:List Int}:QqE n (rows Qt xs):=fun _ _=>rfl
def Qmc (n:Int):Prop:=0<=n∧n<=255
structure DLe (d d':D):Prop where
 out:∀w ow x,DR w ow d x→DR w ow d' x
theorem DLe.refl (d:D):DLe d d:=⟨fun _ _ _ h=>h⟩
def DsLe:List D->List D->Prop
 |[],[]=>True
 |d::r,d'::r'=>DLe d d'∧DsLe r r'
 |_,_=>False
theorem DsLe.refl:∀(ds:List D),DsLe ds ds
 |[]=>trivial
 |d::r=>⟨.refl d,.refl r⟩
theorem DsLe.len:∀ {ds G:List D},DsLe ds G->ds.length=G.length
 |[],[],_=>rfl
 |_::_,_::_,h=>by simp[DsLe.len h.2]
 |[],_::_,h=>h.elim
 |_::_,[],h=>h.elim
theorem DsLe.get:∀ {ds G:List D} {j:Nat} {d':D},DsLe ds G->G[j]? =some d'->∃d,ds[j]? =some d∧DLe d d'
 |d::r,d'::r',0,u,h,hu=>by simp at hu;subst hu;exact⟨d,rfl,h.1⟩
 |d::r,d'::r',j+1,u,h,hu=>by simpa using DsLe.get h.2 (by simpa using hu)
 |[],[],_,_,_,hu=>by simp at hu
 |[],_::_,_,_,h,_=>h.elim
 |_::_,[],_,_,h,_=>h.elim
theorem DLe.sl {n:Nat} {row row':Nat->List D} (h:∀i,i<n->DsLe (row i) (row' i)):DLe (.sl n row) (.sl n row'):=⟨fun w ow x Y=>by
 cases Y with
 |sl0 O=>exact .sl0 O
 |sl vals h1 h2 h3 h4 h5 h6=>
  refine .sl vals h1 h2 (fun i hi=>by rw[<-(h i hi).len];exact h3 i hi) (fun i j d hi G=>?_) (fun i j d hi G=>?_) h6
  ·have⟨J,I,_⟩:=(h i hi).get G;exact h4 i j J hi I
  ·have⟨J,I,U⟩:=(h i hi).get G;exact U.out _ _ _ (h5 i j J hi I)⟩
theorem VLe.d {d d':D} (h:DLe d d'):VLe (.d d) (.d d'):=⟨fun w ow ρ x G=>by cases G with|d G=>exact .d (h.out _ _ _ G)⟩
theorem PureC.le {f:FuncId} {I vs:List V} {res:V} {nb:List Nb} (h:CellsLe I vs) (k:PureC P f vs res nb):PureC P f I res nb:=by
 refine⟨k.can,k.flat,k.rows,k.dist,k.ids,fun w vals ρ0 ha ht=>k.out w vals ρ0 ?_ ht⟩;have⟨h1,h2⟩:=h.get;refine⟨by rw[ha.1,h1],fun j v hj=>?_⟩;have⟨u,J,G⟩:=h2 j v hj;exact G.out _ _ _ _ (ha.2 j u J)
theorem QqV {α:Type} [Inhabited α] {enc:α->List D} {ok:α->Prop} {f:Nat} {t e:TypeId} {z1 Y z3 z4:_} {k1 k2 J O k5:_} (ht:tb.find t=some ⟨.slice e,z1,Y,z3,z4⟩) (U:tb.find e=some ⟨k1,k2,J,O,k5⟩)
  (G:∀ds,QfA tb f e ds->∃x,ok x∧DsLe ds (enc x)) {ds:List D} (h:QfA tb (f+1) t ds):
  ∃xs:List α,(∀x∈xs,ok x)∧xs.length*J<=140737488355328∧xs.length<=9223372036854775807∧DsLe ds [slD enc xs]:=by
 simp only[QfA,ht,U] at h;obtain⟨n,row,rfl,h1,h2,h3⟩:=h;have⟨F,I⟩:=Go.Deep.choose_lt (α:=α) (fun i hi=>G (row i) (h3 i hi));refine⟨(List.range n).map F,fun x hx=>?_,by simpa using h1,by simpa using h2,⟨?_,trivial⟩⟩
 ·obtain⟨i,hi,rfl⟩:=YI.1 hx;exact(I i (by simpa using hi)).1
 ·have:slD enc ((List.range n).map F)=.sl n (rows enc ((List.range n).map F)):=by simp[slD]
  rw[this];refine DLe.sl fun i hi=>?_;have e:rows enc ((List.range n).map F) i=enc (F i):=by
   simp[rows,Y1,Yz,List.getElem?_range hi]
  rw[e];exact(I i hi).2
theorem QmI {f:Nat} {t:TypeId} {J G I O:_} (ht:tb.find t=some ⟨.int .u8,J,G,I,O⟩) {ds:List D} (h:QfA tb (f+1) t ds):∃n:Int,Qmc n∧DsLe ds [.int .u8 n]:=by
 simp only[QfA,ht] at h;obtain⟨n,rfl,h1,h2⟩:=h;exact⟨n,⟨h1,h2⟩,.refl _⟩
theorem Qm {n:Int} (h1:-9223372036854775808<=n) (h2:n<=9223372036854775807):IntKind.i64.wrap n=n:=by
 have e1:IntKind.bits .i64=64:=rfl;have I:IntKind.signed .i64=true:=rfl;unfold IntKind.wrap;simp only[e1,I,Yq]
 by_cases G:0<=n
 ·rw[Int.emod_eq_of_lt G (by omega)];split
  ·rename_i h;simp at h;omega
  ·rfl
 ·have e:n%2^64=n+2^64:=by omega
  rw[e];split
  ·omega
  ·rename_i h;simp at h;omega
theorem VLe.osl {id off len G I:Nat} (h:off=G) (h2:len=I):VLe (.osl id off len) (.osl id G I):=.of (by rw[h,h2])
theorem QnD {S:St} {al:List (Nat×Bool)}:∀ {l:List (Nat×Bool)} {p:Prop},p->Qaz S al l p
 |[],p,h=>h
 |(k,w)::r,p,h=>by
  simp only[Qaz];split
  ·exact fun _=>QnD h
  ·exact QnD h
theorem Qc4 {S:St} {al:List (Nat×Bool)}:∀ {l:List (Nat×Bool)} {p q:Prop},(p->q)->Qaz S al l p->Qaz S al l q
 |[],p,q,h,k=>h k
 |(i,w)::r,p,q,h,k=>by
  simp only[Qaz] at k|-;split
  ·rename_i b hb;rw[hb] at k;exact fun e=>Qc4 h (k e)
  ·rename_i G;split at k
   ·rename_i b hb;exact absurd hb (G b)
   ·exact Qc4 h k
theorem Qxf {base nt:Nat} {ts:List (Nat×V)} {gs:List Gd} {bs:List (Nat×Blk)} {fs:List Fr} {f:FuncId} {args args':List V} {res:V} {nb:List Nb} {K:V->St->Prop} (k:Nat) (h:PureC P f args' res nb)
  (hv:QbZ (Qi bs) args=some args') (hm:(nb.all fun b=>!(St.mentions ⟨base,nt,ts,gs,bs,fs⟩ (b.id+k)))=true) (hk:Qal (res.shift k) fun v=>Qay (nb.map (Nb.ent k)++bs) fun bs=>K v ⟨base,nt,ts,gs,bs,fs⟩):
  CallP P f args ⟨base,nt,ts,gs,bs,fs⟩ K:=by
 rw[QC,ZV] at hk;exact QqM k h hv (fun b hb=>by have:=Yb.1 hm b hb;simpa using this) hk
theorem QkH (J : TOk P tb) {base nt : Nat} {ts : List (Nat × V)} {gs : List Gd} {bs : List (Nat × Blk)} {fs : List Fr} {f : FuncId} {fn : Func} {c : Code} {args : List V} {K : V -> St -> Prop} (b : Nat) (I : P.funcs[f]? = some fn) (hb : fn.body = some c) (G : (fn.name == "runtime.NumGoroutine") = false) (hl : Nat.ble args.length fn.ntmps = true)
  (h:wpc P tb c ⟨b,fn.ntmps,Qnk 0 args,[],bs,⟨ts,gs⟩::fs⟩ (QzQ tb fn.results.toList base nt K)):CallP P f args ⟨base,nt,ts,gs,bs,fs⟩ K:=
 QrW J b I hb G hl h
theorem QN {g:FuncId} {blk:Nat->Option Blk} {vs args':List V} {res:V} {nb:List Nb} (h:PureC P g args' res nb) (hv:QbZ blk vs=some args'):CallD P id g blk vs res nb:=⟨h.can,⟨args',hv,h⟩⟩
theorem Qw {S : St} {al l : List (Nat × Bool)} {g : FuncId} {fn : Func} {blk : Nat -> Option Blk} {vs args' : List V} {res : V} {nb : List Nb} (I : P.funcs[g]? = some fn) (G : (fn.name == "runtime.NumGoroutine") = false) (hb : fn.body.isNone = false)
  (hv:QbZ blk vs=some args') (h:Qaz S al l (PureC P g args' res nb)):CallD P (Qaz S al l) g blk vs res nb:=⟨⟨fn,I,G,hb⟩,Qc4 (fun k=>⟨args',hv,k⟩) h⟩
theorem Qu8 {S S' : St} {al l : List (Nat × Bool)} {f : FuncId} {fn : Func} {args args' : List V} {res : V} {K : V -> St -> Prop} {key : Nat} {want : Bool} (J : P.funcs[f]? = some fn) (I : (fn.name == "runtime.NumGoroutine") = false) (hb : fn.body.isNone = false)
  (hv:QbZ (Qi S'.blks) args=some args') (G:Qcl res=true) (hm:∀id,res.mentions id=false) (h:Qaz S al l (PureC P f args' res [])) (hk:K res S'):CallG P (Qaz S al l) (Qev S' key want) f args S' K:=
 Qox ⟨fn,J,I,hb⟩ h (fun _ _=>Qc4) (fun _=>Qkb) G hm hv hk
theorem Qiq {f:Nat} {t:TypeId} {ts:List TypeId} {G:List (List D)} (h:QfB tb f (t::ts) G):∃a r,G=a::r∧QfA tb f t a∧QfB tb f ts r:=by
 cases G with
 |nil=>exact h.elim
 |cons a r=>exact⟨a,r,rfl,h.1,h.2⟩
theorem QoL {f:Nat} {G:List (List D)} (h:QfB tb f [] G):G=[]:=by
 cases G with
 |nil=>rfl
 |cons a r=>exact h.elim
theorem Qxg {α:Type} {l:List α} (h:l.length=1):∃a,l=[a]:=List.length_eq_one_iff.1 h
theorem Qxh {α:Type} {l:List α} (h:l.length=2):∃a b,l=[a,b]:=by
 match l,h with
 |[a,b],_=>exact⟨a,b,rfl⟩
theorem QqW {t:TypeId} {ds:List D} {d:D} (G:(match tb.find t with|some ⟨.struct _,_,_,_,_⟩=>false|_=>true)=true) (h:DsLe ds [d]):VLe (Qxe tb t ds) (.d d):=by
 have hl:=h.len;obtain⟨a,rfl⟩:=Qxg hl;unfold Qxe;split
 ·rename_i I;rw[I] at G;cases G
 ·exact VLe.d h.1
end Go.Ab
