/-
  Regions whose order Go leaves open, more; rows out of contracts: a part of the frame in which a given row's proof walks the program; no condition.
-/
import Derived.Test.YtjjkhncoafdfmaaGreatDoorAbz4
import Derived.ProofKit
import Derived.SizedLaws
import Derived.Deep.Slices
set_option linter.all false
namespace Go.Ab
open Go.RowKit
variable {P:Program} {tb:Tb} {S:St}
def QdC:List Bool->Nat->Bool
 |[],_=>false
 |b::_,0=>b
 |_::r,n+1=>QdC r n
noncomputable def tsM (b:List Bool):List Rs->List (Nat×V):=List.rec (motive:=fun _=>List Rs->List (Nat×V)) (fun _=>[]) (fun x _ I R=>match R with
 |[]=>[]
 |r::rs=>match x with
  |true=>(match r.dst with
   |some t=>(t,r.shown)::I rs
   |none=>I rs)
  |false=>I rs) b
noncomputable def gsM (b:List Bool):List Rs->List Gd:=List.rec (motive:=fun _=>List Rs->List Gd) (fun _=>[]) (fun x _ I R=>match R with
 |[]=>[]
 |r::rs=>match x with
  |true=>(match r.dst,r.g with
   |some t,some (key,want)=>⟨t,key,want,r.v⟩::I rs
   |_,_=>I rs)
  |false=>I rs) b
noncomputable def bsM (b:List Bool):List Rs->List (Nat×Blk):=List.rec (motive:=fun _=>List Rs->List (Nat×Blk)) (fun _=>[]) (fun x _ I R=>match R with
 |[]=>[]
 |r::rs=>match x with
  |true=>r.nb++I rs
  |false=>I rs) b
theorem QBC {b:List Bool} {r:Rs} {I:List Rs}:tsM (true::b) (r::I)=match r.dst with
   |some t=>(t,r.shown)::tsM b I
   |none=>tsM b I:=rfl
theorem QBD {b:List Bool} {r:Rs} {I:List Rs}:gsM (true::b) (r::I)=match r.dst,r.g with
   |some t,some (key,want)=>⟨t,key,want,r.v⟩::gsM b I
   |_,_=>gsM b I:=rfl
theorem QBE {b:List Bool} {r:Rs} {I:List Rs}:bsM (true::b) (r::I)=r.nb++bsM b I:=rfl
theorem QBF {b:List Bool} {r:Rs} {I:List Rs}:tsM (false::b) (r::I)=tsM b I:=rfl
theorem QBG {b:List Bool} {r:Rs} {I:List Rs}:gsM (false::b) (r::I)=gsM b I:=rfl
theorem QBH {b:List Bool} {r:Rs} {I:List Rs}:bsM (false::b) (r::I)=bsM b I:=rfl
theorem QjQ {E:Nat->Bool}:∀ {R:List Rs} {i0:Nat},(∀i,i<R.length->E (i0+i)=false)->QdN E i0 R=[]∧Qd6 E i0 R=[]∧JH E i0 R=[]
 |[],_,_=>⟨rfl,rfl,rfl⟩
 |r::R,i0,h=>by
  have I:E i0=false:=h 0 (by simp);have⟨J,N,O⟩:=QjQ (E:=E) (R:=R) (i0:=i0+1) fun i hi=>by
   have:=h (i+1) (by simp;omega);rwa[show i0+1+i=i0+(i+1) by omega]
  exact⟨by simp[QdN,I,J],by simp[Qd6,I,N],by simp[JH,I,O]⟩
theorem Qsd {E:Nat->Bool}:∀ {R:List Rs} {b:List Bool} {i0:Nat},(∀i,i<R.length->QdC b i=E (i0+i))->tsM b R=QdN E i0 R∧gsM b R=Qd6 E i0 R∧bsM b R=JH E i0 R
 |[],b,_,_=>by cases b with
  |nil=>exact⟨rfl,rfl,rfl⟩
  |cons x r=>cases x<;>exact⟨rfl,rfl,rfl⟩
 |r::R,[],i0,h=>by
  have⟨h1,h2,h3⟩:=QjQ (E:=E) (R:=r::R) (i0:=i0) fun i hi=>(h i hi).symm;rw[h1,h2,h3];exact⟨rfl,rfl,rfl⟩
 |r::R,x::b,i0,h=>by
  have U:x=E i0:=h 0 (by simp);have⟨O,J,N⟩:=Qsd (E:=E) (R:=R) (b:=b) (i0:=i0+1) fun i hi=>by
   have:=h (i+1) (by simp;omega);rw[show i0+1+i=i0+(i+1) by omega];exact this
  subst U
  cases I:E i0
  ·exact⟨by rw[QBF];simp only[QdN,I];exact O,by rw[QBG];simp only[Qd6,I];exact J,by rw[QBH];simp only[JH,I];exact N⟩
  ·refine⟨?_,?_,by rw[QBE];simp only[JH,I];rw[N]⟩
   ·rw[QBC];simp only[QdN,I]
    cases r.dst<;>simp[O]
   ·rw[QBD];simp only[Qd6,I]
    cases r.dst with
    |none=>simp[J]
    |some t=>cases r.g with
     |none=>simp[J]
     |some g=>have⟨k,w⟩:=g;simp[J]
noncomputable def stM (S0:St) (R:List Rs) (b:List Bool):St:=match S0 with
 |⟨base,nt,ts,_,bs,fs⟩=>⟨base,nt,tsM b R++ts,gsM b R,bsM b R++bs,fs⟩
theorem QuI {S0:St} {R:List Rs} {b:List Bool} {E:Nat->Bool} (h:∀i,i<R.length->QdC b i=E i):stM S0 R b=stOf S0 R E:=by
 have⟨h1,h2,h3⟩:=Qsd (E:=E) (R:=R) (b:=b) (i0:=0) fun i hi=>by simpa using h i hi
 have⟨base,nt,ts,gs,bs,fs⟩:=S0;simp[stM,stOf,h1,h2,h3]
def QuJ (ops:List Oper) (dsts:List (Option Nat)) (anc:List Nat):Option (Nat×Bool)->Bool
 |none=>true
 |some (jg,_)=>(match ops[jg]? with
  |some ⟨some key,_,_,_,_,_⟩=>ZX anc jg&&okT anc key 0 dsts
  |_=>false)
def Qnv (ops:List Oper) (dsts:List (Option Nat)):List Oper->Nat->List (List Nat)->List (List Bool)->Bool
 |[],_,_,_=>true
 |o::rest,j,ancs,mk::mks=>o.op.operands.toList.all (QiW dsts (Qcm ancs o))&&QuJ ops dsts (Qcm ancs o) o.guard&&(List.range j).all (fun i=>QdC mk i==ZX (Qcm ancs o) i)&&
   Qnv ops dsts rest (j+1) (ancs++[Qcm ancs o]) mks
 |_,_,_,[]=>false
def JL:List Oper->List (List Nat)->List (List Nat)
 |[],ancs=>ancs
 |o::rest,ancs=>JL rest (ancs++[Qcm ancs o])
noncomputable def Qy5 (P:Program) (tb:Tb) (cs:Nat->Option CS) (ops:List Oper) (S0:St) (l:List Oper):List (List Bool)->Nat->List Rs->(List Rs->Prop)->Prop:=
 List.rec (motive:=fun _=>List (List Bool)->Nat->List Rs->(List Rs->Prop)->Prop) (fun _ _ R K=>K R) (fun o _ N I j R K=>match I with
  |mk::I=>evD P tb cs ops j o (stM S0 R mk) fun g v nb=>QuA R ⟨o.dst,g,v,nb⟩ fun J=>N I (j+1) J K
  | [] => Stuck "drawn region masks") l
theorem QwO {P:Program} {tb:Tb} {cs:Nat->Option CS} {ops:List Oper} {S0:St} {I:List (List Bool)} {j:Nat} {R:List Rs} {K:List Rs->Prop}:Qy5 P tb cs ops S0 [] I j R K=K R:=rfl
theorem QuK {P:Program} {tb:Tb} {cs:Nat->Option CS} {ops:List Oper} {S0:St} {o:Oper} {rest:List Oper} {mk:List Bool} {I:List (List Bool)} {j:Nat} {R:List Rs} {K:List Rs->Prop}:
  Qy5 P tb cs ops S0 (o::rest) (mk::I) j R K=evD P tb cs ops j o (stM S0 R mk) fun g v nb=>QuA R ⟨o.dst,g,v,nb⟩ fun J=>Qy5 P tb cs ops S0 rest I (j+1) J K:=rfl
theorem QqW {cs:Nat->Option CS} {ops:List Oper} {dsts:List (Option Nat)} {S0:St} {K:List (List Nat)->List Rs->Prop} {K':List Rs->Prop} {D:List (Option Nat)}:∀(l:List Oper) (I:List (List Bool)) (j:Nat) (ancs:List (List Nat)) (R:List Rs),
  Qnv ops dsts l j ancs I=true->R.length=j->R.map (·.dst)++l.map (·.dst)=D->(∀N,N.map (·.dst)=D->K' N=K (JL l ancs) N)->Qy5 P tb cs ops S0 l I j R K'=evM P tb cs ops dsts S0 l j ancs R K
 |[],_,j,ancs,R,_,hR,hD,hK=>by
  rw[QwO];simp only[evM];exact hK R (by simpa using hD)
 |o::rest,[],j,ancs,R,h,_,_,_=>by simp[Qnv] at h
 |o::rest,mk::I,j,ancs,R,h,hR,hD,hK=>by
  simp only[Qnv,Y2] at h;have⟨⟨⟨h1,h2⟩,h3⟩,h4⟩:=h;rw[QuK];simp only[evM,Qnn];have O:(match o.guard with
   |none=>true
   |some (jg,_)=>(match ops[jg]? with
    |some ⟨some key,_,_,_,_,_⟩=>ZX (Qcm ancs o) jg&&okT (Qcm ancs o) key 0 dsts
    |_=>false))=true:=h2
  rw[h1];have hs:stM S0 R mk=stOf S0 R (ZX (Qcm ancs o)):=QuI fun i hi=>by
   have:=Ye.1 h3 i (by simp;omega);simpa using this
  rw[hs];split
  ·congr 1
   funext g v nb
   rw[Qk6,Qk6];exact QqW rest I (j+1) _ _ h4 (by simp[hR]) (by simpa using hD) hK
  ·rename_i J;exact absurd O (J rfl)
def Qi0 (S0:St) (ancs:List (List Nat)) (R:List Rs):Bool:=
 Qnp ((JH (fun _=>true) 0 R).map (·.1))&&
 (QmH (fun _ ri=>ri.nb.all fun p=>!S0.mentions p.1) 0 R&&
 (QmH (fun j rj=>match rj.nb with
  |[]=>true
  |nb=>QmH (fun i ri=>Nat.beq i j||(ZX (nth ancs i) j||nb.all fun p=>!ri.v.mentions p.1&&ri.nb.all fun q=>!q.2.mentions p.1)) 0 R) 0 R&&
 QmH (fun _ ri=>match ri.dst with|some t=>Nat.blt t S0.nt&&(match ri.g with|some (k,_)=>!Nat.beq k t|none=>true)|none=>(match ri.nb with|[]=>true|_=>false)) 0 R))
def QpD:Nat->Option Nat->Nat->List (Option Nat)->Bool
 |_,_,_,[]=>true
 |i,d,j,e::r=>(Nat.beq i j||QwI d e)&&QpD i d (j+1) r
def QjR (D:List (Option Nat)):Nat->List (Option Nat)->Bool
 |_,[]=>true
 |i,d::r=>QpD i d 0 D&&QjR D (i+1) r
theorem Qif {f:Nat->Rs->Bool}:∀ {R:List Rs} {i0:Nat},(∀(j:Nat) (r:Rs),R[j]? =some r->f (i0+j) r=true)->QmH f i0 R=true
 |[],_,_=>rfl
 |q::R,i0,h=>by
  simp only[QmH,show f i0 q=true from h 0 q rfl];exact Qif fun j r I=>by rw[show i0+1+j=i0+(j+1) by omega];exact h (j+1) r (by simpa using I)
theorem Qnw {i:Nat} {d:Option Nat}:∀ {D:List (Option Nat)} {I:Nat},QpD i d I D=true->∀(j:Nat) (e:Option Nat),D[j]? =some e->(Nat.beq i (I+j)||QwI d e)=true
 |x::D,I,h,j,e,hj=>by
  simp only[QpD,Y2] at h
  cases j with
  |zero=>simp at hj;subst hj;exact h.1
  |succ j=>rw[show I+(j+1)=I+1+j by omega];exact Qnw h.2 j e (by simpa using hj)
 |[],_,_,_,_,hj=>by simp at hj
theorem QlW {D:List (Option Nat)}:∀ {l:List (Option Nat)} {i0:Nat},QjR D i0 l=true->∀(i:Nat) (d:Option Nat),l[i]? =some d->QpD (i0+i) d 0 D=true
 |x::l,i0,h,i,d,hi=>by
  simp only[QjR,Y2] at h
  cases i with
  |zero=>simp at hi;subst hi;exact h.1
  |succ i=>rw[show i0+(i+1)=i0+1+i by omega];exact QlW h.2 i d (by simpa using hi)
 |[],_,_,_,_,hi=>by simp at hi
theorem Qtp {S0:St} {ancs:List (List Nat)} {R:List Rs} {D:List (Option Nat)} (N:R.map (·.dst)=D) (O:QjR D 0 D=true) (h:Qi0 S0 ancs R=true):QhM S0 ancs R=true:=by
 simp only[Qi0,Y2] at h;have⟨h2,h3,h4,h5⟩:=h;simp only[QhM,Y2];refine⟨?_,h2,h3,?_,h5⟩
 ·refine Qif fun i ri hi=>Qif fun j rj I=>?_;have e1:=QlW O i ri.dst (by rw[<-N];simp[hi]);have J:=Qnw e1 j rj.dst (by rw[<-N];simp[I]);simpa using J
 ·refine Qif fun i ri hi=>Qif fun j rj I=>?_;have e1:=QaN h4 j rj I;simp only[Yl] at e1|-;split at e1
  ·rename_i U;rw[U];simp
  ·have J:=QaN e1 i ri hi;simpa using J
theorem QpE {S0:St} {ancs:List (List Nat)} {R:List Rs} {D:List (Option Nat)} (J:R.map (·.dst)=D) (I:QjR D 0 D=true):Qi0 S0 ancs R=QhM S0 ancs R:=by
 rw[YH];refine⟨Qtp J I,fun h=>?_⟩;simp only[QhM,Y2] at h;have⟨_,h2,h3,h4,h5⟩:=h;simp only[Qi0,Y2];refine⟨h2,h3,Qif fun j rj N=>?_,h5⟩;have O:(QmH (fun i ri=>Nat.beq i (0+j)||(ZX (nth ancs i) (0+j)||rj.nb.all fun p=>!ri.v.mentions p.1&&ri.nb.all fun q=>!q.2.mentions p.1)) 0 R)=true:=Qif fun i ri hi=>by
  have:=QaN (QaN h4 i ri hi) j rj N;simpa using this
 split
 ·rfl
 ·exact O
def Qfi:List (List Bool)->Nat->List Bool
 |[],_=>[]
 |a::_,0=>a
 |_::r,n+1=>Qfi r n
def orB:List Bool->List Bool->List Bool
 |[],b=>b
 |a,[]=>a
 |x::a,y::b=>(x||y)::orB a b
def QwP:Nat->List Bool
 |0=>[true]
 |n+1=>false::QwP n
def QpF (I:List (List Bool)):List Nat->List Bool
 |[]=>[]
 |i::r=>orB (orB (QwP i) (Qfi I i)) (QpF I r)
theorem Qoo:∀ {a b:List Bool} {k:Nat},QdC (orB a b) k=(QdC a k||QdC b k)
 |[],b,k=>by simp[orB,QdC]
 |x::a,[],k=>by simp[orB,QdC]
 |x::a,y::b,0=>rfl
 |x::a,y::b,k+1=>by simpa[orB,QdC] using Qoo (a:=a) (b:=b) (k:=k)
theorem QpG:∀ {n k:Nat},QdC (QwP n) k=Nat.beq n k
 |0,0=>rfl
 |0,k+1=>rfl
 |n+1,0=>rfl
 |n+1,k+1=>by
  show QdC (QwP n) k=Nat.beq n k;exact QpG
theorem QlX:∀ {a b:List Nat} {k:Nat},ZX (a++b) k=(ZX a k||ZX b k)
 |[],b,k=>rfl
 |x::a,b,k=>by
  simp only[Xq,ZX];split
  ·rfl
  ·exact QlX
theorem QuL {x:Nat} {a:List Nat} {k:Nat}:ZX (x::a) k=(Nat.beq x k||ZX a k):=by
 simp only[ZX];cases Nat.beq x k<;>rfl
theorem Qig {I:List (List Bool)} {ancs:List (List Nat)} (h:∀i k,QdC (Qfi I i) k=ZX (nth ancs i) k):∀ {es:List Nat} {k:Nat},QdC (QpF I es) k=ZX (ancIn ancs es) k
 |[],k=>rfl
 |i::r,k=>by
  simp only[QpF,ancIn];rw[Qoo,Qoo,QpG,h,Qig h,QuL,QlX,Bool.or_assoc]
theorem QlY {x:List Bool}:∀ {l:List (List Bool)} {i:Nat},Qfi (l++[x]) i=if i=l.length then x else Qfi l i
 |[],0=>rfl
 |[],i+1=>by simp[Qfi]
 |a::l,0=>by simp[Qfi]
 |a::l,i+1=>by simpa[Qfi] using QlY (l:=l) (i:=i)
theorem QlZ {x:List Nat}:∀ {l:List (List Nat)} {i:Nat},nth (l++[x]) i=if i=l.length then x else nth l i
 |[],0=>rfl
 |[],i+1=>by simp[nth]
 |a::l,0=>by simp[nth]
 |a::l,i+1=>by simpa[nth] using QlZ (l:=l) (i:=i)
def isD (d:Option Nat) (t:Nat):Bool:=match d with
 |some u=>Nat.beq u t
 |none=>false
def Qy6 (t:Nat):List Bool->List (Option Nat)->Bool
 |_,[]=>true
 |[],d::r=>!isD d t&&Qy6 t [] r
 |b::bs,d::r=>(b|| !isD d t)&&Qy6 t bs r
theorem Qop {anc:List Nat} {t:Nat}:∀ {ds:List (Option Nat)} {mk:List Bool} {i:Nat},(∀k,QdC mk k=ZX anc (i+k))->Qy6 t mk ds=okT anc t i ds
 |[],_,_,_=>by cases ‹List Bool›<;>rfl
 |d::r,[],i,h=>by
  have J:ZX anc i=false:=(h 0).symm;have I:=Qop (anc:=anc) (t:=t) (ds:=r) (mk:=[]) (i:=i+1) fun k=>by rw[show i+1+k=i+(k+1) by omega];exact h (k+1)
  simp only[Qy6,okT,J,isD];rw[I]
  cases d with
  |none=>rfl
  |some u=>dsimp only;cases Nat.beq u t<;>rfl
 |d::r,b::bs,i,h=>by
  have J:b=ZX anc i:=h 0;have I:=Qop (anc:=anc) (t:=t) (ds:=r) (mk:=bs) (i:=i+1) fun k=>by rw[show i+1+k=i+(k+1) by omega];exact h (k+1)
  simp only[Qy6,okT,<-J,isD];rw[I]
  cases d with
  |none=>cases b<;>rfl
  |some u=>dsimp only;cases Nat.beq u t<;>cases b<;>rfl
def Qtq (dsts:List (Option Nat)) (mk:List Bool):Operand->Bool
 | .tmp t=>Qy6 t mk dsts
 |_=>true
def Qse (ops:List Oper) (dsts:List (Option Nat)) (mk:List Bool):Option (Nat×Bool)->Bool
 |none=>true
 |some (jg,_)=>(match ops[jg]? with
  |some ⟨some key,_,_,_,_,_⟩=>QdC mk jg&&Qy6 key mk dsts
  |_=>false)
def QAL:List Bool->List Bool->Bool
 |[],[]=>true
 |true::a,true::b=>QAL a b
 |false::a,false::b=>QAL a b
 |_,_=>false
theorem Qoq:∀ {a b:List Bool},QAL a b=true->a=b
 |[],[],_=>rfl
 |true::a,true::b,h=>by rw[Qoq (a:=a) (b:=b) h]
 |false::a,false::b,h=>by rw[Qoq (a:=a) (b:=b) h]
 |[],_::_,h=>by cases h
 |true::_,[],h=>by cases h
 |false::_,[],h=>by cases h
 |true::_,false::_,h=>by cases h
 |false::_,true::_,h=>by cases h
def Ql0 (ops:List Oper) (dsts:List (Option Nat)):List Oper->List (List Bool)->List (List Bool)->Bool
 |[],_,_=>true
 |o::rest,acc,mk::mks=>QAL (QpF acc (Zo o.after.toList)) mk&&(o.op.operands.toList.all (Qtq dsts mk)&&(Qse ops dsts mk o.guard&&Ql0 ops dsts rest (acc++[mk]) mks))
 |_::_,_,[]=>false
theorem QjS {ops:List Oper} {dsts:List (Option Nat)}:∀(l:List Oper) (J I:List (List Bool)) (ancs:List (List Nat)) (j:Nat),Ql0 ops dsts l I J=true->I.length=j->ancs.length=j->(∀i k,QdC (Qfi I i) k=ZX (nth ancs i) k)->
  Qnv ops dsts l j ancs J=true∧∀i k,QdC (Qfi (I++J.take l.length) i) k=ZX (nth (JL l ancs) i) k
 |[],J,I,ancs,j,_,_,_,h=>⟨rfl,by simpa[JL] using h⟩
 |o::rest,[],I,ancs,j,h,_,_,_=>by simp[Ql0] at h
 |o::rest,mk::J,I,ancs,j,h,h1,h2,hA=>by
  simp only[Ql0,Y2] at h;have⟨e1,e2,e3,U⟩:=h;have e1:=Qoq e1;have N:∀k,QdC mk k=ZX (Qcm ancs o) k:=fun k=>by rw[<-e1];exact Qig hA
  have O:∀i k,QdC (Qfi (I++[mk]) i) k=ZX (nth (ancs++[Qcm ancs o]) i) k:=fun i k=>by
   rw[QlY,QlZ,h1,h2];split
   ·exact N k
   ·exact hA i k
  have⟨i1,Y⟩:=QjS rest J (I++[mk]) (ancs++[Qcm ancs o]) (j+1) U (by simp[h1]) (by simp[h2]) O;refine⟨?_,by simpa[JL] using Y⟩;simp only[Qnv,Y2];refine⟨⟨⟨?_,?_⟩,?_⟩,i1⟩
  ·rw[<-e2]
   congr 1
   funext x
   cases x with
   |tmp t=>exact(Qop (anc:=Qcm ancs o) (i:=0) fun k=>by rw[Yl];exact N k).symm
   |_=>rfl
  ·rw[<-e3]
   cases hg:o.guard with
   |none=>rfl
   |some g=>
    have⟨jg,want⟩:=g;simp only[QuJ,Qse];split
    ·rw[N,Qop (anc:=Qcm ancs o) (i:=0) fun k=>by rw[Yl];exact N k]
    ·rfl
  ·exact Ye.2 fun i _=>by simp[N i]
def Qfa (S0:St) (I:List (List Bool)) (R:List Rs):Bool:=
 Qnp ((JH (fun _=>true) 0 R).map (·.1))&&
 (QmH (fun _ ri=>ri.nb.all fun p=>!S0.mentions p.1) 0 R&&
 (QmH (fun j rj=>match rj.nb with
  |[]=>true
  |nb=>QmH (fun i ri=>Nat.beq i j||(QdC (Qfi I i) j||nb.all fun p=>!ri.v.mentions p.1&&ri.nb.all fun q=>!q.2.mentions p.1)) 0 R) 0 R&&
 QmH (fun _ ri=>match ri.dst with|some t=>Nat.blt t S0.nt&&(match ri.g with|some (k,_)=>!Nat.beq k t|none=>true)|none=>(match ri.nb with|[]=>true|_=>false)) 0 R))
noncomputable def Qor (P:Program) (tb:Tb) (cs:Nat->Option CS) (m:Nat) (I:List (List Bool)) (ops:List Oper) (S:St) (K:St->Prop):Prop:=
 stK (QqS ((ops.take m).map (·.dst)) S) fun S0=>Qy5 P tb cs ops S0 (ops.take m) I 0 [] fun R=>
   match Qfa S0 I R with
   |true=>stK (stM S0 R (List.replicate m true)) fun J=>Qe9 P tb ops (ops.drop m) J fun S=>S.noGds K
   | false => Stuck "drawn region what is made is named too early"
theorem Qos:∀ {m i:Nat},i<m->QdC (List.replicate m true) i=true
 |m+1,0,_=>rfl
 |m+1,i+1,h=>by simpa[List.replicate_succ,QdC] using Qos (m:=m) (i:=i) (by omega)
end Go.Ab
namespace Go.Ab
open Go.RowKit
variable {P:Program} {tb:Tb}
theorem Qsf {α:Type} {xs:Array α} {d t:Nat} {x v:α} (h:d≠t):(xs.setIfInBounds t v).setIfInBounds d x=(xs.setIfInBounds d x).setIfInBounds t v:=by
 apply Array.ext_getElem?
 intro i;simp only[YO]
 by_cases e1:d=i
 ·subst e1
  by_cases I:t=d
  ·exact absurd I.symm h
  ·simp[I]
 ·by_cases I:t=i
  ·subst I;simp[e1]
  ·simp[e1,I]
theorem Act.put_comm {a:Act} {d t:Nat} {x v:Value} (h:d≠t):(a.put (some t) v).put (some d) x=(a.put (some d) x).put (some t) v:=by
 have:(a.tmps.setIfInBounds t v).setIfInBounds d x=(a.tmps.setIfInBounds d x).setIfInBounds t v:=by
  exact Qsf h
 exact congrArg (fun x=>(⟨x,a.defers⟩:Act)) this
theorem Ql1 {a:Act} {t:Nat} {v:Value} {x:Operand} (h:x≠ .tmp t):(a.put (some t) v).eval x=a.eval x:=by
 cases x with
 |tmp u=>
  have:u≠t:=fun e=>h (by rw[e]);simp only[Act.eval,Act.put,Y7,YO,Y3 (YY this)]
 |_=>rfl
structure Light (ops:Array Oper) (i t s k:Nat):Prop where
 out:∃ty pos after,ops[i]? =some ⟨some t,.extract (.tmp s) k,ty,pos,after,none⟩
structure Comm (ops:Array Oper) (t s:Nat) (o:Oper):Prop where
 sel:∀cs b,o.op≠ .select cs b
 reads:∀x∈o.op.operands,x≠ .tmp t
 dst:o.dst≠some t
 src:o.dst≠some s
 guard:∀jg w,o.guard=some (jg,w)→(ops[jg]?).bind (·.dst)≠some t
variable {ops:Array Oper} {Q:Exit→Act→World→Prop} {i t s k:Nat}
theorem QpH (hl:Light ops i t s k) (O:∀e a w,Q e a w->e=.normal) {K:Act->World->Prop} {a:Act} {w:World} (h:wpOp P ops Q i K a w):
  ∃vs v,a.eval (.tmp s)=.tuple vs∧vs[k]? =some v∧K (a.put (some t) v) w:=by
 have⟨ty,pos,after,ho⟩:=hl.out;unfold wpOp at h;simp only[ho,Region.wanted,YE] at h;rcases h with h|h
 ·unfold Oper.wp at h;simp only[execOp] at h
  cases J:a.eval (.tmp s) with
  |tuple vs=>
   rw[J] at h;simp only[Instr.extract] at h
   cases I:vs[k]? with
   |none=>rw[I] at h;simp[Oper.upon,stuck] at h
   |some v=>
    rw[I] at h;simp only[pure_bind,Sem.run_pure] at h;exact⟨vs,v,rfl,I,h⟩
  |_=>rw[J] at h;simp[Instr.extract,Oper.upon,stuck] at h
 ·have⟨_,a',w',N⟩:=h;have:=O _ _ _ N;cases this
theorem QwQ (hl:Light ops i t s k) {K:Act->World->Prop} {a:Act} {w:World} {vs:Array Value} {v:Value} (h1:a.eval (.tmp s)=.tuple vs) (h2:vs[k]? =some v) (h3:K (a.put (some t) v) w):wpOp P ops Q i K a w:=by
 have⟨ty,pos,after,ho⟩:=hl.out;unfold wpOp;simp only[ho,Region.wanted,YE];refine .inl ?_;unfold Oper.wp;simp only[execOp,h1,Instr.extract,h2,pure_bind,Sem.run_pure];exact h3
theorem Qy7 (hQ:∀e a w,Q e a w->e=.normal) {j:Nat} {o:Oper} (hj:ops[j]? =some o) (hc:Comm ops t s o) {K:Act->World->Prop} {a:Act} {w:World} {v:Value} (h:wpOp P ops Q j K (a.put (some t) v) w):
  wpOp P ops Q j (fun a' w'=>a'.eval (.tmp s)=a.eval (.tmp s)∧K (a'.put (some t) v) w') a w:=by
 have U:Region.wanted o (yielded ops (a.put (some t) v).tmps)=Region.wanted o (yielded ops a.tmps):=by
  unfold Region.wanted
  cases hg:o.guard with
  |none=>rfl
  |some g=>
   have⟨jg,want⟩:=g;have N:=hc.guard jg want hg;simp only;have:yielded ops (a.put (some t) v).tmps jg=yielded ops a.tmps jg:=by
    unfold yielded
    cases O:(ops[jg]?).bind (·.dst) with
    |none=>rfl
    |some d=>
     rw[O] at N;have N:t≠d:=fun e=>N (by rw[e]);simp only[Y17,Act.put,YO,Y3 N]
   rw[this]
 have a2:execOp (a.put (some t) v).eval o=execOp a.eval o:=execOp_congr o hc.sel fun x hx=>Ql1 (hc.reads x hx);have J:∀x,(a.put (some t) v).put o.dst x=(a.put o.dst x).put (some t) v:=fun x=>by
  cases O:o.dst with
  |none=>rfl
  |some d=>exact Act.put_comm fun e=>hc.dst (by rw[O,e])
 have I:∀x,(a.put o.dst x).eval (.tmp s)=a.eval (.tmp s):=fun x=>by
  cases O:o.dst with
  |none=>rfl
  |some d=>exact Ql1 fun e=>hc.src (by rw[O];cases e;rfl)
 unfold wpOp at h|-;simp only[hj] at h|-;rw[U] at h;split
 ·rename_i hw;rw[Y4 hw] at h;rcases h with h|h
  ·refine .inl ?_;unfold Oper.wp at h|-;rw[a2] at h;generalize (execOp a.eval o).run P w=r at*
   cases r with
   |ok n w'=>
    cases n with
    |value x=>exact⟨I x,by rw[<-J];exact h⟩
    |skip=>exact⟨I _,by rw[<-J];exact h⟩
    |defer d=>
     simp only[Oper.upon] at h|-;refine⟨?_,?_⟩
     ·have:=I undef
      cases O:o.dst<;>rw[O] at this<;>exact this
     ·cases O:o.dst with
      |none=>rw[O] at h;exact h
      |some d'=>
       rw[O] at h;have N:d'≠t:=fun e=>hc.dst (by rw[O,e]);have:=Act.put_comm (a:={a with defers:=d::a.defers}) (x:=undef) (v:=v) N;rw[<-this];exact h
    |enter f args=>
     simp only[Oper.upon] at h|-;refine Calls.mono h fun e a1 Y=>?_
     cases e with
     |returned x=>exact⟨I x,by rw[<-J];exact Y⟩
     |panicked c=>have:=hQ _ _ _ Y;cases this
     |outgrown=>exact Y
    |row r args=>
     simp only[Oper.upon] at h|-;exact Rows.mono h fun x a1 Y=>⟨I x,by rw[<-J];exact Y⟩
    |_=>simp only[Oper.upon] at h
   |halt x w'=>
    cases x<;>simp only[Oper.upon] at h|-
    all_goals first
     |exact h
     |(have:=hQ _ _ _ h;cases this)
  ·have⟨_,a',w',h'⟩:=h;have:=hQ _ _ _ h';cases this
 ·rename_i hw;rw[Y3 hw] at h;exact⟨I _,by rw[<-J];exact h⟩
theorem QuM {listed:Array Bool} {i x:Nat} (I:x<listed.size):(listed.setIfInBounds i true).getD x false=(decide (i=x)||listed.getD x false):=by
 simp only[Y7,YO]
 by_cases e:i=x
 ·subst e;simp[I]
 ·simp[e]
theorem Ql2 {listed:Array Bool} {i x:Nat} (h:listed.getD x false=true):(listed.setIfInBounds i true).getD x false=true:=by
 have I:x<listed.size:=by
  by_cases I:x<listed.size
  ·exact I
  ·rw[Y7,XS (by omega)] at h;cases h
 rw[QuM I];simp[h]
theorem QBI (hQ:∀e a w,Q e a w->e=.normal) (hl:Light ops i t s k)
  (a6:∀j o,ops[j]? =some o->j≠i->i∈Zo o.after.toList∨(∃oi,ops[i]? =some oi∧j∈Zo oi.after.toList)∨Comm ops t s o):
  ∀(J:Nat) (listed:Array Bool) (a:Act) (w:World),listed.size=ops.size->i∈Region.ready .any ops listed->wpOp P ops Q i (wpAny P .any ops Q J (listed.setIfInBounds i true)) a w->wpAny P .any ops Q (J+1) listed a w:=by
 intro J
 induction J with
 |zero=>
  intro listed a w hs hr h;refine⟨fun hn=>by rw[hn] at hr;simp at hr,fun j hj=>?_⟩
  by_cases I:j=i
  ·subst I;exact h
  ·exfalso;have⟨vs,v,_,_,h3⟩:=QpH hl hQ h;have⟨h4,_⟩:=h3;have:j∈Region.ready .any ops (listed.setIfInBounds i true):=by
    have⟨g1,o,Y,g3⟩:=mem_ready.1 hj;refine mem_ready.2 ⟨?_,o,Y,fun e he hb=>?_⟩
    ·simp only[Y7,YO] at g1|-;rw[Y3 (YY I)];exact g1
    ·have:=g3 e he hb;exact Ql2 this
   rw[h4] at this;simp at this
 |succ J ih=>
  intro listed a w hs hr h;refine⟨fun hn=>by rw[hn] at hr;simp at hr,fun j hj=>?_⟩
  by_cases I:j=i
  ·subst I;exact h
  ·have⟨vs,v,e1,e2,h3⟩:=QpH hl hQ h;have⟨g1,o,Y,g3⟩:=mem_ready.1 hj;have a7:j∈Region.ready .any ops (listed.setIfInBounds i true):=by
    refine mem_ready.2 ⟨?_,o,Y,fun e he hb=>?_⟩
    ·simp only[Y7,YO] at g1|-;rw[Y3 (YY I)];exact g1
    ·have:=g3 e he hb;exact Ql2 this
   have h4:=h3.2 j a7;have⟨r1,oi,r2,r3⟩:=mem_ready.1 hr;have a2:i<listed.size:=by rw[hs];exact(Ys.1 r2).1
   have hc:Comm ops t s o:=by
    rcases a6 j o Y I with hc|⟨oi',f1,f2⟩|hc
    ·exfalso;have⟨ed,O,hb,U⟩:=Qay.1 hc;have:=g3 ed (by simpa using O) hb;rw[U,<-QfS a2,r1] at this
     cases this
    ·exfalso;rw[r2] at f1;cases f1;have⟨ed,O,hb,U⟩:=Qay.1 f2;have:=r3 ed (by simpa using O) hb;have a1:j<listed.size:=by rw[hs];exact(Ys.1 Y).1
     rw[U,<-QfS a1,g1] at this
     cases this
    ·exact hc
   refine wpOp_mono (fun a' w' hk=>?_) (Qy7 hQ Y hc h4);have⟨k1,k2⟩:=hk;have a5:i∈Region.ready .any ops (listed.setIfInBounds j true):=by
    refine mem_ready.2 ⟨?_,oi,r2,fun e he hb=>?_⟩
    ·simp only[Y7,YO] at r1|-;rw[Y3 I];exact r1
    ·have:=r3 e he hb;exact Ql2 this
   refine ih _ a' w' (by simpa using hs) a5 (QwQ hl (by rw[k1];exact e1) e2 ?_);have N:(listed.setIfInBounds j true).setIfInBounds i true=(listed.setIfInBounds i true).setIfInBounds j true:=by
    exact Qsf (YY I)
   rw[N];exact k2
end Go.Ab
namespace Go.Ab
open Go.RowKit
variable {P:Program} {tb:Tb} {w:World} {ρ:Env} {a:Act} {B:Bd} {w0:World} {F:List (Array Value)}
 {cs:Nat→Option CS} {m:Nat} {ops:List Oper} {S0:St} {A:List (List Nat)} {R:List Rs} {ls:List Nat}
def QjT (m:Nat) (ls:List Nat) (ops:List Oper):Prop:=∀(j:Nat) (o:Oper),ops[j]? =some o->m<=j->∀e,e<j->e∈nth (JL ops []) j∨(e<m∧e∈ls)
theorem QfT:∀ {l:List Oper} {ancs:List (List Nat)},(JL l ancs).take ancs.length=ancs∧(JL l ancs).length=ancs.length+l.length
 |[],ancs=>by simp[JL]
 |o::r,ancs=>by
  have⟨h1,h2⟩:=QfT (l:=r) (ancs:=ancs++[Qcm ancs o]);simp only[JL];refine⟨?_,by rw[h2];simp;omega⟩;have:((JL r (ancs++[Qcm ancs o])).take (ancs++[Qcm ancs o]).length).take ancs.length=ancs:=by rw[h1];simp
  rwa[XY,Xa (by simp)] at this
theorem QpI:∀ {l:List Oper} {ancs:List (List Nat)} {i:Nat} {o:Oper},l[i]? =some o->nth (JL l ancs) (ancs.length+i)=Qcm ((JL l ancs).take (ancs.length+i)) o
 |o::r,ancs,0,q,h=>by
  simp at h;subst h;have⟨h1,_⟩:=QfT (l:=r) (ancs:=ancs++[Qcm ancs o]);have⟨h3,_⟩:=QfT (l:=o::r) (ancs:=ancs);rw[X3,h3];simp only[JL];rw[<-QiY (A:=JL r (ancs++[Qcm ancs o])) (j:=(ancs++[Qcm ancs o]).length) (by simp),h1,Qnq];simp
 |o::r,ancs,i+1,q,h=>by
  have:=QpI (l:=r) (ancs:=ancs++[Qcm ancs o]) (i:=i) (o:=q) (by simpa using h);simp only[JL];have e:(ancs++[Qcm ancs o]).length+i=ancs.length+(i+1):=by simp;omega
  rw[e] at this;exact this
 |[],_,_,_,h=>by simp at h
theorem Qot {ops:List Oper} (J:Qde 0 ops=true) {j:Nat} {o:Oper} (ho:ops[j]? =some o) {i:Nat}:i∈nth (JL ops []) j↔ ∃e∈Zo o.after.toList,i=e∨i∈nth (JL ops []) e:=by
 have:=QpI (ancs:=[]) ho;rw[Yd,Yl] at this;rw[this];unfold Qcm;rw[QlU];have key:∀e∈Zo o.after.toList,nth ((JL ops []).take j) e=nth (JL ops []) e:=fun e I=>QiY (by simpa using Qbv J j o ho e I)
 constructor
 ·rintro⟨e,h1,h2⟩;rw[key e h1] at h2;exact⟨e,h1,h2⟩
 ·rintro⟨e,h1,h2⟩;refine⟨e,h1,?_⟩;rw[key e h1];exact h2
theorem Qtr {A:List (List Nat)} {j:Nat} (h:A.length<=j):nth A j=[]:=by rw[Qnq,Xe h];rfl
theorem Qyj {ops:List Oper} (I:Qde 0 ops=true):∀(n j:Nat),j<n->∀i∈nth (JL ops []) j,i<j
 |n+1,j,hj,i,hi=>by
  cases ho:ops[j]? with
  |none=>
   have hlen:(JL ops []).length=ops.length:=by simpa using (QfT (l:=ops) (ancs:=[])).2
   have:ops.length<=j:=by simpa using ho
   rw[Qtr (by omega)] at hi;simp at hi
  |some o=>
   have⟨e,h1,h2⟩:=(Qot I ho).1 hi;have hlt:=Qbv I j o ho e h1;rcases h2 with rfl|h2
   ·omega
   ·have:=Qyj I n e (by omega) i h2;omega
 |0,_,hj,_,_=>absurd hj (by omega)
theorem Walked.same (W:Walked P tb cs m ops S0 A R) (I:Qde 0 ops=true):∀(n j:Nat),j<n->j<m->∀i,i∈nth (JL ops []) j->i∈nth A j
 |n+1,j,hj,hm,i,hi=>by
  have⟨o,ho⟩:=W.op hm;have⟨e,h1,h2⟩:=(Qot I ho).1 hi;refine(W.anc hm ho).2 ⟨e,h1,?_⟩;rcases h2 with h2|h2
  ·exact .inl h2
  ·have hlt:=Qbv I j o ho e h1;exact .inr (W.same I n e (by omega) (by omega) i h2)
 |0,_,hj,_,_,_=>absurd hj (by omega)
theorem Qyk {opsA:Array Oper} (hf:QjT m ls opsA.toList) (he:Qde 0 opsA.toList=true) {Q:Exit->Act->World->Prop}:
  ∀(fuel k:Nat) (listed:Array Bool),m<=k->k<=opsA.size->listed.size=opsA.size->unl listed=fuel->(∀i,i<opsA.size->listed.getD i false=decide (i<k))->
  ∀(a:Act) (w:World),wpOps P opsA Q (List.range' k (opsA.size-k)) a w->wpAny P .any opsA Q fuel listed a w:=by
 intro fuel
 induction fuel with
 |zero=>
  intro k listed hm hk hs hu hl a w h;have hkn:k=opsA.size:=by
   apply Nat.le_antisymm hk
   apply Y1a
   intro hlt;have:=hl k hlt;rw[<-QfS (by omega)] at this;have:=QqV (listed:=listed) (i:=k) (by simpa using this);omega
  refine⟨?_,?_⟩
  ·rw[List.eq_nil_iff_forall_not_mem];intro j hj;obtain⟨h1,o,ho,_⟩:=mem_ready.1 hj;have:=QqV h1;omega
  ·subst hkn;simpa[wpOps] using h
 |succ fuel ih=>
  intro k listed hm hk hs hu hl a w h;have huniq:∀j∈Region.ready .any opsA listed,j=k∧k<opsA.size:=by
   intro j hj;obtain⟨h1,o,ho,h2⟩:=mem_ready.1 hj;have hjlt:j<opsA.size:=(Ys.1 ho).1;have hjk:k<=j:=by
    apply Y1a
    intro hlt;have:=hl j hjlt;rw[QfS (by omega)] at h1;rw[h1] at this;simp at this;omega
   refine⟨?_,by omega⟩
   by_cases e:j=k
   ·exact e
   ·exfalso;have hin:=(hf j o (by simpa using ho) (by omega) k (by omega)).resolve_right (fun h=>by omega);obtain⟨e',he',hk'⟩:=(Qot he (by simpa using ho)).1 hin;obtain⟨ed,hed,hb,hon⟩:=Qay.1 he';have hlt:=Qbv he j o (by simpa using ho) e' he';have:=h2 ed (by simpa using hed) hb;rw[hon,hl e' (by omega)] at this;have hek:e'<k:=by simpa using this
    rcases hk' with hk'|hk'
    ·omega
    ·have:=Qyj he (e'+1) e' (by omega) k hk';omega
  by_cases hkn:k=opsA.size
  ·refine⟨fun _=>?_,fun i hi=>?_⟩
   ·subst hkn;simpa[wpOps] using h
   ·have:=(huniq i hi).2;omega
  ·have hklt:k<opsA.size:=by omega
   obtain⟨o,ho⟩:∃o,opsA[k]? =some o:=⟨_,X8 hklt⟩;have hkun:listed.getD k true=false:=by rw[QfS (by omega),hl k hklt];simp
   have hkr:k∈Region.ready .any opsA listed:=by
    refine mem_ready.2 ⟨hkun,o,ho,fun e hee hb=>?_⟩;have hlt:=Qbv he k o (by simpa using ho) e.on (Qay.2 ⟨e,by simpa using hee,hb,rfl⟩);rw[hl e.on (by omega)];simp;omega
   refine⟨fun hnil=>?_,fun i hi=>?_⟩
   ·rw[hnil] at hkr;simp at hkr
   ·obtain⟨rfl,_⟩:=huniq i hi;have hr:List.range' i (opsA.size-i)=i::List.range' (i+1) (opsA.size-(i+1)):=by
     rw[show opsA.size-i=(opsA.size-(i+1))+1 by omega,List.range'_succ]
    rw[hr,wpOps_cons] at h;refine wpOp_mono (fun a w h=>?_) h;refine ih (i+1) _ (by omega) (by omega) (by simpa using hs) ?_ (fun x hx=>?_) a w h
    ·have:=Qon hkun;omega
    ·have:=congrFun (getD_set (listed:=listed) (j:=i) (by omega)) x;rw[this,Qgh,hl x hx]
     by_cases e:x=i
     ·subst e;simp
     ·have:Nat.beq x i=false:=by
       cases hb:Nat.beq x i
       ·rfl
       ·exact absurd (Y9 hb) e
      rw[this];simp;omega
theorem Qyl {opsA:Array Oper} (W:Walked P tb cs m opsA.toList S0 A R) (hf:QjT m ls opsA.toList) (he:Qde 0 opsA.toList=true) {Q:Exit->Act->World->Prop} (hQ:∀e a w,Q e a w->e=.normal) (Inv:(Nat->Bool)->Act->World->Prop)
  (hls:∀i∈ls,∃t s k,Light opsA i t s k∧∀j o,opsA[j]? =some o->j≠i->i∈Zo o.after.toList∨(∃oi,opsA[i]? =some oi∧j∈Zo oi.after.toList)∨Comm opsA t s o)
  (hstep:∀(E:Nat->Bool) (j:Nat) (o:Oper),QgL m A E->j<m->E j=false->opsA.toList[j]? =some o->(∀e∈Zo o.after.toList,E e=true)->∀a w,Inv E a w->∀next:Act->World->Prop,(∀a' w',Inv (Qgh E j) a' w'->next a' w')->wpOp P opsA Q j next a w)
  (hend:∀(E:Nat->Bool) a w,(∀i,i<m->E i=true)->Inv E a w->wpOps P opsA Q (List.range' m (opsA.size-m)) a w):
  ∀(fuel:Nat) (listed:Array Bool),listed.size=opsA.size->unl listed=fuel->(∀i,listed.getD i false=true->i<m)->QgL m A (fun i=>listed.getD i false)->
  ∀(a:Act) (w:World),Inv (fun i=>listed.getD i false) a w->wpAny P .any opsA Q fuel listed a w:=by
 have hml:m<=opsA.size:=by simpa using W.len
 intro fuel
 induction fuel with
 |zero=>
  intro listed hs hu hE hc a w h
  by_cases hall:∀i,i<m->listed.getD i false=true
  ·refine Qyk hf he 0 m listed (Yh _) hml hs hu (fun i hi=>?_) a w (hend _ a w hall h)
   by_cases hi':i<m
   ·simp[hall i hi',hi']
   ·cases hb:listed.getD i false
    ·simp[hi']
    ·exact absurd (hE i hb) hi'
  ·exfalso;have:∃i,i<m∧listed.getD i false=false:=by
    apply Y0u
    intro hno
    apply hall
    intro i hi
    cases hb:listed.getD i false
    ·exact absurd ⟨i,hi,hb⟩ hno
    ·rfl
   obtain⟨i,hi,hb⟩:=this;have:=QqV (listed:=listed) (i:=i) (by rw[QfS (by omega)];exact hb);omega
 |succ fuel ih=>
  intro listed hs hu hE hc a w h
  by_cases hall:∀i,i<m->listed.getD i false=true
  ·refine Qyk hf he (fuel+1) m listed (Yh _) hml hs hu (fun i hi=>?_) a w (hend _ a w hall h)
   by_cases hi':i<m
   ·simp[hall i hi',hi']
   ·cases hb:listed.getD i false
    ·simp[hi']
    ·exact absurd (hE i hb) hi'
  ·have hex:∃i,i<m∧listed.getD i false=false∧∀k,k<i->listed.getD k false=true:=by
    apply Y0u
    intro hno
    apply hall
    intro i
    induction i using Nat.strongRecOn with
    |ind i ih=>
     intro hi
     cases hb:listed.getD i false
     ·exact absurd ⟨i,hi,hb,fun k hk=>ih k hk (by omega)⟩ hno
     ·rfl
   obtain⟨i,hi,hb,hlow⟩:=hex;obtain⟨o,ho⟩:=W.op hi
   by_cases hil:i∈ls
   ·obtain⟨t,s,k,hl,hcm⟩:=hls i hil;have hir:i∈Region.ready .any opsA listed:=by
     refine mem_ready.2 ⟨by rw[QfS (by omega)];exact hb,o,by simpa using ho,fun e hee hbd=>?_⟩;exact hlow _ (W.lt i o ho e.on (Qay.2 ⟨e,by simpa using hee,hbd,rfl⟩))
    obtain⟨h1,oj,hoj,h2⟩:=mem_ready.1 hir;have hrdy:∀e∈Zo oj.after.toList,(fun i=>listed.getD i false) e=true:=fun e hee=>by
     obtain⟨ed,hed,hbd,hon⟩:=Qay.1 hee;rw[<-hon];exact h2 ed (by simpa using hed) hbd
    refine QBI hQ hl hcm fuel listed a w hs hir ?_;refine hstep _ i oj hc hi hb (by simpa using hoj) hrdy a w h _ (fun a' w' h'=>?_);refine ih _ (by simpa using hs) ?_ (fun x hx=>?_) ?_ a' w' ?_
    ·have:=Qon h1;omega
    ·have hx':=congrFun (getD_set (listed:=listed) (j:=i) (by omega)) x;rw[hx',QaY] at hx;rcases hx with hx|hx
     ·exact hE x hx
     ·omega
    ·rw[getD_set (by omega)];exact Qns hc (W.ancIn hc hi (by simpa using hoj) hrdy)
    ·rw[getD_set (by omega)];exact h'
   refine⟨fun hnil=>?_,fun j hj=>?_⟩
   ·have:i∈Region.ready .any opsA listed:=by
     refine mem_ready.2 ⟨by rw[QfS (by omega)];exact hb,o,by simpa using ho,fun e hee hbd=>?_⟩;exact hlow _ (W.lt i o ho e.on (Qay.2 ⟨e,by simpa using hee,hbd,rfl⟩))
    rw[hnil] at this;simp at this
   ·obtain⟨h1,oj,hoj,h2⟩:=mem_ready.1 hj;have hjlt:j<opsA.size:=(Ys.1 hoj).1;have hjm:j<m:=by
     apply Nat.lt_of_not_le
     intro hle;have hin:=(hf j oj (by simpa using hoj) (by omega) i (by omega)).resolve_right (fun h=>hil h.2);obtain⟨e',he',hk'⟩:=(Qot he (by simpa using hoj)).1 hin;obtain⟨ed,hed,hbd,hon⟩:=Qay.1 he';have hle:=h2 ed (by simpa using hed) hbd;rw[hon] at hle;have hem:=hE e' hle;rcases hk' with hk'|hk'
     ·subst hk';rw[hb] at hle;cases hle
     ·have:=hc e' hem hle i (W.same he (e'+1) e' (by omega) hem i hk');dsimp only at this;rw[hb] at this;cases this
    have hrdy:∀e∈Zo oj.after.toList,(fun i=>listed.getD i false) e=true:=fun e hee=>by
     obtain⟨ed,hed,hbd,hon⟩:=Qay.1 hee;rw[<-hon];exact h2 ed (by simpa using hed) hbd
    have hjE:listed.getD j false=false:=by rw[<-QfS (by omega)];exact h1
    refine hstep _ j oj hc hjm hjE (by simpa using hoj) hrdy a w h _ (fun a' w' h'=>?_);refine ih _ (by simpa using hs) ?_ (fun x hx=>?_) ?_ a' w' ?_
    ·have:=Qon h1;omega
    ·have hx':=congrFun (getD_set (listed:=listed) (j:=j) (by omega)) x;rw[hx',QaY] at hx;rcases hx with hx|hx
     ·exact hE x hx
     ·omega
    ·rw[getD_set (by omega)];exact Qns hc (W.ancIn hc hjm (by simpa using hoj) hrdy)
    ·rw[getD_set (by omega)];exact h'
theorem QAM (hT:TOk P tb) {I:Array Oper} (W:Walked P tb cs m I.toList S0 A R) (a5:∀j,j<m->QiX (cs j)=false) (a2:∀(j:Nat) (o:Oper),j<m->I.toList[j]? =some o->o.dst≠none) (hf:QjT m ls I.toList) (he:Qde 0 I.toList=true) {Q:Exit->St->Prop} (hQ:∀e S,Q e S->e=.normal)
  (a1:∀i∈ls,∃t s k,Light I i t s k∧∀j o,I[j]? =some o->j≠i->i∈Zo o.after.toList∨(∃oi,I[i]? =some oi∧j∈Zo oi.after.toList)∨Comm I t s o)
  (N:Qe9 P tb I.toList (I.toList.drop m) (stOf S0 R fun _=>true) fun S=>Q .normal S) (J:Nat) (listed:Array Bool) (hs:listed.size=I.size) (hu:unl listed=J) (hE:∀i,listed.getD i false=true->i<m) (hc:QgL m A (fun i=>listed.getD i false))
  (ρ:Env) (a:Act) (w:World) (h:Sim P B w0 F ρ (stOf S0 R fun i=>listed.getD i false) a w):
  wpAny P .any I (fun e a' w'=>∃ρ' S',Sim P B w0 F ρ' S' a' w'∧Q e S') J listed a w:=by
 refine Qyl W hf he (fun e a w ⟨_,S',_,h⟩=>hQ e S' h) (fun E a w=>∃ρ,Sim P B w0 F ρ (stOf S0 R E) a w) a1 ?_ ?_ J listed hs hu hE hc a w ⟨ρ,h⟩
 ·rintro E j o hc hj Y ho hr a w ⟨ρ,h⟩ next hn;exact QpC hT W rfl hc hj Y ho (a5 j hj) (a2 j o hj ho) hr h (fun ρ' a' w' h'=>hn a' w' ⟨ρ',h'⟩) _
 ·rintro E a w U ⟨ρ,h⟩;rw[Qnu (E':=fun _=>true) (fun i hi=>U i (by rw[<-W.hm];exact hi))] at h;refine QfO hT I Q F _ _ (by simp) (fun i k O=>?_) _ ρ a w h N;rw[Ya] at O;have⟨_,O⟩:=O;simp at O;subst O;simp
def QqX (cs:Nat->Option CS):Nat->Bool
 |0=>true
 |m+1=>match QiX (cs m) with
  |true=>false
  |false=>QqX cs m
theorem Qou {cs:Nat->Option CS}:∀ {m:Nat},QqX cs m=true->∀j,j<m->QiX (cs j)=false
 |m+1,h,j,hj=>by
  simp only[QqX] at h;split at h
  ·cases h
  ·rename_i J
   by_cases I:j=m
   ·subst I;exact J
   ·exact Qou h j (by omega)
 |0,_,j,hj=>absurd hj (by omega)
def Qks (ops:List Oper) (cs:Nat->Option CS) (m:Nat):Bool:=(List.range m).all fun j=>QgJ (cs j)||(match ops[j]? with
 |some o=>o.dst.isSome
 |none=>true)
theorem Ql3 {ops:List Oper} {cs:Nat->Option CS} {m:Nat} (h:Qks ops cs m=true) {j:Nat} {o:Oper} (I:j<m) (ho:ops[j]? =some o) (J:QgJ (cs j)=false):o.dst≠none:=by
 have:=Ye.1 h j (by simpa using I);rw[J,ho] at this;intro e;simp only[e] at this;simp at this
theorem Qsg {x:Option CS} (h:QiX x=false):QgJ x=false:=by
 unfold QgJ;split
 ·rename_i hc;cases h
 ·rfl
def QqY (P:Program) (tb:Tb) (cs:Nat->Option CS) (m:Nat) (ls:List Nat) (ops:List Oper) (S:St) (K:St->Prop):Prop:=
 match Qde 0 ops with
 |true=>stK (QqS ((ops.take m).map (·.dst)) S) fun S0=>evM P tb cs ops ((ops.take m).map (·.dst)) S0 (ops.take m) 0 [] [] fun ancs R=>
   match QhM S0 ancs R with
   |true=>stK (stOf S0 R fun _=>true) fun I=>Qe9 P tb ops (ops.drop m) I fun S=>S.noGds K
   | false => Stuck "drawn region what is made is named too early"
 | false => Stuck "drawn region its end is not forced"
theorem Qts (hT:TOk P tb) (a9:P.follows .mixedOrders=true) {id:Nat} {I:Array Oper} {S:St} {K:St->Prop} (cs:Nat->Option CS) (m:Nat) (ls:List Nat) (b2:m<=I.size) (U:QqX cs m=true) (b3:QjT m ls I.toList) (b4:Qks I.toList cs m=true)
  (a7:∀i∈ls,∃t s k,Light I i t s k∧∀j o,I[j]? =some o->j≠i->i∈Zo o.after.toList∨(∃oi,I[i]? =some oi∧j∈Zo oi.after.toList)∨Comm I t s o)
  (h:QqY P tb cs m ls I.toList S K):DrawP P id I S K:=by
 refine⟨fun B w0 F ρ a w hs=>?_⟩;unfold QqY at h;split at h
 case h_2=>exact h.no.elim
 rename_i a2;rw[QhL] at h;have⟨A,R,h1,h2,_,_,h5,h6⟩:=QlV _ 0 _ _ _ rfl rfl h;split at h5
 case h_2=>exact h5.no.elim
 rename_i a1;rw[QhL] at h5;have W:=QpA (by simpa using h2) (by simpa using b2) h6 a2 a1;have N:Pure w {w with drawn:=w.drawn+1}:=⟨rfl,rfl,rfl,Yh _,fun _ _=>rfl⟩;have a8:Sim P B w0 F ρ (QqS ((I.toList.take m).map (·.dst)) S) a {w with drawn:=w.drawn+1}:=by
  have:=hs.pure N;have⟨base,nt,ts,gs,bs,fs⟩:=S;exact this.congr (fun t v hv=>Qhe hv) (fun g hg=>by simp at hg) (fun _ _=>Iff.rfl)
 refine wp_mono (Q:=fun e a' w'=>∃ρ' S',Sim P B w0 F ρ' S' a' w'∧e=.normal∧S'.noGds K) (wp_region_any a9 ?_) (fun e a' w' h=>by
  have⟨ρ',S',g1,Y,O⟩:=h;have⟨b1,g4,g5⟩:=QeG g1 O;exact⟨ρ',b1,g4,Y,g5⟩)
 have J:(fun i=>(Array.replicate I.size false).getD i false)=fun _=>false:=by
  funext i;rw[Y7,Array.getElem?_replicate];split<;>rfl
 have a6:∀S0:St,S0.gds=[]->stOf S0 R (fun _=>false)=S0:=by
  intro S0 hg;have⟨base,nt,ts,gs,bs,fs⟩:=S0;dsimp only at hg;subst hg;have:∀(i0:Nat) (R:List Rs),QdN (fun _=>false) i0 R=[]∧Qd6 (fun _=>false) i0 R=[]∧JH (fun _=>false) i0 R=[]:=by
   intro i0 R
   induction R generalizing i0 with
   |nil=>exact⟨rfl,rfl,rfl⟩
   |cons r R ih=>
    have⟨g1,Y,O⟩:=ih (i0+1);exact⟨by simp[QdN,g1],by simp[Qd6,Y],by simp[JH,O]⟩
  have⟨g1,Y,O⟩:=this 0 R;unfold stOf;rw[g1,Y,O];rfl
 have b0:unl (Array.replicate I.size false)=I.size:=by
  simp[unl,List.countP_replicate]
 have a5:Qe9 P tb I.toList (I.toList.drop m) (stOf (QqS ((I.toList.take m).map (·.dst)) S) R fun _=>true) fun S=>(fun(e:Exit) (S':St)=>e=.normal∧S'.noGds K) .normal S:=by
  simpa using h5
 exact QAM (B:=B) (w0:=w0) (F:=F) hT W (Qou U) (fun j o hj ho=>Ql3 b4 hj ho (Qsg (Qou U j hj))) b3 a2 (Q:=fun(e:Exit) (S':St)=>e=.normal∧S'.noGds K) (fun e S h=>h.1) a7 a5 I.size (Array.replicate I.size false) (by simp) b0
  (fun i hi=>by rw[congrFun J i] at hi;cases hi) (by rw[J];exact fun i _ hi=>by cases hi) ρ a {w with drawn:=w.drawn+1} (by
   rw[J,a6 _ (by have⟨base,nt,ts,gs,bs,fs⟩:=S;rfl)];exact a8)
def Qsh (ops:List Oper) (t s:Nat) (o:Oper):Bool:=
 (match o.op with
  | .select ..=>false
  |_=>true)&&(o.op.operands.toList.all (fun x=>match x with
   | .tmp u=>!Nat.beq u t
   |_=>true)&&(!isD o.dst t&&(!isD o.dst s&&(match o.guard with
  |none=>true
  |some (jg,_)=>(match ops[jg]? with
   |some I=>!isD I.dst t
   |none=>true)))))
def Qov (ops:List Oper) (i t s:Nat) (I:List Nat):Nat->List Oper->Bool
 |_,[]=>true
 |j,o::r=>(Nat.beq j i||(ZX (Zo o.after.toList) i||(ZX I j||Qsh ops t s o)))&&Qov ops i t s I (j+1) r
def QqZ (ops:List Oper) (i:Nat):Bool:=match ops[i]? with
 |some ⟨some t,.extract (.tmp s) _,_,_,after,none⟩=>Qov ops i t s (Zo after.toList) 0 ops
 |_=>false
theorem QuN {d:Option Nat} {t:Nat} (h:isD d t=false):d≠some t:=fun e=>by subst e;simp[isD] at h
theorem QuO {I:Array Oper} {t s:Nat} {o:Oper} (h:Qsh I.toList t s o=true):Comm I t s o:=by
 simp only[Qsh,Y2,YF] at h;have⟨h1,h2,h3,h4,h5⟩:=h;refine⟨fun cs b e=>(by rw[e] at h1;cases h1),fun x U e=>?_,QuN h3,QuN h4,fun jg w O=>?_⟩
 ·have:=Ye.1 h2 x (by simpa using U);subst e;simp at this
 ·rw[O] at h5;dsimp only at h5
  cases Y:I[jg]? with
  |none=>simp
  |some N=>
   have J:I.toList[jg]? =some N:=by simpa using Y
   rw[J] at h5;dsimp only at h5;simp only[YF] at h5;simpa using QuN h5
theorem Qnx {ops:List Oper} {i t s:Nat} {J:List Nat}:∀ {l:List Oper} {I:Nat},Qov ops i t s J I l=true->∀(j:Nat) (o:Oper),l[j]? =some o->I+j≠i->i∈Zo o.after.toList∨I+j∈J∨Qsh ops t s o=true
 |q::l,I,h,j,o,hj,hne=>by
  simp only[Qov,Y2,Yr] at h
  cases j with
  |zero=>
   simp at hj;subst hj;rcases h.1 with h1|h1|h1|h1
   ·exact absurd (Y9 h1) (by simpa using hne)
   ·exact .inl (ZN.1 h1)
   ·exact .inr (.inl (ZN.1 h1))
   ·exact .inr (.inr h1)
  |succ j=>
   rw[show I+(j+1)=I+1+j by omega] at hne|-;exact Qnx h.2 j o (by simpa using hj) hne
 |[],_,_,_,_,hj,_=>by simp at hj
theorem Qny {I:Array Oper} {i:Nat} (h:QqZ I.toList i=true):∃t s k,Light I i t s k∧∀j o,I[j]? =some o->j≠i->i∈Zo o.after.toList∨(∃N,I[i]? =some N∧j∈Zo N.after.toList)∨Comm I t s o:=by
 unfold QqZ at h;split at h
 ·rename_i t s k ty pos after hi;have J:I[i]? =some ⟨some t,.extract (.tmp s) k,ty,pos,after,none⟩:=by simpa using hi
  refine⟨t,s,k,⟨ty,pos,after,J⟩,fun j o O hne=>?_⟩;rcases Qnx h j o (by simpa using O) (by omega) with h1|h1|h1
  ·exact .inl h1
  ·rw[Yl] at h1;exact .inr (.inl ⟨_,J,h1⟩)
  ·exact .inr (.inr (QuO h1))
 ·cases h
def Qnz:List Oper->List (List Bool)->List (List Bool)->Bool
 |[],_,_=>true
 |o::rest,acc,mk::mks=>QAL (QpF acc (Zo o.after.toList)) mk&&Qnz rest (acc++[mk]) mks
 |_::_,_,[]=>false
theorem QpJ:∀(l:List Oper) (J I:List (List Bool)) (ancs:List (List Nat)),Qnz l I J=true->I.length=ancs.length->(∀i k,QdC (Qfi I i) k=ZX (nth ancs i) k)->
  ∀i k,QdC (Qfi (I++J.take l.length) i) k=ZX (nth (JL l ancs) i) k
 |[],J,I,ancs,_,_,h=>by simpa[JL] using h
 |o::rest,[],I,ancs,h,_,_=>by simp[Qnz] at h
 |o::rest,mk::J,I,ancs,h,h1,hA=>by
  simp only[Qnz,Y2] at h;have⟨e1,U⟩:=h;have e1:=Qoq e1;have O:∀k,QdC mk k=ZX (Qcm ancs o) k:=fun k=>by rw[<-e1];exact Qig hA
  have N:∀i k,QdC (Qfi (I++[mk]) i) k=ZX (nth (ancs++[Qcm ancs o]) i) k:=fun i k=>by
   rw[QlY,QlZ,h1];split
   ·exact O k
   ·exact hA i k
  have:=QpJ rest J (I++[mk]) (ancs++[Qcm ancs o]) U (by simp[h1]) N;intro i k;simpa[JL] using this i k
def QuP (m:Nat) (ls:List Nat) (n:Nat) (M:List (List Bool)):Bool:=(List.range n).all fun k=>Nat.blt k m||(List.range k).all fun i=>QdC (Qfi M k) i||(Nat.blt i m&&ZX ls i)
theorem QnA {m:Nat} {ls:List Nat} {ops:List Oper} {M:List (List Bool)} (h1:Qnz ops [] M=true) (h2:QuP m ls ops.length M=true) (hl:M.length=ops.length):QjT m ls ops:=fun j o ho hm e N=>by
 have I:=QpJ ops M [] [] h1 rfl (fun i k=>rfl);rw[YA,Xz (by omega)] at I;have J:=(Ya.1 ho).1;have:=Ye.1 h2 j (by simpa using J);simp only[Yr] at this;rcases this with h|h
 ·have:j<m:=by simpa[Y0a] using h
  omega
 ·have:=Ye.1 h e (by simpa using N);simp only[Yr,Y2] at this;rcases this with h3|⟨h3,h4⟩
  ·rw[I] at h3;exact .inl (ZN.1 h3)
  ·exact .inr ⟨by simpa[Y0a] using h3,ZN.1 h4⟩
def Qih (m:Nat) (ls:List Nat) (ops:List Oper) (I J:List (List Bool)):Bool:=
 (Qnz ops [] (I++J)&&(QuP m ls ops.length (I++J)&&(Nat.beq (I++J).length ops.length&&(Qde 0 ops&&ls.all (QqZ ops)))))&&(Nat.beq I.length m&&(Ql0 ops ((ops.take m).map (·.dst)) (ops.take m) [] I&&QjR ((ops.take m).map (·.dst)) 0 ((ops.take m).map (·.dst))))
theorem QAN (hT:TOk P tb) (a6:P.follows .mixedOrders=true) {id:Nat} {I:Array Oper} {S:St} {K:St->Prop} (cs:Nat->Option CS) (m:Nat) (ls:List Nat) (J b2:List (List Bool)) (a8:m<=I.size) (N:(QqX cs m&&Qks I.toList cs m)=true)
  (O:Qih m ls I.toList J b2=true) (h:Qor P tb cs m J I.toList S K):DrawP P id I S K:=by
 simp only[Qih,Y2] at O;have⟨⟨b1,a9,a5,he,a2⟩,hl,a7,hd⟩:=O;simp only[Y2] at N;refine Qts hT a6 cs m ls a8 N.1 (QnA b1 a9 (Y9 a5)) N.2 (fun i hi=>Qny (Ye.1 a2 i hi)) ?_;have hl:=Y9 hl;have⟨hs,hA⟩:=QjS (I.toList.take m) J [] [] 0 a7 rfl rfl (fun i k=>rfl);unfold QqY;simp only[he];unfold Qor at h;rw[QhL] at h|-;have a1:(I.toList.take m).length=m:=by simp;omega
 have Y:∀S0 R,Qfa S0 J R=Qi0 S0 (JL (I.toList.take m) []) R:=fun S0 R=>by
  have b0:∀i k,QdC (Qfi J i) k=ZX (nth (JL (I.toList.take m) []) i) k:=fun i k=>by
   have:=hA i k;rwa[YA,a1,Xz (by omega)] at this
  simp only[Qfa,Qi0,b0]
 have key:=QqW (P:=P) (tb:=tb) (cs:=cs) (ops:=I.toList) (dsts:=(I.toList.take m).map (·.dst)) (S0:=QqS ((I.toList.take m).map (·.dst)) S)
  (K:=fun A R=>match QhM (QqS ((I.toList.take m).map (·.dst)) S) A R with
   |true=>stK (stOf (QqS ((I.toList.take m).map (·.dst)) S) R fun _=>true) fun S1=>Qe9 P tb I.toList (I.toList.drop m) S1 fun S=>S.noGds K
   | false => Stuck "drawn region what is made is named too early")
  (K':=fun R=>match Qfa (QqS ((I.toList.take m).map (·.dst)) S) J R with
   |true=>stK (stM (QqS ((I.toList.take m).map (·.dst)) S) R (List.replicate m true)) fun S1=>Qe9 P tb I.toList (I.toList.drop m) S1 fun S=>S.noGds K
   | false => Stuck "drawn region what is made is named too early") (D := (I.toList.take m).map (·.dst)) (I.toList.take m) J 0 [] [] hs rfl (by simp) (fun R' U => by
    rw[Y,QpE U hd,QuI (E:=fun _=>true) fun i hi=>Qos ?_];have:=congrArg List.length U;simp at this;omega)
 exact Eq.mp key h
end Go.Ab
namespace Go.Ab
open Go.RowKit Go.ChangeShapes Go.WideShapes
inductive DRs (w:World) (ow:Nat→Prop):List D→List Value→Prop
 |nil:DRs w ow [] []
 |cons {d v ds vs}:DR w ow d v→DRs w ow ds vs→DRs w ow (d::ds) (v::vs)
def Qq0 (p:TypeId->List D->Prop):List (TypeId×Nat)->List D->Prop
 |[],ds=>ds=[]
 |(t,_)::r,ds=>∃I J,ds=I++J∧p t I∧Qq0 p r J
def QfU (tb:Tb):Nat->TypeId->List D->Prop
 |0,_,_=>True
 |f+1,t,ds=>match tb.find t with
  |some ⟨.bool,_,_,_,_⟩=>∃b,ds=[.bool b]
  |some ⟨.int k,_,_,_,_⟩=>∃n,ds=[.int k n]∧k.min<=n∧n<=k.max
  |some ⟨.str,_,_,_,_⟩=>∃s,ds=[.str s]∧s.size<=140737488355328
  |some ⟨.slice e,_,_,_,_⟩=>(match tb.find e with
   |some ⟨_,_,by_,_,_⟩=>∃n row,ds=[.sl n row]∧n*by_<=140737488355328∧n<=9223372036854775807∧∀i,i<n->QfU tb f e (row i)
   |none=>True)
  |some ⟨.struct fs,_,_,_,_⟩=>Qq0 (QfU tb f) fs ds
  |_=>True
def lay (tb:Tb):Nat->List (TypeId×Nat)->Option Nat
 |o,[]=>some o
 |o,(t,off)::r=>match Nat.beq off o,tb.find t with
  |true,some ti=>lay tb (o+ti.size) r
  |_,_=>none
def QuQ (tb:Tb):Nat->TypeId->Bool
 |0,_=>false
 |f+1,t=>match tb.find t with
  |some ⟨.bool,_,_,_,_⟩=>true
  |some ⟨.int _,_,_,_,_⟩=>true
  |some ⟨.str,_,_,_,_⟩=>true
  |some ⟨.slice e,_,_,_,_⟩=>(match tb.find e with
   |some ti=>Nat.blt 0 ti.size
   |none=>false)&&QuQ tb f e
  |some ⟨.struct fs,sz,_,_,_⟩=>(lay tb 0 fs==some sz)&&fs.all fun p=>QuQ tb f p.1
  |_=>false
variable {P:Program} {tb:Tb} {w:World} {ow:Nat→Prop} {H:Type} {enc:TypeId×Value→H} {base:Nat} {spare:Nat→Bool} {held:Bool}
theorem DRs.len {ds:List D} {vs:List Value} (h:DRs w ow ds vs):ds.length=vs.length:=by
 induction h with
 |nil=>rfl
 |cons _ _ I=>simp[I]
theorem DRs.append {ds J:List D} {vs I:List Value} (h:DRs w ow ds vs) (N:DRs w ow J I):DRs w ow (ds++J) (vs++I):=by
 induction h with
 |nil=>exact N
 |cons a _ O=>exact .cons a O
theorem DRs.get {ds:List D} {vs:List Value} (h:DRs w ow ds vs):∀ {j:Nat} {d:D},ds[j]? =some d->∃v,vs[j]? =some v∧DR w ow d v:=by
 induction h with
 |nil=>intro j d I;simp at I
 |cons a _ J=>
  intro j d I
  cases j with
  |zero=>simp at I;subst I;exact⟨_,rfl,a⟩
  |succ j=>simpa using J (by simpa using I)
theorem QjU (I:TOk P tb) {t:TypeId} {ti:TI} (h:tb.find t=some ti):P.cellsOf t=ti.size∧P.bytesOf t=ti.bytes:=by
 have⟨i,z,h1,h2,h3,_⟩:=(I.ok t ti h).info;simp[Program.cellsOf,Program.bytesOf,h1,h2,h3]
theorem QhN {e:TypeId}:∀ {ds:List (DataW H)} {d:DataW H},d∈ds->∀n∈d.weights P e,n∈DataW.weightsAll P e ds
 |x::r,d,I,n,hn=>by
  simp only[DataW.weightsAll,Yx];rcases Yi.1 I with I|I
  ·subst I;exact .inl hn
  ·exact .inr (QhN I n hn)
 |[],_,I,_,_=>by simp at I
theorem QhO (I:TOk P tb) {t:TypeId} {ti:TI} (h:tb.find t=some ti):∃d,P.underlying t=some d∧kOk ti.kind d=true:=(I.ok t ti h).kind
theorem Qy8 (hT:TOk P tb):∀(f:Nat) (t:TypeId) (cs:List Value) (a5:Nat) (x:DataW H×List MemPlace),QuQ tb f t=true->
  DataW.trod enc P w base spare held a5 t cs=some x->(∀n∈x.1.weights P t,n<=reachBytes)->∃ds,DRs w (fun _=>False) ds cs∧QfU tb f t ds:=by
 intro f
 induction f with
 |zero=>intro t cs a5 x h;simp[QuQ] at h
 |succ f ih=>
  intro t cs a5 x U h hw;simp only[QuQ] at U;split at U
  ·rename_i O;have⟨d,hd,I⟩:=QhO hT O
   cases d<;>simp only[kOk] at I<;>try (cases I;done)
   obtain⟨b,rfl,_⟩:=DataW.trod_bool hd h;exact⟨[.bool b],.cons .bool .nil,by simp only[QfU,O];exact⟨b,rfl⟩⟩
  ·rename_i O;have⟨d,hd,I⟩:=QhO hT O
   cases d<;>simp only[kOk] at I<;>try (cases I;done)
   have I:=YN I;subst I;obtain⟨n,rfl,_,b9⟩:=DataW.trod_int hd h;simp only[Lit.wf,Y2,Y6] at b9;exact⟨[.int _ n],.cons .int .nil,by simp only[QfU,O];exact⟨n,rfl,b9⟩⟩
  ·rename_i O;have⟨d,hd,I⟩:=QhO hT O
   cases d<;>simp only[kOk] at I<;>try (cases I;done)
   obtain⟨s,rfl,rfl,hs⟩:=DataW.trod_string hd h;refine⟨[.str s],.cons .str .nil,?_⟩;simp only[QfU,O];refine⟨s,rfl,?_⟩;have:=hw s.data.toList.length (by unfold DataW.weights;exact XF.2 rfl);have e:s.data.toList.length=s.size:=rfl;rw[e] at this;unfold reachBytes at this;omega
  ·rename_i e _ _ _ _ O;have⟨d,hd,I⟩:=QhO hT O
   cases d<;>simp only[kOk] at I<;>try (cases I;done)
   have I:=eq_of_beq I;subst I;rw[Y2] at U;have⟨N,c1⟩:=U;split at N
   case h_2=>cases N
   rename_i ti b0;have⟨kk,sz,byt,zz,qq⟩:=ti;have N:0<sz:=by simpa[Y0a] using N
   have⟨a2,c4⟩:=QjU hT b0;dsimp only at a2 c4;rcases Go.Deep.open_slice hd h with ⟨rfl,_⟩|⟨a,len,cap,m,n,Df,Pl,rfl,_,c5,c6,hm,rfl,hi⟩
   ·refine⟨[.sl 0 fun _=>[]],.cons (.sl0 rfl) .nil,?_⟩;simp only[QfU,O,b0];exact⟨0,_,rfl,by omega,by omega,fun i hi=>absurd hi (Nat.not_lt_zero _)⟩
   ·have d1:len<=m:=by rw[hm];split<;>omega
    have d4:len*byt<=reachBytes:=by
     have:=hw ((((List.range len).map Df).length+((List.range (m-len)).map fun j=>Df (len+j)).length)*P.bytesOf e) (by simp[DataW.weights,hd]);simp only[Yb,Y13] at this;rw[c4,show len+(m-len)=m by omega] at this;exact Xl (Yf _ d1) this
    have d0:∀i,i<len->∃(y:List D×List Value),DRs w (fun _=>False) y.1 y.2∧QfU tb f e y.1∧y.2.length=sz∧∀j,j<sz->w.cell? (a.add (i*sz+j))=y.2[j]?:=fun i J=>by
     have⟨b6,h1,h2⟩:=hi i (by omega);rw[a2] at h1;have⟨_,g2,g3⟩:=World.cells?_some h1;have⟨ds,g4,g5⟩:=ih e b6 n _ c1 h2 (fun k I=>hw k (by
      simp only[DataW.weights,hd,Yi,Yx];exact .inr (.inl (QhN (Yo.2 ⟨i,by simpa using J,rfl⟩) k I))))
     exact⟨(ds,b6),g4,g5,g2,fun j hj=>by rw[<-Go.Deep.add_add];exact g3 j hj⟩
    have⟨Y,hY⟩:=Go.Deep.choose_lt (α:=List D×List Value) d0;refine⟨[.sl len fun i=>(Y i).1],?_,?_⟩
    ·refine .cons ?_ .nil
     by_cases h0:len=0
     ·subst h0;exact .sl0 rfl
     ·have⟨b,off,b7⟩:=a;have a8:b7=none∧b<w.heap.size:=by
       have⟨g1,_,g3,g4⟩:=hY 0 (by omega);have:=g4 0 N;rw[Y5 (by omega)] at this;have e0:(0*sz+0)=0:=by omega
       rw[e0] at this;exact⟨by simpa[Addr.add] using World.cell?_spot this,by have:=Quq this;simpa[Addr.add] using this⟩
      obtain⟨rfl,hb⟩:=a8;have b8:∀k,(⟨b,off,none⟩:Addr).add k=⟨b,off+k,none⟩:=fun k=>by
       unfold Addr.add;split
       ·rename_i h;subst h;rfl
       ·rfl
      refine .sl (sz:=sz) (fun i j=>(Y i).2.getD j undef) (fun h=>h) hb (fun i J=>?_) (fun i j d J b1=>?_) (fun i j d J b1=>?_) c5
      ·have⟨g1,_,g3,_⟩:=hY i J;rw[g1.len,g3]
      ·have⟨g1,_,g3,g4⟩:=hY i J;have⟨v,hv,_⟩:=g1.get b1;have hj:j<sz:=by have:=(Ya.1 hv).1;omega
       have:=g4 j hj;rw[b8,<-Xk] at this;rw[this,hv,Y0,hv];rfl
      ·have⟨g1,_,g3,g4⟩:=hY i J;have⟨v,hv,hdr⟩:=g1.get b1;rw[Y0,hv];exact hdr
    ·simp only[QfU,O,b0];unfold reachBytes at d4;unfold maxLen at c6;exact⟨len,_,rfl,by omega,by omega,fun i J=>(hY i J).2.1⟩
  ·rename_i fs sz _ _ _ O;have⟨d,hd,I⟩:=QhO hT O
   cases d<;>simp only[kOk] at I<;>try (cases I;done)
   rename_i fields;rw[Y2] at I;have c3:=eq_of_beq I.1;rw[Y2] at U;have⟨a1,c2⟩:=U;have a1:=eq_of_beq a1;have⟨a2,_⟩:=QjU hT O;dsimp only at a2;obtain⟨xs,n,_,rfl,c0,d2,hg⟩:=DataW.trod_struct hd h;rw[a2] at c0;simp only[QfU,O];have key:∀(L:List (TypeId×Nat)) (k o:Nat),(∀i,L[i]? =fs[k+i]?)->lay tb o L=some sz->∃ds,DRs w (fun _=>False) ds (cs.drop o)∧Qq0 (QfU tb f) L ds:=by
    intro L
    induction L with
    |nil=>
     intro k o _ hl;simp only[lay,Yc] at hl;refine⟨[],?_,rfl⟩;rw[List.drop_eq_nil_of_le (by omega)];exact .nil
    |cons p L c7=>
     intro k o a7 hl;have⟨ft,off⟩:=p;simp only[lay] at hl;split at hl
     case h_2=>cases hl
     rename_i ti hb c8;have hb:=Y9 hb;subst hb;have⟨b2,g1,g2⟩:=c7 (k+1) (off+ti.size) (fun i=>by
      have:=a7 (i+1);simp only[Y0c] at this;rw[this];congr 1;omega) hl
     have b4:fs[k]? =some (ft,off):=by have:=a7 0;simpa using this.symm
     rw[c3,Yu] at b4;have⟨fd,a9,he⟩:=Yg.1 b4;simp only[YX] at he;obtain⟨rfl,rfl⟩:=he;have a6:fields[k]? =some fd:=by simpa using a9
     have hx:=hg k fd a6;have b5:k<xs.length:=by rw[d2];exact(Ys.1 a6).1
     rw[Y5 b5] at hx;have⟨d3,_⟩:=QjU hT c8;rw[d3] at hx;have⟨b3,g3,g4⟩:=ih _ _ _ _ (Ye.1 c2 (fd.type,fd.offset) (by rw[c3];exact Yo.2 ⟨fd,Xb a9,rfl⟩)) hx (fun j hj=>hw j (by
      simp only[DataW.weights,hd];refine DataW.weights_mem_each (j:=k) (t:=fd.type) (d:=xs[k].1) (by simp[a9]) (by simp[Y5 b5]) j hj))
     refine⟨b3++b2,?_,⟨b3,b2,rfl,g4,g2⟩⟩;have:=g3.append g1;rw[show cs.drop (fd.offset+ti.size)=(cs.drop fd.offset).drop ti.size by rw[List.drop_drop],Y01] at this;exact this
   have⟨ds,g1,g2⟩:=key fs 0 0 (fun i=>by rw[Yl]) a1;exact⟨ds,by simpa using g1,g2⟩
  ·cases U
end Go.Ab
namespace Go.Ab
open Go.RowKit Go.ChangeShapes Go.WideShapes
variable {P:Program} {tb:Tb} {w:World} {ow:Nat→Prop} {H:Type} {enc:TypeId×Value→H} {base:Nat} {spare:Nat→Bool} {held:Bool}
def Qy9 (tb:Tb) (t:TypeId) (ds:List D):V:=match tb.find t with
 |some ⟨.struct _,_,_,_,_⟩=>.agg (ds.map .d)
 |_=>(match ds with
  |[d]=>.d d
  |_=>.any)
def Qow (tb:Tb):List TypeId->List (List D)->List V
 |t::ts,ds::r=>Qy9 tb t ds::Qow tb ts r
 |_,_=>[]
def QfV (tb:Tb) (f:Nat):List TypeId->List (List D)->Prop
 |[],[]=>True
 |t::ts,ds::r=>QfU tb f t ds∧QfV tb f ts r
 |_,_=>False
theorem Qk7 {t:TypeId} {ds:List D} {v:Value} {ρ:Env} (I:∀fs a b c d,tb.find t≠some ⟨.struct fs,a,b,c,d⟩) (h:DRs w ow ds [v]):VR w ow ρ (Qy9 tb t ds) v:=by
 cases h with|cons h1 h2=>
 cases h2
 unfold Qy9;split
 ·rename_i J;exact absurd J (I _ _ _ _ _)
 ·exact .d h1
theorem QwR (hT:TOk P tb) {f:Nat} {t:TypeId} {v:Value} {d:DataW H} {p:List MemPlace} {r:Reach} {b0:Nat} (ρ:Env) (N:QuQ tb f t=true) (hv:Value.okWide P w r b0 t v)
  (h:DataW.Trod enc P w base spare held t v d p) (hw:∀n∈d.weights P t,n<=reachBytes):∃ds,QfU tb f t ds∧VR w (fun _=>False) ρ (Qy9 tb t ds) v:=by
 have⟨fuel,hf⟩:=h;have⟨ds,h1,h2⟩:=Qy8 hT f t _ _ _ N hf hw;refine⟨ds,h2,?_⟩
 cases f with
 |zero=>simp[QuQ] at N
 |succ f=>
  simp only[QuQ] at N;split at N
  ·rename_i I;have⟨d,O,J⟩:=QhO hT I
   cases d<;>simp only[kOk] at J<;>try (cases J;done)
   obtain⟨b,rfl⟩:=okWide_bool O hv;exact Qk7 (fun _ _ _ _ _ e=>by rw[I] at e;cases e) h1
  ·rename_i I;have⟨d,O,J⟩:=QhO hT I
   cases d<;>simp only[kOk] at J<;>try (cases J;done)
   obtain⟨b,rfl⟩:=okWide_int O hv;exact Qk7 (fun _ _ _ _ _ e=>by rw[I] at e;cases e) h1
  ·rename_i I;have⟨d,O,J⟩:=QhO hT I
   cases d<;>simp only[kOk] at J<;>try (cases J;done)
   obtain⟨b,rfl⟩:=okWide_string O hv;exact Qk7 (fun _ _ _ _ _ e=>by rw[I] at e;cases e) h1
  ·rename_i I;have⟨d,O,J⟩:=QhO hT I
   cases d<;>simp only[kOk] at J<;>try (cases J;done)
   obtain⟨a,l,c,rfl⟩:=okWide_slice O hv;exact Qk7 (fun _ _ _ _ _ e=>by rw[I] at e;cases e) h1
  ·rename_i I;have⟨d,O,J⟩:=QhO hT I
   cases d<;>simp only[kOk] at J<;>try (cases J;done)
   obtain⟨cs,rfl,_⟩:=okWide_struct O hv;have h1:DRs w (fun _=>False) ds cs.toList:=h1;have U:=h1.len;unfold Qy9;rw[I];refine .agg (by simp[U]) (fun j hj=>?_) (fun j u hu=>?_)
   ·have:ds[j]? =some (ds[j]'(by simp at U;omega)):=Y5 _;have⟨x,hx,hdr⟩:=h1.get this;have Y:cs[j]? =some x:=by simpa using hx
    rw[Y7,Y];exact hdr.oneCell
   ·rw[Yu] at hu;obtain⟨d,a1,rfl⟩:=Yg.1 hu;have⟨x,hx,hdr⟩:=h1.get a1;have Y:cs[j]? =some x:=by simpa using hx
    rw[Y7,Y];exact .d hdr
  ·cases N
theorem QpK (hT:TOk P tb) {f:Nat} (ρ:Env):∀ {ts:List TypeId} {vs:List Value} {ds:List (DataW H)} {ps:List MemPlace},(∀t∈ts,QuQ tb f t=true)->
  (∀(j:Nat) t v,ts[j]? =some t->vs[j]? =some v->∃r b0,Value.okWide P w r b0 t v)->DataW.TrodAll enc P w base spare held ts vs ds ps->
  (∀(j:Nat) t d,ts[j]? =some t->ds[j]? =some d->∀n∈d.weights P t,n<=reachBytes)->
  ∃I,QfV tb f ts I∧vs.length=(Qow tb ts I).length∧∀(j:Nat) u,(Qow tb ts I)[j]? =some u->VR w (fun _=>False) ρ u (vs.getD j undef)
 |[],vs,ds,ps,_,_,h,_=>by
  obtain⟨rfl,_,_⟩:=trodAll_nil h;exact⟨[],trivial,rfl,fun j u J=>by simp[Qow] at J⟩
 |t::ts,vs,ds,ps,hok,hv,h,hw=>by
  obtain⟨v,vs',d,ds',p,q,rfl,rfl,rfl,h1,h2⟩:=trodAll_cons h;have⟨r,b0,Y⟩:=hv 0 t v rfl rfl;have⟨x,g1,g2⟩:=QwR hT ρ (hok t (by simp)) Y h1 (hw 0 t d rfl rfl);have⟨I,g3,g4,g5⟩:=QpK hT ρ (fun u J=>hok u (by simp[J])) (fun j t' v' U O=>hv (j+1) t' v' (by simpa using U) (by simpa using O)) h2 (fun j t' d' U N=>hw (j+1) t' d' (by simpa using U) (by simpa using N));refine⟨x::I,⟨g1,g3⟩,by simp[Qow,g4],fun j u J=>?_⟩
  cases j with
  |zero=>simp[Qow] at J;subst J;simpa using g2
  |succ j=>simpa using g5 j u (by simpa[Qow] using J)
theorem Qi1 (hl:laidOutB P=true) {W J:World} (hb:Below W.heap.size W J):∀ {ts:List TypeId} {vs:List Value} {ds:List (DataW H)} {ps:List MemPlace},
  (∀t∈ts,P.readableRec t=true∧t<P.types.size)->(∀x∈ps,x.block<W.heap.size)->
  DataW.TrodAll enc P W 0 (fun _=>true) true ts vs ds ps->DataW.TrodAll enc P J 0 (fun b=>decide (b<W.heap.size)) true ts vs ds ps
 |[],vs,ds,ps,_,_,h=>by
  obtain⟨rfl,rfl,rfl⟩:=trodAll_nil h;rfl
 |t::ts,vs,ds,ps,hr,hlt,h=>by
  obtain⟨v,vs',d,ds',p,q,rfl,rfl,rfl,h1,h2⟩:=trodAll_cons h;exact⟨p,q,Below.trod hl (hr t (by simp)).1 (hr t (by simp)).2 h1 hb (fun x I=>hlt x (by simp[I])),Qi1 hl hb (fun u N=>hr u (by simp[N])) (fun x I=>hlt x (by simp[I])) h2,rfl⟩
theorem Ql4:∀ {ts:List TypeId} {vs:List Value} {ds:List (DataW H)} {ps:List MemPlace},DataW.TrodAll enc P w base spare held ts vs ds ps->ds.length=ts.length
 |[],vs,ds,ps,h=>by obtain⟨rfl,rfl,rfl⟩:=trodAll_nil h;rfl
 |t::ts,vs,ds,ps,h=>by
  obtain⟨v,vs',d,ds',p,q,rfl,rfl,rfl,h1,h2⟩:=trodAll_cons h;simp[Ql4 h2]
theorem QwS {C:Checked} {f:FuncId} {fn:Func} {s:ChangeSpec} {fu:Nat} {tb:Tb} {rt:TypeId} (hT:TOk C.prog tb)
  (hl:laidOutB C.prog=true) (Y:fn.params.toList.all (fun t=>C.prog.readableRec t&&decide (t<C.prog.types.size))=true) (b0:fn.params.toList.all (QuQ tb fu)=true) (I:s.vars=[])
  (a8:fn.resultTypes=#[rt]) (U:C.prog.underlying rt=some .bool)
  (a1:∀ds:List (DataW H),ds.length=fn.params.toList.length->s.fn H ds={results:=[.lit (.bool true)],args:=ds})
  (b1:∀N,QfV tb fu fn.params.toList N->PureC C.prog f (Qow tb fn.params.toList N) (.d (.bool true)) [])
  (W:World) (base:Nat) (args:Array Value) (ds gs:List (DataW H)) (J:List MemPlace)
  (a5:∀(j:Nat) t v,fn.params[j]? =some t->args[j]? =some v->Value.okWide C.prog W .any base t v)
  (hW:DataW.Whole enc C.prog fn.params.toList s.vars false W args.toList ds gs J)
  (b4:(DataW.weightsEach C.prog (fn.params.toList++s.plain.varTypes C.prog) (ds++gs)).all (·<=reachBytes)=true)
  (a2:TabB C.prog (fun b=>b<W.heap.size) W):
  Calls C.prog f args W fun e W'=>∃v,e=.returned v∧s.post enc C.prog fn false true false false W args v W':=by
 have a7:=hW;obtain⟨p,q,hA,hV,rfl,hfz,hnd⟩:=hW;have b2:gs=[]∧q=[]:=by
  rw[I] at hV;exact trodVars_none hV
 obtain⟨rfl,rfl⟩:=b2;have b3:∀x∈p,x.block<W.heap.size:=fun x hx=>a7.lt x (by simp[hx]);have a9:=Ql4 hA;have⟨N,g1,g2,g3⟩:=QpK hT (f:=fu) (fun _=>⟨0,0,0,0,0,true⟩) (fun t O=>Ye.1 b0 t O) (fun j t v O hv=>⟨_,_,a5 j t v (by simpa using O) (by simpa using hv)⟩) hA
  (fun j t d O hd n hn=>by
   have hj:j<fn.params.toList.length:=(Ya.1 O).1;have:=Ye.1 b4 n (DataW.weights_mem_each (j:=j) (t:=t) (d:=d) (by rw[YS hj];exact O) (by rw[YS (by omega)];exact hd) n hn);simpa using this)
 have hc:=b1 N g1;refine(hc.out W args (fun _=>⟨0,0,0,0,0,true⟩) ⟨by simpa using g2,fun j u hu=>?_⟩ a2).mono fun e W' he=>?_
 ·have:=g3 j u hu;rw[Y0] at this;rw[Y7];simpa using this
 ·obtain⟨v,ρ,rfl,hp,hv,_⟩:=he;have hb:=hv.bool_inv;subst hb;have a6:=hp.below;have hs:=a1 (ds++[]) (by simp[a9]);rw[Xp] at hs;refine⟨_,rfl,⟨ds,[],p++[],[],p,[],a7,?_,?_,?_,a6.frame _,fun h=>by cases h⟩⟩
  ·rw[Xp,hs,a8];exact trodAll_mk1 ⟨1,by simp[DataW.trod,Value.cells,U]⟩
  ·rw[Xp,hs];exact Qi1 hl a6 (fun t O=>by have:=Ye.1 Y t O;simpa using this) b3 hA
  ·rw[Xp,hs,I];rfl
theorem QjV {a:Assume} {C:Checked} {os:Os} {f:FuncId} {fn:Func} {s:ChangeSpec} {N:List PathCond} {apart Y J a1:Bool} {X:World->Array Value->Prop}
  (hX:∀(w w':World) (args:Array Value),w.heap=w'.heap->X w args->X w' args)
  (own:ownKnob C.prog.godebug=none) (U:os.Started) (a5:C.prog.inits.idxOf? f=none) (b2:C.prog.funcs[f]? =some fn)
  (a2:∃(w:World) (tape:Tape) (i:Input),w.os=os∧(w.forCall tape i).Shaped C.prog∧i.vars=[]∧Input.okWide C.prog (w.forCall tape i) .any w.heap.size f i∧
   ((s.pre enc C.prog fn N apart (w.forCall tape i).memory i.args∧X (w.forCall tape i).memory i.args)∧sizedMet enc C.prog fn (OpenSpec.ofChange s) apart (w.forCall tape i).memory i.args)∧a.holds C.prog (lone (Frame.enter C.prog f i.args .normal) [] (w.forCall tape i)))
  (O:∀(W:World) (base:Nat) (args:Array Value) (ds gs:List (DataW H)) (I:List MemPlace),
   (∀(j:Nat) t v,fn.params[j]? =some t->args[j]? =some v->Value.okWide C.prog W .any base t v)->
   DataW.Whole enc C.prog fn.params.toList s.vars apart W args.toList ds gs I->
   N.all (PathCond.test C.prog ⟨fn.params.toList,ds,s.plain.varTypes C.prog,gs⟩)=true->
   (DataW.weightsEach C.prog (fn.params.toList++s.plain.varTypes C.prog) (ds++gs)).all (·<=reachBytes)=true->X W args->W.ShapedOpen C.prog->
   a.holds C.prog (lone (Frame.enter C.prog f args .normal) [] W)->
   Calls C.prog f args W fun e W'=>∃v,e=.returned v∧s.post enc C.prog fn apart Y J a1 W args v W'):
  ReturnsInHanded a C os f .any (fun w args=>(s.pre enc C.prog fn N apart w args∧X w args)∧sizedMet enc C.prog fn (OpenSpec.ofChange s) apart w args) (s.post enc C.prog fn apart Y J a1):=by
 refine returnsInHanded_of_calls own U a5 a2 ?_;intro w tape i _ b0 _ b3 a8 a6;have⟨_,_,_,b4,a9,_,_,_,_,a7⟩:=b3;have e:b4=fn:=YC (a9.symm.trans b2);subst e;have⟨⟨⟨ds,gs,I,hw,hc⟩,hx⟩,hz⟩:=a8;have b1:=DataW.Whole.of_heap (w':=w.forCall tape i) (by rfl) hw;refine(O (w.forCall tape i) w.heap.size i.args ds gs I a7 b1 hc (hz.weights hw) (hX _ _ _ (by rfl) hx) b0 a6).mono fun e W' ⟨v,he,hp⟩=>?_;subst he;exact ChangeSpec.post_blind hp
end Go.Ab
namespace Go.Ab
open Go.RowKit
variable {P:Program} {tb:Tb}
noncomputable def Qfk (f:Func):Code:=f.body.getD .skip
@[reducible] def rows {α:Type} [Inhabited α] (enc:α→List D) (xs:List α):Nat→List D:=fun i=>enc (xs.getD i default)
@[reducible] def slD {α:Type} [Inhabited α] (enc:α→List D) (xs:List α):D:=.sl xs.length (rows enc xs)
@[reducible] def i64 (n:Int):V:=.d (.int .i64 n)
@[reducible] def bl (b:Bool):V:=.d (.bool b)
@[reducible] def QeR (n:Int):List D:=[.int .i64 n]
@[reducible] def Qo (n:Int):List D:=[.int .u8 n]
theorem Quk {n:Nat} {xs:List Int}:Qr0 n (rows Qo xs):=fun _ _=>rfl
def Qox (n:Int):Prop:=0<=n∧n<=255
structure DLe (d d':D):Prop where
 out:∀w ow x,DR w ow d x→DR w ow d' x
theorem DLe.refl (d:D):DLe d d:=⟨fun _ _ _ h=>h⟩
def DsLe:List D->List D->Prop
 |[],[]=>True
 |d::r,d'::r'=>DLe d d'∧DsLe r r'
 |_,_=>False
theorem DsLe.refl:∀(ds:List D),DsLe ds ds
 |[]=>trivial
 |d::r=>⟨.refl d,.refl r⟩
theorem DsLe.len:∀ {ds I:List D},DsLe ds I->ds.length=I.length
 |[],[],_=>rfl
 |_::_,_::_,h=>by simp[DsLe.len h.2]
 |[],_::_,h=>h.elim
 |_::_,[],h=>h.elim
theorem DsLe.get:∀ {ds I:List D} {j:Nat} {d':D},DsLe ds I->I[j]? =some d'->∃d,ds[j]? =some d∧DLe d d'
 |d::r,d'::r',0,u,h,hu=>by simp at hu;subst hu;exact⟨d,rfl,h.1⟩
 |d::r,d'::r',j+1,u,h,hu=>by simpa using DsLe.get h.2 (by simpa using hu)
 |[],[],_,_,_,hu=>by simp at hu
 |[],_::_,_,_,h,_=>h.elim
 |_::_,[],_,_,h,_=>h.elim
theorem DLe.sl {n:Nat} {row I:Nat->List D} (h:∀i,i<n->DsLe (row i) (I i)):DLe (.sl n row) (.sl n I):=⟨fun w ow x U=>by
 cases U with
 |sl0 h0=>exact .sl0 h0
 |sl vals h1 h2 h3 h4 h5 h6=>
  refine .sl vals h1 h2 (fun i hi=>by rw[<-(h i hi).len];exact h3 i hi) (fun i j d hi J=>?_) (fun i j d hi J=>?_) h6
  ·have⟨N,O,_⟩:=(h i hi).get J;exact h4 i j N hi O
  ·have⟨N,O,Y⟩:=(h i hi).get J;exact Y.out _ _ _ (h5 i j N hi O)⟩
theorem VLe.d {d d':D} (h:DLe d d'):VLe (.d d) (.d d'):=⟨fun w ow ρ x I=>by cases I with|d I=>exact .d (h.out _ _ _ I)⟩
theorem PureC.le {f:FuncId} {J vs:List V} {res:V} {nb:List Nb} (h:CellsLe J vs) (k:PureC P f vs res nb):PureC P f J res nb:=by
 refine⟨k.can,k.flat,k.rows,k.dist,k.ids,fun w vals ρ0 N U=>k.out w vals ρ0 ?_ U⟩;have⟨h1,h2⟩:=h.get;refine⟨by rw[N.1,h1],fun j v Y=>?_⟩;have⟨u,O,I⟩:=h2 j v Y;exact I.out _ _ _ _ (N.2 j u O)
theorem QwT {α:Type} [Inhabited α] {enc:α->List D} {ok:α->Prop} {f:Nat} {t e:TypeId} {z1 z2 z3 z4:_} {k1 k2 J Y O:_} (U:tb.find t=some ⟨.slice e,z1,z2,z3,z4⟩) (he:tb.find e=some ⟨k1,k2,J,Y,O⟩)
  (I:∀ds,QfU tb f e ds->∃x,ok x∧DsLe ds (enc x)) {ds:List D} (h:QfU tb (f+1) t ds):
  ∃xs:List α,(∀x∈xs,ok x)∧xs.length*J<=140737488355328∧xs.length<=9223372036854775807∧DsLe ds [slD enc xs]:=by
 simp only[QfU,U,he] at h;obtain⟨n,row,rfl,h1,h2,h3⟩:=h;have⟨F,N⟩:=Go.Deep.choose_lt (α:=α) (fun i hi=>I (row i) (h3 i hi));refine⟨(List.range n).map F,fun x hx=>?_,by simpa using h1,by simpa using h2,⟨?_,trivial⟩⟩
 ·obtain⟨i,hi,rfl⟩:=Yo.1 hx;exact(N i (by simpa using hi)).1
 ·have:slD enc ((List.range n).map F)=.sl n (rows enc ((List.range n).map F)):=by simp[slD]
  rw[this];refine DLe.sl fun i hi=>?_;have e:rows enc ((List.range n).map F) i=enc (F i):=by
   simp[rows,Y0,Yu,List.getElem?_range hi]
  rw[e];exact(N i hi).2
theorem Qtt {f:Nat} {t:TypeId} {N I z3 z4:_} (J:tb.find t=some ⟨.int .u8,N,I,z3,z4⟩) {ds:List D} (h:QfU tb (f+1) t ds):∃n:Int,Qox n∧DsLe ds [.int .u8 n]:=by
 simp only[QfU,J] at h;obtain⟨n,rfl,h1,h2⟩:=h;exact⟨n,⟨h1,h2⟩,.refl _⟩
theorem Ql {n:Int} (h1:-9223372036854775808<=n) (h2:n<=9223372036854775807):IntKind.i64.wrap n=n:=by
 have e1:IntKind.bits .i64=64:=rfl;have J:IntKind.signed .i64=true:=rfl;unfold IntKind.wrap;simp only[e1,J,Yn]
 by_cases I:0<=n
 ·rw[Int.emod_eq_of_lt I (by omega)];split
  ·rename_i h;simp at h;omega
  ·rfl
 ·have e:n%2^64=n+2^64:=by omega
  rw[e];split
  ·omega
  ·rename_i h;simp at h;omega
theorem VLe.osl {id off len I J:Nat} (h:off=I) (h2:len=J):VLe (.osl id off len) (.osl id I J):=.of (by rw[h,h2])
theorem Qoy {S:St} {al:List (Nat×Bool)}:∀ {l:List (Nat×Bool)} {p:Prop},p->QaL S al l p
 |[],p,h=>h
 |(k,w)::r,p,h=>by
  simp only[QaL];split
  ·exact fun _=>Qoy h
  ·exact Qoy h
theorem Qdf {S:St} {al:List (Nat×Bool)}:∀ {l:List (Nat×Bool)} {p q:Prop},(p->q)->QaL S al l p->QaL S al l q
 |[],p,q,h,k=>h k
 |(i,w)::r,p,q,h,k=>by
  simp only[QaL] at k|-;split
  ·rename_i b hb;rw[hb] at k;exact fun e=>Qdf h (k e)
  ·rename_i I;split at k
   ·rename_i b hb;exact absurd hb (I b)
   ·exact Qdf h k
theorem Qza {base nt:Nat} {ts:List (Nat×V)} {gs:List Gd} {bs:List (Nat×Blk)} {fs:List Fr} {f:FuncId} {args args':List V} {res:V} {nb:List Nb} {K:V->St->Prop} (k:Nat) (h:PureC P f args' res nb)
  (hv:Qb6 (Qk bs) args=some args') (hm:(nb.all fun b=>!(St.mentions ⟨base,nt,ts,gs,bs,fs⟩ (b.id+k)))=true) (I:Qaq (res.shift k) fun v=>Qa5 (nb.map (Nb.ent k)++bs) fun bs=>K v ⟨base,nt,ts,gs,bs,fs⟩):
  CallP P f args ⟨base,nt,ts,gs,bs,fs⟩ K:=by
 rw[QC,Z4] at I;exact Qr9 k h hv (fun b hb=>by have:=Ye.1 hm b hb;simpa using this) I
theorem QyT (N : TOk P tb) {base nt : Nat} {ts : List (Nat × V)} {gs : List Gd} {bs : List (Nat × Blk)} {fs : List Fr} {f : FuncId} {fn : Func} {c : Code} {args : List V} {K : V -> St -> Prop} (b : Nat) (J : P.funcs[f]? = some fn) (hb : fn.body = some c) (I : (fn.name == "runtime.NumGoroutine") = false) (hl : Nat.ble args.length fn.ntmps = true)
  (h:wpc P tb c ⟨b,fn.ntmps,Qoe 0 args,[],bs,⟨ts,gs⟩::fs⟩ (QBy tb fn.results.toList base nt K)):CallP P f args ⟨base,nt,ts,gs,bs,fs⟩ K:=
 Qtj N b J hb I hl h
theorem Qp {g:FuncId} {blk:Nat->Option Blk} {vs args':List V} {res:V} {nb:List Nb} (h:PureC P g args' res nb) (hv:Qb6 blk vs=some args'):CallD P id g blk vs res nb:=⟨h.can,⟨args',hv,h⟩⟩
theorem QJ {S : St} {al l : List (Nat × Bool)} {g : FuncId} {fn : Func} {blk : Nat -> Option Blk} {vs args' : List V} {res : V} {nb : List Nb} (J : P.funcs[g]? = some fn) (I : (fn.name == "runtime.NumGoroutine") = false) (hb : fn.body.isNone = false)
  (hv:Qb6 blk vs=some args') (h:QaL S al l (PureC P g args' res nb)):CallD P (QaL S al l) g blk vs res nb:=⟨⟨fn,J,I,hb⟩,Qdf (fun k=>⟨args',hv,k⟩) h⟩
theorem QwU {S S' : St} {al l : List (Nat × Bool)} {f : FuncId} {fn : Func} {args args' : List V} {res : V} {K : V -> St -> Prop} {key : Nat} {want : Bool} (O : P.funcs[f]? = some fn) (N : (fn.name == "runtime.NumGoroutine") = false) (hb : fn.body.isNone = false)
  (hv:Qb6 (Qk S'.blks) args=some args') (I:Qcv res=true) (hm:∀id,res.mentions id=false) (h:QaL S al l (PureC P f args' res [])) (J:K res S'):CallG P (QaL S al l) (QeQ S' key want) f args S' K:=
 Qpx ⟨fn,O,N,hb⟩ h (fun _ _=>Qdf) (fun _=>Qr4) I hm hv J
theorem Qzb {a b:Nat} (h:a<=b):(2:Int)^a<=2^b:=by
 have h1:=Xd (show 0<2 by omega) h;have e:∀k:Nat,(2:Int)^k=((2^k:Nat):Int):=fun k=>by simp
 rw[e,e];exact Int.ofNat_le.2 h1
theorem Qoz {f:Nat} {t:TypeId} {ts:List TypeId} {I:List (List D)} (h:QfV tb f (t::ts) I):∃a r,I=a::r∧QfU tb f t a∧QfV tb f ts r:=by
 cases I with
 |nil=>exact h.elim
 |cons a r=>exact⟨a,r,rfl,h.1,h.2⟩
theorem QpL {f:Nat} {I:List (List D)} (h:QfV tb f [] I):I=[]:=by
 cases I with
 |nil=>rfl
 |cons a r=>exact h.elim
theorem QuR {α:Type} {l:List α} (h:l.length=1):∃a,l=[a]:=List.length_eq_one_iff.1 h
theorem QwV {t:TypeId} {ds:List D} {d:D} (I:(match tb.find t with|some ⟨.struct _,_,_,_,_⟩=>false|_=>true)=true) (h:DsLe ds [d]):VLe (Qy9 tb t ds) (.d d):=by
 have hl:=h.len;obtain⟨a,rfl⟩:=QuR hl;unfold Qy9;split
 ·rename_i J;rw[J] at I;cases I
 ·exact VLe.d h.1
end Go.Ab
