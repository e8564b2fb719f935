/-
  Regions whose order Go leaves open, more; rows out of contracts: a part of the frame in which a given row's proof walks the program; no condition.
-/
import Derived.Test.YtmnnglbioibmfaaGreatDoorAbz4
import Derived.ProofKit
import Derived.SizedLaws
import Derived.Deep.Slices
set_option linter.all false
namespace Go.Ab
open Go.RowKit
variable {P:Program} {tb:Tb} {S:St}
def QcT:List Bool→Nat→Bool
 |[],_=>false
 |b::_,0=>b
 |_::r,n+1=>QcT r n
noncomputable def tsM (b:List Bool):List Rs→List (Nat×V):=List.rec (motive:=fun _=>List Rs→List (Nat×V)) (fun _=>[]) (fun x _ ih R=>match R with
 |[]=>[]
 |r::rs=>match x with
  |true=>(match r.dst with
   |some t=>(t,r.shown)::ih rs
   |none=>ih rs)
  |false=>ih rs) b
noncomputable def gsM (b:List Bool):List Rs→List Gd:=List.rec (motive:=fun _=>List Rs→List Gd) (fun _=>[]) (fun x _ ih R=>match R with
 |[]=>[]
 |r::rs=>match x with
  |true=>(match r.dst,r.g with
   |some t,some (key,want)=>⟨t,key,want,r.v⟩::ih rs
   |_,_=>ih rs)
  |false=>ih rs) b
noncomputable def bsM (b:List Bool):List Rs→List (Nat×Blk):=List.rec (motive:=fun _=>List Rs→List (Nat×Blk)) (fun _=>[]) (fun x _ ih R=>match R with
 |[]=>[]
 |r::rs=>match x with
  |true=>r.nb++ih rs
  |false=>ih rs) b
theorem Qxw {b:List Bool} {r:Rs} {rs:List Rs}:tsM (true::b) (r::rs)=match r.dst with
   |some t=>(t,r.shown)::tsM b rs
   |none=>tsM b rs:=rfl
theorem Qxx {b:List Bool} {r:Rs} {rs:List Rs}:gsM (true::b) (r::rs)=match r.dst,r.g with
   |some t,some (key,want)=>⟨t,key,want,r.v⟩::gsM b rs
   |_,_=>gsM b rs:=rfl
theorem Qxy {b:List Bool} {r:Rs} {rs:List Rs}:bsM (true::b) (r::rs)=r.nb++bsM b rs:=rfl
theorem Qxz {b:List Bool} {r:Rs} {rs:List Rs}:tsM (false::b) (r::rs)=tsM b rs:=rfl
theorem QxA {b:List Bool} {r:Rs} {rs:List Rs}:gsM (false::b) (r::rs)=gsM b rs:=rfl
theorem QxB {b:List Bool} {r:Rs} {rs:List Rs}:bsM (false::b) (r::rs)=bsM b rs:=rfl
theorem Qh0 {E:Nat→Bool}:∀ {R:List Rs} {i0:Nat},(∀i,i<R.length→E (i0+i)=false)→Qc6 E i0 R=[]∧Qdi E i0 R=[]∧JO E i0 R=[]
 |[],_,_=>⟨rfl,rfl,rfl⟩
 |r::R,i0,h=>by
  have h0:E i0=false:=h 0 (by simp);obtain⟨i1,i2,i3⟩:=Qh0 (E:=E) (R:=R) (i0:=i0+1) fun i hi=>by
   have:=h (i+1) (by simp;omega);rwa[show i0+1+i=i0+(i+1) by omega]
  exact⟨by simp[Qc6,h0,i1],by simp[Qdi,h0,i2],by simp[JO,h0,i3]⟩
theorem Qpq {E:Nat→Bool}:∀ {R:List Rs} {b:List Bool} {i0:Nat},(∀i,i<R.length→QcT b i=E (i0+i))→tsM b R=Qc6 E i0 R∧gsM b R=Qdi E i0 R∧bsM b R=JO E i0 R
 |[],b,_,_=>by cases b with
  |nil=>exact⟨rfl,rfl,rfl⟩
  |cons x r=>cases x<;>exact⟨rfl,rfl,rfl⟩
 |r::R,[],i0,h=>by
  obtain⟨h1,h2,h3⟩:=Qh0 (E:=E) (R:=r::R) (i0:=i0) fun i hi=>(h i hi).symm;rw[h1,h2,h3];exact⟨rfl,rfl,rfl⟩
 |r::R,x::b,i0,h=>by
  have h0:x=E i0:=h 0 (by simp);obtain⟨i1,i2,i3⟩:=Qpq (E:=E) (R:=R) (b:=b) (i0:=i0+1) fun i hi=>by
   have:=h (i+1) (by simp;omega);rw[show i0+1+i=i0+(i+1) by omega];exact this
  subst h0
  cases hx:E i0
  ·exact⟨by rw[Qxz];simp only[Qc6,hx];exact i1,by rw[QxA];simp only[Qdi,hx];exact i2,by rw[QxB];simp only[JO,hx];exact i3⟩
  ·refine⟨?_,?_,by rw[Qxy];simp only[JO,hx];rw[i3]⟩
   ·rw[Qxw];simp only[Qc6,hx]
    cases r.dst<;>simp[i1]
   ·rw[Qxx];simp only[Qdi,hx]
    cases r.dst with
    |none=>simp[i2]
    |some t=>cases r.g with
     |none=>simp[i2]
     |some g=>obtain⟨k,w⟩:=g;simp[i2]
noncomputable def stM (S0:St) (R:List Rs) (b:List Bool):St:=match S0 with
 |⟨base,nt,ts,_,bs,fs⟩=>⟨base,nt,tsM b R++ts,gsM b R,bsM b R++bs,fs⟩
theorem QrL {S0:St} {R:List Rs} {b:List Bool} {E:Nat→Bool} (h:∀i,i<R.length→QcT b i=E i):stM S0 R b=stOf S0 R E:=by
 obtain⟨h1,h2,h3⟩:=Qpq (E:=E) (R:=R) (b:=b) (i0:=0) fun i hi=>by simpa using h i hi
 obtain⟨base,nt,ts,gs,bs,fs⟩:=S0;simp[stM,stOf,h1,h2,h3]
def QrM (ops:List Oper) (dsts:List (Option Nat)) (anc:List Nat):Option (Nat×Bool)→Bool
 |none=>true
 |some (jg,_)=>(match ops[jg]? with
  |some ⟨some key,_,_,_,_,_⟩=>Z3 anc jg&&okT anc key 0 dsts
  |_=>false)
def Qls (ops:List Oper) (dsts:List (Option Nat)):List Oper→Nat→List (List Nat)→List (List Bool)→Bool
 |[],_,_,_=>true
 |o::rest,j,ancs,mk::mks=>o.op.operands.toList.all (Qhl dsts (QbK ancs o))&&QrM ops dsts (QbK ancs o) o.guard&&(List.range j).all (fun i=>QcT mk i==Z3 (QbK ancs o) i)&&
   Qls ops dsts rest (j+1) (ancs++[QbK ancs o]) mks
 |_,_,_,[]=>false
def JV:List Oper→List (List Nat)→List (List Nat)
 |[],ancs=>ancs
 |o::rest,ancs=>JV rest (ancs++[QbK ancs o])
noncomputable def Qvm (P:Program) (tb:Tb) (cs:Nat→Option CS) (ops:List Oper) (S0:St) (l:List Oper):List (List Bool)→Nat→List Rs→(List Rs→Prop)→Prop:=
 List.rec (motive:=fun _=>List (List Bool)→Nat→List Rs→(List Rs→Prop)→Prop) (fun _ _ R K=>K R) (fun o _ ih mks j R K=>match mks with
  |mk::mks=>evD P tb cs ops j o (stM S0 R mk) fun g v nb=>QrE R ⟨o.dst,g,v,nb⟩ fun R'=>ih mks (j+1) R' K
  | [] => Stuck "drawn region masks") l
theorem Qtt {P:Program} {tb:Tb} {cs:Nat→Option CS} {ops:List Oper} {S0:St} {mks:List (List Bool)} {j:Nat} {R:List Rs} {K:List Rs→Prop}:Qvm P tb cs ops S0 [] mks j R K=K R:=rfl
theorem QrN {P:Program} {tb:Tb} {cs:Nat→Option CS} {ops:List Oper} {S0:St} {o:Oper} {rest:List Oper} {mk:List Bool} {mks:List (List Bool)} {j:Nat} {R:List Rs} {K:List Rs→Prop}:
  Qvm P tb cs ops S0 (o::rest) (mk::mks) j R K=evD P tb cs ops j o (stM S0 R mk) fun g v nb=>QrE R ⟨o.dst,g,v,nb⟩ fun R'=>Qvm P tb cs ops S0 rest mks (j+1) R' K:=rfl
theorem Qot {cs:Nat→Option CS} {ops:List Oper} {dsts:List (Option Nat)} {S0:St} {K:List (List Nat)→List Rs→Prop} {K':List Rs→Prop} {D:List (Option Nat)}:∀(l:List Oper) (mks:List (List Bool)) (j:Nat) (ancs:List (List Nat)) (R:List Rs),
  Qls ops dsts l j ancs mks=true→R.length=j→R.map (·.dst)++l.map (·.dst)=D→(∀R',R'.map (·.dst)=D→K' R'=K (JV l ancs) R')→Qvm P tb cs ops S0 l mks j R K'=evM P tb cs ops dsts S0 l j ancs R K
 |[],_,j,ancs,R,_,hR,hD,hK=>by
  rw[Qtt];simp only[evM];exact hK R (by simpa using hD)
 |o::rest,[],j,ancs,R,h,_,_,_=>by simp[Qls] at h
 |o::rest,mk::mks,j,ancs,R,h,hR,hD,hK=>by
  simp only[Qls,Bool.and_eq_true] at h;obtain⟨⟨⟨h1,h2⟩,h3⟩,h4⟩:=h;rw[QrN];simp only[evM,Qlk];have hg:(match o.guard with
   |none=>true
   |some (jg,_)=>(match ops[jg]? with
    |some ⟨some key,_,_,_,_,_⟩=>Z3 (QbK ancs o) jg&&okT (QbK ancs o) key 0 dsts
    |_=>false))=true:=h2
  rw[h1];have hs:stM S0 R mk=stOf S0 R (Z3 (QbK ancs o)):=QrL fun i hi=>by
   have:=List.all_eq_true.1 h3 i (by simp;omega);simpa using this
  rw[hs];split
  ·congr 1
   funext g v nb
   rw[Qjd,Qjd];exact Qot rest mks (j+1) _ _ h4 (by simp[hR]) (by simpa using hD) hK
  ·rename_i hno;exact absurd hg (hno rfl)
def Qhp (S0:St) (ancs:List (List Nat)) (R:List Rs):Bool:=
 Qlm ((JO (fun _=>true) 0 R).map (·.1))&&
 (QkF (fun _ ri=>ri.nb.all fun p=>!S0.mentions p.1) 0 R&&
 (QkF (fun j rj=>match rj.nb with
  |[]=>true
  |nb=>QkF (fun i ri=>Nat.beq i j||(Z3 (nth ancs i) j||nb.all fun p=>!ri.v.mentions p.1&&ri.nb.all fun q=>!q.2.mentions p.1)) 0 R) 0 R&&
 QkF (fun _ ri=>match ri.dst with|some t=>Nat.blt t S0.nt&&(match ri.g with|some (k,_)=>!Nat.beq k t|none=>true)|none=>(match ri.nb with|[]=>true|_=>false)) 0 R))
def Qnh:Nat→Option Nat→Nat→List (Option Nat)→Bool
 |_,_,_,[]=>true
 |i,d,j,e::r=>(Nat.beq i j||Qtn d e)&&Qnh i d (j+1) r
def Qh1 (D:List (Option Nat)):Nat→List (Option Nat)→Bool
 |_,[]=>true
 |i,d::r=>Qnh i d 0 D&&Qh1 D (i+1) r
theorem QgI {f:Nat→Rs→Bool}:∀ {R:List Rs} {i0:Nat},(∀(j:Nat) (r:Rs),R[j]? =some r→f (i0+j) r=true)→QkF f i0 R=true
 |[],_,_=>rfl
 |q::R,i0,h=>by
  simp only[QkF,show f i0 q=true from h 0 q rfl];exact QgI fun j r hj=>by rw[show i0+1+j=i0+(j+1) by omega];exact h (j+1) r (by simpa using hj)
theorem Qlt {i:Nat} {d:Option Nat}:∀ {D:List (Option Nat)} {j0:Nat},Qnh i d j0 D=true→∀(j:Nat) (e:Option Nat),D[j]? =some e→(Nat.beq i (j0+j)||Qtn d e)=true
 |x::D,j0,h,j,e,hj=>by
  simp only[Qnh,Bool.and_eq_true] at h
  cases j with
  |zero=>simp at hj;subst hj;exact h.1
  |succ j=>rw[show j0+(j+1)=j0+1+j by omega];exact Qlt h.2 j e (by simpa using hj)
 |[],_,_,_,_,hj=>by simp at hj
theorem Qj2 {D:List (Option Nat)}:∀ {l:List (Option Nat)} {i0:Nat},Qh1 D i0 l=true→∀(i:Nat) (d:Option Nat),l[i]? =some d→Qnh (i0+i) d 0 D=true
 |x::l,i0,h,i,d,hi=>by
  simp only[Qh1,Bool.and_eq_true] at h
  cases i with
  |zero=>simp at hi;subst hi;exact h.1
  |succ i=>rw[show i0+(i+1)=i0+1+i by omega];exact Qj2 h.2 i d (by simpa using hi)
 |[],_,_,_,_,hi=>by simp at hi
theorem Qqw {S0:St} {ancs:List (List Nat)} {R:List Rs} {D:List (Option Nat)} (hD:R.map (·.dst)=D) (hd:Qh1 D 0 D=true) (h:Qhp S0 ancs R=true):Qgj S0 ancs R=true:=by
 simp only[Qhp,Bool.and_eq_true] at h;obtain⟨h2,h3,h4,h5⟩:=h;simp only[Qgj,Bool.and_eq_true];refine⟨?_,h2,h3,?_,h5⟩
 ·refine QgI fun i ri hi=>QgI fun j rj hj=>?_;have e1:=Qj2 hd i ri.dst (by rw[←hD];simp[hi]);have e2:=Qlt e1 j rj.dst (by rw[←hD];simp[hj]);simpa using e2
 ·refine QgI fun i ri hi=>QgI fun j rj hj=>?_;have e1:=Qaz h4 j rj hj;simp only[Nat.zero_add] at e1⊢;split at e1
  ·rename_i hn;rw[hn];simp
  ·have e2:=Qaz e1 i ri hi;simpa using e2
theorem Qni {S0:St} {ancs:List (List Nat)} {R:List Rs} {D:List (Option Nat)} (hD:R.map (·.dst)=D) (hd:Qh1 D 0 D=true):Qhp S0 ancs R=Qgj S0 ancs R:=by
 rw[Bool.eq_iff_iff];refine⟨Qqw hD hd,fun h=>?_⟩;simp only[Qgj,Bool.and_eq_true] at h;obtain⟨_,h2,h3,h4,h5⟩:=h;simp only[Qhp,Bool.and_eq_true];refine⟨h2,h3,QgI fun j rj hj=>?_,h5⟩;have hx:(QkF (fun i ri=>Nat.beq i (0+j)||(Z3 (nth ancs i) (0+j)||rj.nb.all fun p=>!ri.v.mentions p.1&&ri.nb.all fun q=>!q.2.mentions p.1)) 0 R)=true:=QgI fun i ri hi=>by
  have:=Qaz (Qaz h4 i ri hi) j rj hj;simpa using this
 split
 ·rfl
 ·exact hx
def Qei:List (List Bool)→Nat→List Bool
 |[],_=>[]
 |a::_,0=>a
 |_::r,n+1=>Qei r n
def orB:List Bool→List Bool→List Bool
 |[],b=>b
 |a,[]=>a
 |x::a,y::b=>(x||y)::orB a b
def Qtu:Nat→List Bool
 |0=>[true]
 |n+1=>false::Qtu n
def Qnj (acc:List (List Bool)):List Nat→List Bool
 |[]=>[]
 |i::r=>orB (orB (Qtu i) (Qei acc i)) (Qnj acc r)
theorem Qmi:∀ {a b:List Bool} {k:Nat},QcT (orB a b) k=(QcT a k||QcT b k)
 |[],b,k=>by simp[orB,QcT]
 |x::a,[],k=>by simp[orB,QcT]
 |x::a,y::b,0=>rfl
 |x::a,y::b,k+1=>by simpa[orB,QcT] using Qmi (a:=a) (b:=b) (k:=k)
theorem Qnk:∀ {n k:Nat},QcT (Qtu n) k=Nat.beq n k
 |0,0=>rfl
 |0,k+1=>rfl
 |n+1,0=>rfl
 |n+1,k+1=>by
  show QcT (Qtu n) k=Nat.beq n k;exact Qnk
theorem Qj3:∀ {a b:List Nat} {k:Nat},Z3 (a++b) k=(Z3 a k||Z3 b k)
 |[],b,k=>rfl
 |x::a,b,k=>by
  simp only[List.cons_append,Z3];split
  ·rfl
  ·exact Qj3
theorem QrO {x:Nat} {a:List Nat} {k:Nat}:Z3 (x::a) k=(Nat.beq x k||Z3 a k):=by
 simp only[Z3];cases Nat.beq x k<;>rfl
theorem QgJ {acc:List (List Bool)} {ancs:List (List Nat)} (h:∀i k,QcT (Qei acc i) k=Z3 (nth ancs i) k):∀ {es:List Nat} {k:Nat},QcT (Qnj acc es) k=Z3 (ancIn ancs es) k
 |[],k=>rfl
 |i::r,k=>by
  simp only[Qnj,ancIn];rw[Qmi,Qmi,Qnk,h,QgJ h,QrO,Qj3,Bool.or_assoc]
theorem Qj4 {x:List Bool}:∀ {l:List (List Bool)} {i:Nat},Qei (l++[x]) i=if i=l.length then x else Qei l i
 |[],0=>rfl
 |[],i+1=>by simp[Qei]
 |a::l,0=>by simp[Qei]
 |a::l,i+1=>by simpa[Qei] using Qj4 (l:=l) (i:=i)
theorem Qj5 {x:List Nat}:∀ {l:List (List Nat)} {i:Nat},nth (l++[x]) i=if i=l.length then x else nth l i
 |[],0=>rfl
 |[],i+1=>by simp[nth]
 |a::l,0=>by simp[nth]
 |a::l,i+1=>by simpa[nth] using Qj5 (l:=l) (i:=i)
def isD (d:Option Nat) (t:Nat):Bool:=match d with
 |some u=>Nat.beq u t
 |none=>false
def Qvn (t:Nat):List Bool→List (Option Nat)→Bool
 |_,[]=>true
 |[],d::r=>!isD d t&&Qvn t [] r
 |b::bs,d::r=>(b|| !isD d t)&&Qvn t bs r
theorem Qmj {anc:List Nat} {t:Nat}:∀ {ds:List (Option Nat)} {mk:List Bool} {i:Nat},(∀k,QcT mk k=Z3 anc (i+k))→Qvn t mk ds=okT anc t i ds
 |[],_,_,_=>by cases ‹List Bool›<;>rfl
 |d::r,[],i,h=>by
  have h0:Z3 anc i=false:=(h 0).symm;have ih:=Qmj (anc:=anc) (t:=t) (ds:=r) (mk:=[]) (i:=i+1) fun k=>by rw[show i+1+k=i+(k+1) by omega];exact h (k+1)
  simp only[Qvn,okT,h0,isD];rw[ih]
  cases d with
  |none=>rfl
  |some u=>dsimp only;cases Nat.beq u t<;>rfl
 |d::r,b::bs,i,h=>by
  have h0:b=Z3 anc i:=h 0;have ih:=Qmj (anc:=anc) (t:=t) (ds:=r) (mk:=bs) (i:=i+1) fun k=>by rw[show i+1+k=i+(k+1) by omega];exact h (k+1)
  simp only[Qvn,okT,←h0,isD];rw[ih]
  cases d with
  |none=>cases b<;>rfl
  |some u=>dsimp only;cases Nat.beq u t<;>cases b<;>rfl
def Qqx (dsts:List (Option Nat)) (mk:List Bool):Operand→Bool
 | .tmp t=>Qvn t mk dsts
 |_=>true
def Qpr (ops:List Oper) (dsts:List (Option Nat)) (mk:List Bool):Option (Nat×Bool)→Bool
 |none=>true
 |some (jg,_)=>(match ops[jg]? with
  |some ⟨some key,_,_,_,_,_⟩=>QcT mk jg&&Qvn key mk dsts
  |_=>false)
def QwN:List Bool→List Bool→Bool
 |[],[]=>true
 |true::a,true::b=>QwN a b
 |false::a,false::b=>QwN a b
 |_,_=>false
theorem Qmk:∀ {a b:List Bool},QwN a b=true→a=b
 |[],[],_=>rfl
 |true::a,true::b,h=>by rw[Qmk (a:=a) (b:=b) h]
 |false::a,false::b,h=>by rw[Qmk (a:=a) (b:=b) h]
 |[],_::_,h=>by cases h
 |true::_,[],h=>by cases h
 |false::_,[],h=>by cases h
 |true::_,false::_,h=>by cases h
 |false::_,true::_,h=>by cases h
def Qj6 (ops:List Oper) (dsts:List (Option Nat)):List Oper→List (List Bool)→List (List Bool)→Bool
 |[],_,_=>true
 |o::rest,acc,mk::mks=>QwN (Qnj acc (Zq o.after.toList)) mk&&(o.op.operands.toList.all (Qqx dsts mk)&&(Qpr ops dsts mk o.guard&&Qj6 ops dsts rest (acc++[mk]) mks))
 |_::_,_,[]=>false
theorem Qh2 {ops:List Oper} {dsts:List (Option Nat)}:∀(l:List Oper) (mks acc:List (List Bool)) (ancs:List (List Nat)) (j:Nat),Qj6 ops dsts l acc mks=true→acc.length=j→ancs.length=j→(∀i k,QcT (Qei acc i) k=Z3 (nth ancs i) k)→
  Qls ops dsts l j ancs mks=true∧∀i k,QcT (Qei (acc++mks.take l.length) i) k=Z3 (nth (JV l ancs) i) k
 |[],mks,acc,ancs,j,_,_,_,h=>⟨rfl,by simpa[JV] using h⟩
 |o::rest,[],acc,ancs,j,h,_,_,_=>by simp[Qj6] at h
 |o::rest,mk::mks,acc,ancs,j,h,h1,h2,hA=>by
  simp only[Qj6,Bool.and_eq_true] at h;obtain⟨e1,e2,e3,e4⟩:=h;have e1:=Qmk e1;have hmk:∀k,QcT mk k=Z3 (QbK ancs o) k:=fun k=>by rw[←e1];exact QgJ hA
  have hA':∀i k,QcT (Qei (acc++[mk]) i) k=Z3 (nth (ancs++[QbK ancs o]) i) k:=fun i k=>by
   rw[Qj4,Qj5,h1,h2];split
   ·exact hmk k
   ·exact hA i k
  obtain⟨i1,i2⟩:=Qh2 rest mks (acc++[mk]) (ancs++[QbK ancs o]) (j+1) e4 (by simp[h1]) (by simp[h2]) hA';refine⟨?_,by simpa[JV] using i2⟩;simp only[Qls,Bool.and_eq_true];refine⟨⟨⟨?_,?_⟩,?_⟩,i1⟩
  ·rw[←e2]
   congr 1
   funext x
   cases x with
   |tmp t=>exact(Qmj (anc:=QbK ancs o) (i:=0) fun k=>by rw[Nat.zero_add];exact hmk k).symm
   |_=>rfl
  ·rw[←e3]
   cases hg:o.guard with
   |none=>rfl
   |some g=>
    obtain⟨jg,want⟩:=g;simp only[QrM,Qpr];split
    ·rw[hmk,Qmj (anc:=QbK ancs o) (i:=0) fun k=>by rw[Nat.zero_add];exact hmk k]
    ·rfl
  ·exact List.all_eq_true.2 fun i _=>by simp[hmk i]
def Qec (S0:St) (mks:List (List Bool)) (R:List Rs):Bool:=
 Qlm ((JO (fun _=>true) 0 R).map (·.1))&&
 (QkF (fun _ ri=>ri.nb.all fun p=>!S0.mentions p.1) 0 R&&
 (QkF (fun j rj=>match rj.nb with
  |[]=>true
  |nb=>QkF (fun i ri=>Nat.beq i j||(QcT (Qei mks i) j||nb.all fun p=>!ri.v.mentions p.1&&ri.nb.all fun q=>!q.2.mentions p.1)) 0 R) 0 R&&
 QkF (fun _ ri=>match ri.dst with|some t=>Nat.blt t S0.nt&&(match ri.g with|some (k,_)=>!Nat.beq k t|none=>true)|none=>(match ri.nb with|[]=>true|_=>false)) 0 R))
noncomputable def Qml (P:Program) (tb:Tb) (cs:Nat→Option CS) (m:Nat) (mks:List (List Bool)) (ops:List Oper) (S:St) (K:St→Prop):Prop:=
 stK (Qop ((ops.take m).map (·.dst)) S) fun S0=>Qvm P tb cs ops S0 (ops.take m) mks 0 [] fun R=>
   match Qec S0 mks R with
   |true=>stK (stM S0 R (List.replicate m true)) fun S1=>Qeb P tb ops (ops.drop m) S1 fun S=>S.noGds K
   | false => Stuck "drawn region what is made is named too early"
theorem Qmm:∀ {m i:Nat},i<m→QcT (List.replicate m true) i=true
 |m+1,0,_=>rfl
 |m+1,i+1,h=>by simpa[List.replicate_succ,QcT] using Qmm (m:=m) (i:=i) (by omega)
end Go.Ab
namespace Go.Ab
open Go.RowKit
variable {P:Program} {tb:Tb}
theorem Qps {α:Type} {xs:Array α} {d t:Nat} {x v:α} (h:d≠t):(xs.setIfInBounds t v).setIfInBounds d x=(xs.setIfInBounds d x).setIfInBounds t v:=by
 apply Array.ext_getElem?
 intro i;simp only[Array.getElem?_setIfInBounds]
 by_cases e1:d=i
 ·subst e1
  by_cases e2:t=d
  ·exact absurd e2.symm h
  ·simp[e2]
 ·by_cases e2:t=i
  ·subst e2;simp[e1]
  ·simp[e1,e2]
theorem Act.put_comm {a:Act} {d t:Nat} {x v:Value} (h:d≠t):(a.put (some t) v).put (some d) x=(a.put (some d) x).put (some t) v:=by
 have:(a.tmps.setIfInBounds t v).setIfInBounds d x=(a.tmps.setIfInBounds d x).setIfInBounds t v:=by
  exact Qps h
 exact congrArg (fun x=>(⟨x,a.defers⟩:Act)) this
theorem Qj7 {a:Act} {t:Nat} {v:Value} {x:Operand} (h:x≠ .tmp t):(a.put (some t) v).eval x=a.eval x:=by
 cases x with
 |tmp u=>
  have:u≠t:=fun e=>h (by rw[e]);simp only[Act.eval,Act.put,Array.getD_eq_getD_getElem?,Array.getElem?_setIfInBounds,if_neg (Ne.symm this)]
 |_=>rfl
structure Light (ops:Array Oper) (i t s k:Nat):Prop where
 out:∃ty pos after,ops[i]? =some ⟨some t,.extract (.tmp s) k,ty,pos,after,none⟩
structure Comm (ops:Array Oper) (t s:Nat) (o:Oper):Prop where
 sel:∀cs b,o.op≠ .select cs b
 reads:∀x∈o.op.operands,x≠ .tmp t
 dst:o.dst≠some t
 src:o.dst≠some s
 guard:∀jg w,o.guard=some (jg,w)→(ops[jg]?).bind (·.dst)≠some t
variable {ops:Array Oper} {Q:Exit→Act→World→Prop} {i t s k:Nat}
theorem Qnl (hl:Light ops i t s k) (hQ:∀e a w,Q e a w→e=.normal) {K:Act→World→Prop} {a:Act} {w:World} (h:wpOp P ops Q i K a w):
  ∃vs v,a.eval (.tmp s)=.tuple vs∧vs[k]? =some v∧K (a.put (some t) v) w:=by
 obtain⟨ty,pos,after,ho⟩:=hl.out;unfold wpOp at h;simp only[ho,Region.wanted,if_true] at h;rcases h with h|h
 ·unfold Oper.wp at h;simp only[execOp] at h
  cases hx:a.eval (.tmp s) with
  |tuple vs=>
   rw[hx] at h;simp only[Instr.extract] at h
   cases hk:vs[k]? with
   |none=>rw[hk] at h;simp[Oper.upon,stuck] at h
   |some v=>
    rw[hk] at h;simp only[pure_bind,Sem.run_pure] at h;exact⟨vs,v,rfl,hk,h⟩
  |_=>rw[hx] at h;simp[Instr.extract,Oper.upon,stuck] at h
 ·obtain⟨_,a',w',h'⟩:=h;have:=hQ _ _ _ h';cases this
theorem Qtv (hl:Light ops i t s k) {K:Act→World→Prop} {a:Act} {w:World} {vs:Array Value} {v:Value} (h1:a.eval (.tmp s)=.tuple vs) (h2:vs[k]? =some v) (h3:K (a.put (some t) v) w):wpOp P ops Q i K a w:=by
 obtain⟨ty,pos,after,ho⟩:=hl.out;unfold wpOp;simp only[ho,Region.wanted,if_true];refine .inl ?_;unfold Oper.wp;simp only[execOp,h1,Instr.extract,h2,pure_bind,Sem.run_pure];exact h3
theorem Qvo (hQ:∀e a w,Q e a w→e=.normal) {j:Nat} {o:Oper} (hj:ops[j]? =some o) (hc:Comm ops t s o) {K:Act→World→Prop} {a:Act} {w:World} {v:Value} (h:wpOp P ops Q j K (a.put (some t) v) w):
  wpOp P ops Q j (fun a' w'=>a'.eval (.tmp s)=a.eval (.tmp s)∧K (a'.put (some t) v) w') a w:=by
 have hwant:Region.wanted o (yielded ops (a.put (some t) v).tmps)=Region.wanted o (yielded ops a.tmps):=by
  unfold Region.wanted
  cases hg:o.guard with
  |none=>rfl
  |some g=>
   obtain⟨jg,want⟩:=g;have hne:=hc.guard jg want hg;simp only;have:yielded ops (a.put (some t) v).tmps jg=yielded ops a.tmps jg:=by
    unfold yielded
    cases hd:(ops[jg]?).bind (·.dst) with
    |none=>rfl
    |some d=>
     rw[hd] at hne;have hne:t≠d:=fun e=>hne (by rw[e]);simp only[Option.bind_some,Act.put,Array.getElem?_setIfInBounds,if_neg hne]
   rw[this]
 have hex:execOp (a.put (some t) v).eval o=execOp a.eval o:=execOp_congr o hc.sel fun x hx=>Qj7 (hc.reads x hx);have hput:∀x,(a.put (some t) v).put o.dst x=(a.put o.dst x).put (some t) v:=fun x=>by
  cases hd:o.dst with
  |none=>rfl
  |some d=>exact Act.put_comm fun e=>hc.dst (by rw[hd,e])
 have hsrc:∀x,(a.put o.dst x).eval (.tmp s)=a.eval (.tmp s):=fun x=>by
  cases hd:o.dst with
  |none=>rfl
  |some d=>exact Qj7 fun e=>hc.src (by rw[hd];cases e;rfl)
 unfold wpOp at h⊢;simp only[hj] at h⊢;rw[hwant] at h;split
 ·rename_i hw;rw[if_pos hw] at h;rcases h with h|h
  ·refine .inl ?_;unfold Oper.wp at h⊢;rw[hex] at h;generalize (execOp a.eval o).run P w=r at*
   cases r with
   |ok n w'=>
    cases n with
    |value x=>exact⟨hsrc x,by rw[←hput];exact h⟩
    |skip=>exact⟨hsrc _,by rw[←hput];exact h⟩
    |defer d=>
     simp only[Oper.upon] at h⊢;refine⟨?_,?_⟩
     ·have:=hsrc undef
      cases hd:o.dst<;>rw[hd] at this<;>exact this
     ·cases hd:o.dst with
      |none=>rw[hd] at h;exact h
      |some d'=>
       rw[hd] at h;have hne:d'≠t:=fun e=>hc.dst (by rw[hd,e]);have:=Act.put_comm (a:={a with defers:=d::a.defers}) (x:=undef) (v:=v) hne;rw[←this];exact h
    |enter f args=>
     simp only[Oper.upon] at h⊢;refine Calls.mono h fun e w'' he=>?_
     cases e with
     |returned x=>exact⟨hsrc x,by rw[←hput];exact he⟩
     |panicked c=>have:=hQ _ _ _ he;cases this
     |outgrown=>exact he
    |row r args=>
     simp only[Oper.upon] at h⊢;exact Rows.mono h fun x w'' he=>⟨hsrc x,by rw[←hput];exact he⟩
    |_=>simp only[Oper.upon] at h
   |halt x w'=>
    cases x<;>simp only[Oper.upon] at h⊢
    all_goals first
     |exact h
     |(have:=hQ _ _ _ h;cases this)
  ·obtain⟨_,a',w',h'⟩:=h;have:=hQ _ _ _ h';cases this
 ·rename_i hw;rw[if_neg hw] at h;exact⟨hsrc _,by rw[←hput];exact h⟩
theorem QrP {listed:Array Bool} {i x:Nat} (hx:x<listed.size):(listed.setIfInBounds i true).getD x false=(decide (i=x)||listed.getD x false):=by
 simp only[Array.getD_eq_getD_getElem?,Array.getElem?_setIfInBounds]
 by_cases e:i=x
 ·subst e;simp[hx]
 ·simp[e]
theorem Qj8 {listed:Array Bool} {i x:Nat} (h:listed.getD x false=true):(listed.setIfInBounds i true).getD x false=true:=by
 have hx:x<listed.size:=by
  by_cases hx:x<listed.size
  ·exact hx
  ·rw[Array.getD_eq_getD_getElem?,Array.getElem?_eq_none (by omega)] at h;cases h
 rw[QrP hx];simp[h]
theorem QxC (hQ:∀e a w,Q e a w→e=.normal) (hl:Light ops i t s k)
  (hcm:∀j o,ops[j]? =some o→j≠i→i∈Zq o.after.toList∨(∃oi,ops[i]? =some oi∧j∈Zq oi.after.toList)∨Comm ops t s o):
  ∀(fuel:Nat) (listed:Array Bool) (a:Act) (w:World),listed.size=ops.size→i∈Region.ready .any ops listed→wpOp P ops Q i (wpAny P .any ops Q fuel (listed.setIfInBounds i true)) a w→wpAny P .any ops Q (fuel+1) listed a w:=by
 intro fuel
 induction fuel with
 |zero=>
  intro listed a w hs hr h;refine⟨fun hn=>by rw[hn] at hr;simp at hr,fun j hj=>?_⟩
  by_cases hji:j=i
  ·subst hji;exact h
  ·exfalso;obtain⟨vs,v,_,_,h3⟩:=Qnl hl hQ h;obtain⟨h4,_⟩:=h3;have:j∈Region.ready .any ops (listed.setIfInBounds i true):=by
    obtain⟨g1,o,g2,g3⟩:=mem_ready.1 hj;refine mem_ready.2 ⟨?_,o,g2,fun e he hb=>?_⟩
    ·simp only[Array.getD_eq_getD_getElem?,Array.getElem?_setIfInBounds] at g1⊢;rw[if_neg (Ne.symm hji)];exact g1
    ·have:=g3 e he hb;exact Qj8 this
   rw[h4] at this;simp at this
 |succ fuel ih=>
  intro listed a w hs hr h;refine⟨fun hn=>by rw[hn] at hr;simp at hr,fun j hj=>?_⟩
  by_cases hji:j=i
  ·subst hji;exact h
  ·obtain⟨vs,v,e1,e2,h3⟩:=Qnl hl hQ h;obtain⟨g1,o,g2,g3⟩:=mem_ready.1 hj;have hj2:j∈Region.ready .any ops (listed.setIfInBounds i true):=by
    refine mem_ready.2 ⟨?_,o,g2,fun e he hb=>?_⟩
    ·simp only[Array.getD_eq_getD_getElem?,Array.getElem?_setIfInBounds] at g1⊢;rw[if_neg (Ne.symm hji)];exact g1
    ·have:=g3 e he hb;exact Qj8 this
   have h4:=h3.2 j hj2;obtain⟨r1,oi,r2,r3⟩:=mem_ready.1 hr;have hilt:i<listed.size:=by rw[hs];exact(Array.getElem?_eq_some_iff.1 r2).1
   have hc:Comm ops t s o:=by
    rcases hcm j o g2 hji with hc|⟨oi',f1,f2⟩|hc
    ·exfalso;obtain⟨ed,hed,hb,hon⟩:=Qaq.1 hc;have:=g3 ed (by simpa using hed) hb;rw[hon,←QeR hilt,r1] at this
     cases this
    ·exfalso;rw[r2] at f1;cases f1;obtain⟨ed,hed,hb,hon⟩:=Qaq.1 f2;have:=r3 ed (by simpa using hed) hb;have hjlt:j<listed.size:=by rw[hs];exact(Array.getElem?_eq_some_iff.1 g2).1
     rw[hon,←QeR hjlt,g1] at this
     cases this
    ·exact hc
   refine wpOp_mono (fun a' w' hk=>?_) (Qvo hQ g2 hc h4);obtain⟨k1,k2⟩:=hk;have hr':i∈Region.ready .any ops (listed.setIfInBounds j true):=by
    refine mem_ready.2 ⟨?_,oi,r2,fun e he hb=>?_⟩
    ·simp only[Array.getD_eq_getD_getElem?,Array.getElem?_setIfInBounds] at r1⊢;rw[if_neg hji];exact r1
    ·have:=r3 e he hb;exact Qj8 this
   refine ih _ a' w' (by simpa using hs) hr' (Qtv hl (by rw[k1];exact e1) e2 ?_);have hcomm:(listed.setIfInBounds j true).setIfInBounds i true=(listed.setIfInBounds i true).setIfInBounds j true:=by
    exact Qps (Ne.symm hji)
   rw[hcomm];exact k2
end Go.Ab
namespace Go.Ab
open Go.RowKit
variable {P:Program} {tb:Tb} {w:World} {ρ:Env} {a:Act} {B:Bd} {w0:World} {F:List (Array Value)}
 {cs:Nat→Option CS} {m:Nat} {ops:List Oper} {S0:St} {A:List (List Nat)} {R:List Rs} {ls:List Nat}
def Qh3 (m:Nat) (ls:List Nat) (ops:List Oper):Prop:=∀(j:Nat) (o:Oper),ops[j]? =some o→m≤j→∀e,e<j→e∈nth (JV ops []) j∨(e<m∧e∈ls)
theorem QeT:∀ {l:List Oper} {ancs:List (List Nat)},(JV l ancs).take ancs.length=ancs∧(JV l ancs).length=ancs.length+l.length
 |[],ancs=>by simp[JV]
 |o::r,ancs=>by
  obtain⟨h1,h2⟩:=QeT (l:=r) (ancs:=ancs++[QbK ancs o]);simp only[JV];refine⟨?_,by rw[h2];simp;omega⟩;have:((JV r (ancs++[QbK ancs o])).take (ancs++[QbK ancs o]).length).take ancs.length=ancs:=by rw[h1];simp
  rwa[List.take_take,Nat.min_eq_left (by simp)] at this
theorem Qnm:∀ {l:List Oper} {ancs:List (List Nat)} {i:Nat} {o:Oper},l[i]? =some o→nth (JV l ancs) (ancs.length+i)=QbK ((JV l ancs).take (ancs.length+i)) o
 |o::r,ancs,0,q,h=>by
  simp at h;subst h;obtain⟨h1,_⟩:=QeT (l:=r) (ancs:=ancs++[QbK ancs o]);obtain⟨h3,_⟩:=QeT (l:=o::r) (ancs:=ancs);rw[Nat.add_zero,h3];simp only[JV];rw[←Qhn (A:=JV r (ancs++[QbK ancs o])) (j:=(ancs++[QbK ancs o]).length) (by simp),h1,Qln];simp
 |o::r,ancs,i+1,q,h=>by
  have:=Qnm (l:=r) (ancs:=ancs++[QbK ancs o]) (i:=i) (o:=q) (by simpa using h);simp only[JV];have e:(ancs++[QbK ancs o]).length+i=ancs.length+(i+1):=by simp;omega
  rw[e] at this;exact this
 |[],_,_,_,h=>by simp at h
theorem Qmn {ops:List Oper} (he:Qcu 0 ops=true) {j:Nat} {o:Oper} (ho:ops[j]? =some o) {i:Nat}:i∈nth (JV ops []) j↔ ∃e∈Zq o.after.toList,i=e∨i∈nth (JV ops []) e:=by
 have:=Qnm (ancs:=[]) ho;rw[List.length_nil,Nat.zero_add] at this;rw[this];unfold QbK;rw[Qj0];have key:∀e∈Zq o.after.toList,nth ((JV ops []).take j) e=nth (JV ops []) e:=fun e hee=>Qhn (by simpa using Qbc he j o ho e hee)
 constructor
 ·rintro⟨e,h1,h2⟩;rw[key e h1] at h2;exact⟨e,h1,h2⟩
 ·rintro⟨e,h1,h2⟩;refine⟨e,h1,?_⟩;rw[key e h1];exact h2
theorem Qqy {A:List (List Nat)} {j:Nat} (h:A.length≤j):nth A j=[]:=by rw[Qln,List.getElem?_eq_none h];rfl
theorem QuE {ops:List Oper} (he:Qcu 0 ops=true):∀(n j:Nat),j<n→∀i∈nth (JV ops []) j,i<j
 |n+1,j,hj,i,hi=>by
  cases ho:ops[j]? with
  |none=>
   have hlen:(JV ops []).length=ops.length:=by simpa using (QeT (l:=ops) (ancs:=[])).2
   have:ops.length≤j:=by simpa using ho
   rw[Qqy (by omega)] at hi;simp at hi
  |some o=>
   obtain⟨e,h1,h2⟩:=(Qmn he ho).1 hi;have hlt:=Qbc he j o ho e h1;rcases h2 with rfl|h2
   ·omega
   ·have:=QuE he n e (by omega) i h2;omega
 |0,_,hj,_,_=>absurd hj (by omega)
theorem Walked.same (W:Walked P tb cs m ops S0 A R) (he:Qcu 0 ops=true):∀(n j:Nat),j<n→j<m→∀i,i∈nth (JV ops []) j→i∈nth A j
 |n+1,j,hj,hm,i,hi=>by
  obtain⟨o,ho⟩:=W.op hm;obtain⟨e,h1,h2⟩:=(Qmn he ho).1 hi;refine(W.anc hm ho).2 ⟨e,h1,?_⟩;rcases h2 with h2|h2
  ·exact .inl h2
  ·have hlt:=Qbc he j o ho e h1;exact .inr (W.same he n e (by omega) (by omega) i h2)
 |0,_,hj,_,_,_=>absurd hj (by omega)
theorem QuF {opsA:Array Oper} (hf:Qh3 m ls opsA.toList) (he:Qcu 0 opsA.toList=true) {Q:Exit→Act→World→Prop}:
  ∀(fuel k:Nat) (listed:Array Bool),m≤k→k≤opsA.size→listed.size=opsA.size→unl listed=fuel→(∀i,i<opsA.size→listed.getD i false=decide (i<k))→
  ∀(a:Act) (w:World),wpOps P opsA Q (List.range' k (opsA.size-k)) a w→wpAny P .any opsA Q fuel listed a w:=by
 intro fuel
 induction fuel with
 |zero=>
  intro k listed hm hk hs hu hl a w h;have hkn:k=opsA.size:=by
   apply Nat.le_antisymm hk
   apply Nat.le_of_not_lt
   intro hlt;have:=hl k hlt;rw[←QeR (by omega)] at this;have:=Qos (listed:=listed) (i:=k) (by simpa using this);omega
  refine⟨?_,?_⟩
  ·rw[List.eq_nil_iff_forall_not_mem];intro j hj;obtain⟨h1,o,ho,_⟩:=mem_ready.1 hj;have:=Qos h1;omega
  ·subst hkn;simpa[wpOps] using h
 |succ fuel ih=>
  intro k listed hm hk hs hu hl a w h;have huniq:∀j∈Region.ready .any opsA listed,j=k∧k<opsA.size:=by
   intro j hj;obtain⟨h1,o,ho,h2⟩:=mem_ready.1 hj;have hjlt:j<opsA.size:=(Array.getElem?_eq_some_iff.1 ho).1;have hjk:k≤j:=by
    apply Nat.le_of_not_lt
    intro hlt;have:=hl j hjlt;rw[QeR (by omega)] at h1;rw[h1] at this;simp at this;omega
   refine⟨?_,by omega⟩
   by_cases e:j=k
   ·exact e
   ·exfalso;have hin:=(hf j o (by simpa using ho) (by omega) k (by omega)).resolve_right (fun h=>by omega);obtain⟨e',he',hk'⟩:=(Qmn he (by simpa using ho)).1 hin;obtain⟨ed,hed,hb,hon⟩:=Qaq.1 he';have hlt:=Qbc he j o (by simpa using ho) e' he';have:=h2 ed (by simpa using hed) hb;rw[hon,hl e' (by omega)] at this;have hek:e'<k:=by simpa using this
    rcases hk' with hk'|hk'
    ·omega
    ·have:=QuE he (e'+1) e' (by omega) k hk';omega
  by_cases hkn:k=opsA.size
  ·refine⟨fun _=>?_,fun i hi=>?_⟩
   ·subst hkn;simpa[wpOps] using h
   ·have:=(huniq i hi).2;omega
  ·have hklt:k<opsA.size:=by omega
   obtain⟨o,ho⟩:∃o,opsA[k]? =some o:=⟨_,Array.getElem?_eq_getElem hklt⟩;have hkun:listed.getD k true=false:=by rw[QeR (by omega),hl k hklt];simp
   have hkr:k∈Region.ready .any opsA listed:=by
    refine mem_ready.2 ⟨hkun,o,ho,fun e hee hb=>?_⟩;have hlt:=Qbc he k o (by simpa using ho) e.on (Qaq.2 ⟨e,by simpa using hee,hb,rfl⟩);rw[hl e.on (by omega)];simp;omega
   refine⟨fun hnil=>?_,fun i hi=>?_⟩
   ·rw[hnil] at hkr;simp at hkr
   ·obtain⟨rfl,_⟩:=huniq i hi;have hr:List.range' i (opsA.size-i)=i::List.range' (i+1) (opsA.size-(i+1)):=by
     rw[show opsA.size-i=(opsA.size-(i+1))+1 by omega,List.range'_succ]
    rw[hr,wpOps_cons] at h;refine wpOp_mono (fun a w h=>?_) h;refine ih (i+1) _ (by omega) (by omega) (by simpa using hs) ?_ (fun x hx=>?_) a w h
    ·have:=Qmh hkun;omega
    ·have:=congrFun (QeS (listed:=listed) (j:=i) (by omega)) x;rw[this,Qe7,hl x hx]
     by_cases e:x=i
     ·subst e;simp
     ·have:Nat.beq x i=false:=by
       cases hb:Nat.beq x i
       ·rfl
       ·exact absurd (Nat.eq_of_beq_eq_true hb) e
      rw[this];simp;omega
theorem QuG {opsA:Array Oper} (W:Walked P tb cs m opsA.toList S0 A R) (hf:Qh3 m ls opsA.toList) (he:Qcu 0 opsA.toList=true) {Q:Exit→Act→World→Prop} (hQ:∀e a w,Q e a w→e=.normal) (Inv:(Nat→Bool)→Act→World→Prop)
  (hls:∀i∈ls,∃t s k,Light opsA i t s k∧∀j o,opsA[j]? =some o→j≠i→i∈Zq o.after.toList∨(∃oi,opsA[i]? =some oi∧j∈Zq oi.after.toList)∨Comm opsA t s o)
  (hstep:∀(E:Nat→Bool) (j:Nat) (o:Oper),QfD m A E→j<m→E j=false→opsA.toList[j]? =some o→(∀e∈Zq o.after.toList,E e=true)→∀a w,Inv E a w→∀next:Act→World→Prop,(∀a' w',Inv (Qe7 E j) a' w'→next a' w')→wpOp P opsA Q j next a w)
  (hend:∀(E:Nat→Bool) a w,(∀i,i<m→E i=true)→Inv E a w→wpOps P opsA Q (List.range' m (opsA.size-m)) a w):
  ∀(fuel:Nat) (listed:Array Bool),listed.size=opsA.size→unl listed=fuel→(∀i,listed.getD i false=true→i<m)→QfD m A (fun i=>listed.getD i false)→
  ∀(a:Act) (w:World),Inv (fun i=>listed.getD i false) a w→wpAny P .any opsA Q fuel listed a w:=by
 have hml:m≤opsA.size:=by simpa using W.len
 intro fuel
 induction fuel with
 |zero=>
  intro listed hs hu hE hc a w h
  by_cases hall:∀i,i<m→listed.getD i false=true
  ·refine QuF hf he 0 m listed (Nat.le_refl _) hml hs hu (fun i hi=>?_) a w (hend _ a w hall h)
   by_cases hi':i<m
   ·simp[hall i hi',hi']
   ·cases hb:listed.getD i false
    ·simp[hi']
    ·exact absurd (hE i hb) hi'
  ·exfalso;have:∃i,i<m∧listed.getD i false=false:=by
    apply Classical.byContradiction
    intro hno
    apply hall
    intro i hi
    cases hb:listed.getD i false
    ·exact absurd ⟨i,hi,hb⟩ hno
    ·rfl
   obtain⟨i,hi,hb⟩:=this;have:=Qos (listed:=listed) (i:=i) (by rw[QeR (by omega)];exact hb);omega
 |succ fuel ih=>
  intro listed hs hu hE hc a w h
  by_cases hall:∀i,i<m→listed.getD i false=true
  ·refine QuF hf he (fuel+1) m listed (Nat.le_refl _) hml hs hu (fun i hi=>?_) a w (hend _ a w hall h)
   by_cases hi':i<m
   ·simp[hall i hi',hi']
   ·cases hb:listed.getD i false
    ·simp[hi']
    ·exact absurd (hE i hb) hi'
  ·have hex:∃i,i<m∧listed.getD i false=false∧∀k,k<i→listed.getD k false=true:=by
    apply Classical.byContradiction
    intro hno
    apply hall
    intro i
    induction i using Nat.strongRecOn with
    |ind i ih=>
     intro hi
     cases hb:listed.getD i false
     ·exact absurd ⟨i,hi,hb,fun k hk=>ih k hk (by omega)⟩ hno
     ·rfl
   obtain⟨i,hi,hb,hlow⟩:=hex;obtain⟨o,ho⟩:=W.op hi
   by_cases hil:i∈ls
   ·obtain⟨t,s,k,hl,hcm⟩:=hls i hil;have hir:i∈Region.ready .any opsA listed:=by
     refine mem_ready.2 ⟨by rw[QeR (by omega)];exact hb,o,by simpa using ho,fun e hee hbd=>?_⟩;exact hlow _ (W.lt i o ho e.on (Qaq.2 ⟨e,by simpa using hee,hbd,rfl⟩))
    obtain⟨h1,oj,hoj,h2⟩:=mem_ready.1 hir;have hrdy:∀e∈Zq oj.after.toList,(fun i=>listed.getD i false) e=true:=fun e hee=>by
     obtain⟨ed,hed,hbd,hon⟩:=Qaq.1 hee;rw[←hon];exact h2 ed (by simpa using hed) hbd
    refine QxC hQ hl hcm fuel listed a w hs hir ?_;refine hstep _ i oj hc hi hb (by simpa using hoj) hrdy a w h _ (fun a' w' h'=>?_);refine ih _ (by simpa using hs) ?_ (fun x hx=>?_) ?_ a' w' ?_
    ·have:=Qmh h1;omega
    ·have hx':=congrFun (QeS (listed:=listed) (j:=i) (by omega)) x;rw[hx',QaL] at hx;rcases hx with hx|hx
     ·exact hE x hx
     ·omega
    ·rw[QeS (by omega)];exact Qlp hc (W.ancIn hc hi (by simpa using hoj) hrdy)
    ·rw[QeS (by omega)];exact h'
   refine⟨fun hnil=>?_,fun j hj=>?_⟩
   ·have:i∈Region.ready .any opsA listed:=by
     refine mem_ready.2 ⟨by rw[QeR (by omega)];exact hb,o,by simpa using ho,fun e hee hbd=>?_⟩;exact hlow _ (W.lt i o ho e.on (Qaq.2 ⟨e,by simpa using hee,hbd,rfl⟩))
    rw[hnil] at this;simp at this
   ·obtain⟨h1,oj,hoj,h2⟩:=mem_ready.1 hj;have hjlt:j<opsA.size:=(Array.getElem?_eq_some_iff.1 hoj).1;have hjm:j<m:=by
     apply Nat.lt_of_not_le
     intro hle;have hin:=(hf j oj (by simpa using hoj) (by omega) i (by omega)).resolve_right (fun h=>hil h.2);obtain⟨e',he',hk'⟩:=(Qmn he (by simpa using hoj)).1 hin;obtain⟨ed,hed,hbd,hon⟩:=Qaq.1 he';have hle:=h2 ed (by simpa using hed) hbd;rw[hon] at hle;have hem:=hE e' hle;rcases hk' with hk'|hk'
     ·subst hk';rw[hb] at hle;cases hle
     ·have:=hc e' hem hle i (W.same he (e'+1) e' (by omega) hem i hk');dsimp only at this;rw[hb] at this;cases this
    have hrdy:∀e∈Zq oj.after.toList,(fun i=>listed.getD i false) e=true:=fun e hee=>by
     obtain⟨ed,hed,hbd,hon⟩:=Qaq.1 hee;rw[←hon];exact h2 ed (by simpa using hed) hbd
    have hjE:listed.getD j false=false:=by rw[←QeR (by omega)];exact h1
    refine hstep _ j oj hc hjm hjE (by simpa using hoj) hrdy a w h _ (fun a' w' h'=>?_);refine ih _ (by simpa using hs) ?_ (fun x hx=>?_) ?_ a' w' ?_
    ·have:=Qmh h1;omega
    ·have hx':=congrFun (QeS (listed:=listed) (j:=j) (by omega)) x;rw[hx',QaL] at hx;rcases hx with hx|hx
     ·exact hE x hx
     ·omega
    ·rw[QeS (by omega)];exact Qlp hc (W.ancIn hc hjm (by simpa using hoj) hrdy)
    ·rw[QeS (by omega)];exact h'
theorem QwO (hT:TOk P tb) {opsA:Array Oper} (W:Walked P tb cs m opsA.toList S0 A R) (hne:∀j,j<m→Qhm (cs j)=false) (hds:∀(j:Nat) (o:Oper),j<m→opsA.toList[j]? =some o→o.dst≠none) (hf:Qh3 m ls opsA.toList) (he:Qcu 0 opsA.toList=true) {Q:Exit→St→Prop} (hQ:∀e S,Q e S→e=.normal)
  (hls:∀i∈ls,∃t s k,Light opsA i t s k∧∀j o,opsA[j]? =some o→j≠i→i∈Zq o.after.toList∨(∃oi,opsA[i]? =some oi∧j∈Zq oi.after.toList)∨Comm opsA t s o)
  (hend:Qeb P tb opsA.toList (opsA.toList.drop m) (stOf S0 R fun _=>true) fun S=>Q .normal S) (fuel:Nat) (listed:Array Bool) (hs:listed.size=opsA.size) (hu:unl listed=fuel) (hE:∀i,listed.getD i false=true→i<m) (hc:QfD m A (fun i=>listed.getD i false))
  (ρ:Env) (a:Act) (w:World) (h:Sim P B w0 F ρ (stOf S0 R fun i=>listed.getD i false) a w):
  wpAny P .any opsA (fun e a' w'=>∃ρ' S',Sim P B w0 F ρ' S' a' w'∧Q e S') fuel listed a w:=by
 refine QuG W hf he (fun e a w ⟨_,S',_,h⟩=>hQ e S' h) (fun E a w=>∃ρ,Sim P B w0 F ρ (stOf S0 R E) a w) hls ?_ ?_ fuel listed hs hu hE hc a w ⟨ρ,h⟩
 ·rintro E j o hc hj hjE ho hr a w ⟨ρ,h⟩ next hn;exact Qng hT W rfl hc hj hjE ho (hne j hj) (hds j o hj ho) hr h (fun ρ' a' w' h'=>hn a' w' ⟨ρ',h'⟩) _
 ·rintro E a w hall ⟨ρ,h⟩;rw[Qlr (E':=fun _=>true) (fun i hi=>hall i (by rw[←W.hm];exact hi))] at h;refine QeN hT opsA Q F _ _ (by simp) (fun i k hk=>?_) _ ρ a w h hend;rw[List.getElem?_eq_some_iff] at hk;obtain⟨_,hk⟩:=hk;simp at hk;subst hk;simp
def Qou (cs:Nat→Option CS):Nat→Bool
 |0=>true
 |m+1=>match Qhm (cs m) with
  |true=>false
  |false=>Qou cs m
theorem Qmo {cs:Nat→Option CS}:∀ {m:Nat},Qou cs m=true→∀j,j<m→Qhm (cs j)=false
 |m+1,h,j,hj=>by
  simp only[Qou] at h;split at h
  ·cases h
  ·rename_i hn
   by_cases hjm:j=m
   ·subst hjm;exact hn
   ·exact Qmo h j (by omega)
 |0,_,j,hj=>absurd hj (by omega)
def QiC (ops:List Oper) (cs:Nat→Option CS) (m:Nat):Bool:=(List.range m).all fun j=>QfB (cs j)||(match ops[j]? with
 |some o=>o.dst.isSome
 |none=>true)
theorem Qj9 {ops:List Oper} {cs:Nat→Option CS} {m:Nat} (h:QiC ops cs m=true) {j:Nat} {o:Oper} (hj:j<m) (ho:ops[j]? =some o) (ha:QfB (cs j)=false):o.dst≠none:=by
 have:=List.all_eq_true.1 h j (by simpa using hj);rw[ha,ho] at this;intro e;simp only[e] at this;simp at this
theorem Qpt {x:Option CS} (h:Qhm x=false):QfB x=false:=by
 unfold QfB;split
 ·rename_i hc;cases h
 ·rfl
def Qov (P:Program) (tb:Tb) (cs:Nat→Option CS) (m:Nat) (ls:List Nat) (ops:List Oper) (S:St) (K:St→Prop):Prop:=
 match Qcu 0 ops with
 |true=>stK (Qop ((ops.take m).map (·.dst)) S) fun S0=>evM P tb cs ops ((ops.take m).map (·.dst)) S0 (ops.take m) 0 [] [] fun ancs R=>
   match Qgj S0 ancs R with
   |true=>stK (stOf S0 R fun _=>true) fun S1=>Qeb P tb ops (ops.drop m) S1 fun S=>S.noGds K
   | false => Stuck "drawn region what is made is named too early"
 | false => Stuck "drawn region its end is not forced"
theorem Qqz (hT:TOk P tb) (hmx:P.follows .mixedOrders=true) {id:Nat} {opsA:Array Oper} {S:St} {K:St→Prop} (cs:Nat→Option CS) (m:Nat) (ls:List Nat) (hml:m≤opsA.size) (hno:Qou cs m=true) (hfa:Qh3 m ls opsA.toList) (hdc:QiC opsA.toList cs m=true)
  (hls:∀i∈ls,∃t s k,Light opsA i t s k∧∀j o,opsA[j]? =some o→j≠i→i∈Zq o.after.toList∨(∃oi,opsA[i]? =some oi∧j∈Zq oi.after.toList)∨Comm opsA t s o)
  (h:Qov P tb cs m ls opsA.toList S K):DrawP P id opsA S K:=by
 refine⟨fun B w0 F ρ a w hs=>?_⟩;unfold Qov at h;split at h
 case h_2=>exact h.no.elim
 rename_i hfe;rw[Qes] at h;obtain⟨A,R,h1,h2,_,_,h5,h6⟩:=Qj1 _ 0 _ _ _ rfl rfl h;split at h5
 case h_2=>exact h5.no.elim
 rename_i hchk;rw[Qes] at h5;have W:=Qne (by simpa using h2) (by simpa using hml) h6 hfe hchk;have hdrew:Pure w {w with drawn:=w.drawn+1}:=⟨rfl,rfl,rfl,Nat.le_refl _,fun _ _=>rfl⟩;have hs0:Sim P B w0 F ρ (Qop ((opsA.toList.take m).map (·.dst)) S) a {w with drawn:=w.drawn+1}:=by
  have:=hs.pure hdrew;obtain⟨base,nt,ts,gs,bs,fs⟩:=S;exact this.congr (fun t v hv=>Qf2 hv) (fun g hg=>by simp at hg) (fun _ _=>Iff.rfl)
 refine wp_mono (Q:=fun e a' w'=>∃ρ' S',Sim P B w0 F ρ' S' a' w'∧e=.normal∧S'.noGds K) (wp_region_any hmx ?_) (fun e a' w' h=>by
  obtain⟨ρ',S',g1,g2,g3⟩:=h;obtain⟨S'',g4,g5⟩:=QdM g1 g3;exact⟨ρ',S'',g4,g2,g5⟩)
 have hE0:(fun i=>(Array.replicate opsA.size false).getD i false)=fun _=>false:=by
  funext i;rw[Array.getD_eq_getD_getElem?,Array.getElem?_replicate];split<;>rfl
 have hst0:∀S0:St,S0.gds=[]→stOf S0 R (fun _=>false)=S0:=by
  intro S0 hg;obtain⟨base,nt,ts,gs,bs,fs⟩:=S0;dsimp only at hg;subst hg;have:∀(i0:Nat) (R:List Rs),Qc6 (fun _=>false) i0 R=[]∧Qdi (fun _=>false) i0 R=[]∧JO (fun _=>false) i0 R=[]:=by
   intro i0 R
   induction R generalizing i0 with
   |nil=>exact⟨rfl,rfl,rfl⟩
   |cons r R ih=>
    obtain⟨g1,g2,g3⟩:=ih (i0+1);exact⟨by simp[Qc6,g1],by simp[Qdi,g2],by simp[JO,g3]⟩
  obtain⟨g1,g2,g3⟩:=this 0 R;unfold stOf;rw[g1,g2,g3];rfl
 have hun:unl (Array.replicate opsA.size false)=opsA.size:=by
  simp[unl,List.countP_replicate]
 have hend:Qeb P tb opsA.toList (opsA.toList.drop m) (stOf (Qop ((opsA.toList.take m).map (·.dst)) S) R fun _=>true) fun S=>(fun(e:Exit) (S':St)=>e=.normal∧S'.noGds K) .normal S:=by
  simpa using h5
 exact QwO (B:=B) (w0:=w0) (F:=F) hT W (Qmo hno) (fun j o hj ho=>Qj9 hdc hj ho (Qpt (Qmo hno j hj))) hfa hfe (Q:=fun(e:Exit) (S':St)=>e=.normal∧S'.noGds K) (fun e S h=>h.1) hls hend opsA.size (Array.replicate opsA.size false) (by simp) hun
  (fun i hi=>by rw[congrFun hE0 i] at hi;cases hi) (by rw[hE0];exact fun i _ hi=>by cases hi) ρ a {w with drawn:=w.drawn+1} (by
   rw[hE0,hst0 _ (by obtain⟨base,nt,ts,gs,bs,fs⟩:=S;rfl)];exact hs0)
def Qpu (ops:List Oper) (t s:Nat) (o:Oper):Bool:=
 (match o.op with
  | .select ..=>false
  |_=>true)&&(o.op.operands.toList.all (fun x=>match x with
   | .tmp u=>!Nat.beq u t
   |_=>true)&&(!isD o.dst t&&(!isD o.dst s&&(match o.guard with
  |none=>true
  |some (jg,_)=>(match ops[jg]? with
   |some oj=>!isD oj.dst t
   |none=>true)))))
def Qmp (ops:List Oper) (i t s:Nat) (fi:List Nat):Nat→List Oper→Bool
 |_,[]=>true
 |j,o::r=>(Nat.beq j i||(Z3 (Zq o.after.toList) i||(Z3 fi j||Qpu ops t s o)))&&Qmp ops i t s fi (j+1) r
def Qow (ops:List Oper) (i:Nat):Bool:=match ops[i]? with
 |some ⟨some t,.extract (.tmp s) _,_,_,after,none⟩=>Qmp ops i t s (Zq after.toList) 0 ops
 |_=>false
theorem QrQ {d:Option Nat} {t:Nat} (h:isD d t=false):d≠some t:=fun e=>by subst e;simp[isD] at h
theorem QrR {opsA:Array Oper} {t s:Nat} {o:Oper} (h:Qpu opsA.toList t s o=true):Comm opsA t s o:=by
 simp only[Qpu,Bool.and_eq_true,Bool.not_eq_true'] at h;obtain⟨h1,h2,h3,h4,h5⟩:=h;refine⟨fun cs b e=>(by rw[e] at h1;cases h1),fun x hx e=>?_,QrQ h3,QrQ h4,fun jg w hg=>?_⟩
 ·have:=List.all_eq_true.1 h2 x (by simpa using hx);subst e;simp at this
 ·rw[hg] at h5;dsimp only at h5
  cases hj:opsA[jg]? with
  |none=>simp
  |some oj=>
   have hj':opsA.toList[jg]? =some oj:=by simpa using hj
   rw[hj'] at h5;dsimp only at h5;simp only[Bool.not_eq_true'] at h5;simpa using QrQ h5
theorem Qlu {ops:List Oper} {i t s:Nat} {fi:List Nat}:∀ {l:List Oper} {j0:Nat},Qmp ops i t s fi j0 l=true→∀(j:Nat) (o:Oper),l[j]? =some o→j0+j≠i→i∈Zq o.after.toList∨j0+j∈fi∨Qpu ops t s o=true
 |q::l,j0,h,j,o,hj,hne=>by
  simp only[Qmp,Bool.and_eq_true,Bool.or_eq_true] at h
  cases j with
  |zero=>
   simp at hj;subst hj;rcases h.1 with h1|h1|h1|h1
   ·exact absurd (Nat.eq_of_beq_eq_true h1) (by simpa using hne)
   ·exact .inl (ZQ.1 h1)
   ·exact .inr (.inl (ZQ.1 h1))
   ·exact .inr (.inr h1)
  |succ j=>
   rw[show j0+(j+1)=j0+1+j by omega] at hne⊢;exact Qlu h.2 j o (by simpa using hj) hne
 |[],_,_,_,_,hj,_=>by simp at hj
theorem Qlv {opsA:Array Oper} {i:Nat} (h:Qow opsA.toList i=true):∃t s k,Light opsA i t s k∧∀j o,opsA[j]? =some o→j≠i→i∈Zq o.after.toList∨(∃oi,opsA[i]? =some oi∧j∈Zq oi.after.toList)∨Comm opsA t s o:=by
 unfold Qow at h;split at h
 ·rename_i t s k ty pos after hi;have hi':opsA[i]? =some ⟨some t,.extract (.tmp s) k,ty,pos,after,none⟩:=by simpa using hi
  refine⟨t,s,k,⟨ty,pos,after,hi'⟩,fun j o hj hne=>?_⟩;rcases Qlu h j o (by simpa using hj) (by omega) with h1|h1|h1
  ·exact .inl h1
  ·rw[Nat.zero_add] at h1;exact .inr (.inl ⟨_,hi',h1⟩)
  ·exact .inr (.inr (QrR h1))
 ·cases h
def Qlw:List Oper→List (List Bool)→List (List Bool)→Bool
 |[],_,_=>true
 |o::rest,acc,mk::mks=>QwN (Qnj acc (Zq o.after.toList)) mk&&Qlw rest (acc++[mk]) mks
 |_::_,_,[]=>false
theorem Qnn:∀(l:List Oper) (mks acc:List (List Bool)) (ancs:List (List Nat)),Qlw l acc mks=true→acc.length=ancs.length→(∀i k,QcT (Qei acc i) k=Z3 (nth ancs i) k)→
  ∀i k,QcT (Qei (acc++mks.take l.length) i) k=Z3 (nth (JV l ancs) i) k
 |[],mks,acc,ancs,_,_,h=>by simpa[JV] using h
 |o::rest,[],acc,ancs,h,_,_=>by simp[Qlw] at h
 |o::rest,mk::mks,acc,ancs,h,h1,hA=>by
  simp only[Qlw,Bool.and_eq_true] at h;obtain⟨e1,e4⟩:=h;have e1:=Qmk e1;have hmk:∀k,QcT mk k=Z3 (QbK ancs o) k:=fun k=>by rw[←e1];exact QgJ hA
  have hA':∀i k,QcT (Qei (acc++[mk]) i) k=Z3 (nth (ancs++[QbK ancs o]) i) k:=fun i k=>by
   rw[Qj4,Qj5,h1];split
   ·exact hmk k
   ·exact hA i k
  have:=Qnn rest mks (acc++[mk]) (ancs++[QbK ancs o]) e4 (by simp[h1]) hA';intro i k;simpa[JV] using this i k
def QrS (m:Nat) (ls:List Nat) (n:Nat) (M:List (List Bool)):Bool:=(List.range n).all fun k=>Nat.blt k m||(List.range k).all fun i=>QcT (Qei M k) i||(Nat.blt i m&&Z3 ls i)
theorem Qlx {m:Nat} {ls:List Nat} {ops:List Oper} {M:List (List Bool)} (h1:Qlw ops [] M=true) (h2:QrS m ls ops.length M=true) (hl:M.length=ops.length):Qh3 m ls ops:=fun j o ho hm e he=>by
 have hA:=Qnn ops M [] [] h1 rfl (fun i k=>rfl);rw[List.nil_append,List.take_of_length_le (by omega)] at hA;have hj:=(List.getElem?_eq_some_iff.1 ho).1;have:=List.all_eq_true.1 h2 j (by simpa using hj);simp only[Bool.or_eq_true] at this;rcases this with h|h
 ·have:j<m:=by simpa[Nat.blt_eq] using h
  omega
 ·have:=List.all_eq_true.1 h e (by simpa using he);simp only[Bool.or_eq_true,Bool.and_eq_true] at this;rcases this with h3|⟨h3,h4⟩
  ·rw[hA] at h3;exact .inl (ZQ.1 h3)
  ·exact .inr ⟨by simpa[Nat.blt_eq] using h3,ZQ.1 h4⟩
def QgK (m:Nat) (ls:List Nat) (ops:List Oper) (mks mkt:List (List Bool)):Bool:=
 (Qlw ops [] (mks++mkt)&&(QrS m ls ops.length (mks++mkt)&&(Nat.beq (mks++mkt).length ops.length&&(Qcu 0 ops&&ls.all (Qow ops)))))&&(Nat.beq mks.length m&&(Qj6 ops ((ops.take m).map (·.dst)) (ops.take m) [] mks&&Qh1 ((ops.take m).map (·.dst)) 0 ((ops.take m).map (·.dst))))
theorem QwP (hT:TOk P tb) (hmx:P.follows .mixedOrders=true) {id:Nat} {opsA:Array Oper} {S:St} {K:St→Prop} (cs:Nat→Option CS) (m:Nat) (ls:List Nat) (mks mkt:List (List Bool)) (hml:m≤opsA.size) (hno:(Qou cs m&&QiC opsA.toList cs m)=true)
  (hst:QgK m ls opsA.toList mks mkt=true) (h:Qml P tb cs m mks opsA.toList S K):DrawP P id opsA S K:=by
 simp only[QgK,Bool.and_eq_true] at hst;obtain⟨⟨hf1,hf2,hf3,he,hl0⟩,hl,hs2,hd⟩:=hst;simp only[Bool.and_eq_true] at hno;refine Qqz hT hmx cs m ls hml hno.1 (Qlx hf1 hf2 (Nat.eq_of_beq_eq_true hf3)) hno.2 (fun i hi=>Qlv (List.all_eq_true.1 hl0 i hi)) ?_;have hl:=Nat.eq_of_beq_eq_true hl;obtain⟨hs,hA⟩:=Qh2 (opsA.toList.take m) mks [] [] 0 hs2 rfl rfl (fun i k=>rfl);unfold Qov;simp only[he];unfold Qml at h;rw[Qes] at h⊢;have hlen:(opsA.toList.take m).length=m:=by simp;omega
 have hchk:∀S0 R,Qec S0 mks R=Qhp S0 (JV (opsA.toList.take m) []) R:=fun S0 R=>by
  have hA':∀i k,QcT (Qei mks i) k=Z3 (nth (JV (opsA.toList.take m) []) i) k:=fun i k=>by
   have:=hA i k;rwa[List.nil_append,hlen,List.take_of_length_le (by omega)] at this
  simp only[Qec,Qhp,hA']
 have key:=Qot (P:=P) (tb:=tb) (cs:=cs) (ops:=opsA.toList) (dsts:=(opsA.toList.take m).map (·.dst)) (S0:=Qop ((opsA.toList.take m).map (·.dst)) S)
  (K:=fun A R=>match Qgj (Qop ((opsA.toList.take m).map (·.dst)) S) A R with
   |true=>stK (stOf (Qop ((opsA.toList.take m).map (·.dst)) S) R fun _=>true) fun S1=>Qeb P tb opsA.toList (opsA.toList.drop m) S1 fun S=>S.noGds K
   | false => Stuck "drawn region what is made is named too early")
  (K':=fun R=>match Qec (Qop ((opsA.toList.take m).map (·.dst)) S) mks R with
   |true=>stK (stM (Qop ((opsA.toList.take m).map (·.dst)) S) R (List.replicate m true)) fun S1=>Qeb P tb opsA.toList (opsA.toList.drop m) S1 fun S=>S.noGds K
   | false => Stuck "drawn region what is made is named too early") (D := (opsA.toList.take m).map (·.dst)) (opsA.toList.take m) mks 0 [] [] hs rfl (by simp) (fun R' hR' => by
    rw[hchk,Qni hR' hd,QrL (E:=fun _=>true) fun i hi=>Qmm ?_];have:=congrArg List.length hR';simp at this;omega)
 exact Eq.mp key h
end Go.Ab
namespace Go.Ab
open Go.RowKit Go.ChangeShapes Go.WideShapes
inductive DRs (w:World) (ow:Nat→Prop):List D→List Value→Prop
 |nil:DRs w ow [] []
 |cons {d v ds vs}:DR w ow d v→DRs w ow ds vs→DRs w ow (d::ds) (v::vs)
def Qox (p:TypeId→List D→Prop):List (TypeId×Nat)→List D→Prop
 |[],ds=>ds=[]
 |(t,_)::r,ds=>∃d1 d2,ds=d1++d2∧p t d1∧Qox p r d2
def QeU (tb:Tb):Nat→TypeId→List D→Prop
 |0,_,_=>True
 |f+1,t,ds=>match tb.find t with
  |some ⟨.bool,_,_,_,_⟩=>∃b,ds=[.bool b]
  |some ⟨.int k,_,_,_,_⟩=>∃n,ds=[.int k n]∧k.min≤n∧n≤k.max
  |some ⟨.str,_,_,_,_⟩=>∃s,ds=[.str s]∧s.size≤140737488355328
  |some ⟨.slice e,_,_,_,_⟩=>(match tb.find e with
   |some ⟨_,_,by_,_,_⟩=>∃n row,ds=[.sl n row]∧n*by_≤140737488355328∧n≤9223372036854775807∧∀i,i<n→QeU tb f e (row i)
   |none=>True)
  |some ⟨.struct fs,_,_,_,_⟩=>Qox (QeU tb f) fs ds
  |_=>True
def lay (tb:Tb):Nat→List (TypeId×Nat)→Option Nat
 |o,[]=>some o
 |o,(t,off)::r=>match Nat.beq off o,tb.find t with
  |true,some ti=>lay tb (o+ti.size) r
  |_,_=>none
def QrT (tb:Tb):Nat→TypeId→Bool
 |0,_=>false
 |f+1,t=>match tb.find t with
  |some ⟨.bool,_,_,_,_⟩=>true
  |some ⟨.int _,_,_,_,_⟩=>true
  |some ⟨.str,_,_,_,_⟩=>true
  |some ⟨.slice e,_,_,_,_⟩=>(match tb.find e with
   |some ti=>Nat.blt 0 ti.size
   |none=>false)&&QrT tb f e
  |some ⟨.struct fs,sz,_,_,_⟩=>(lay tb 0 fs==some sz)&&fs.all fun p=>QrT tb f p.1
  |_=>false
variable {P:Program} {tb:Tb} {w:World} {ow:Nat→Prop} {H:Type} {enc:TypeId×Value→H} {base:Nat} {spare:Nat→Bool} {held:Bool}
theorem DRs.len {ds:List D} {vs:List Value} (h:DRs w ow ds vs):ds.length=vs.length:=by
 induction h with
 |nil=>rfl
 |cons _ _ ih=>simp[ih]
theorem DRs.append {ds ds':List D} {vs vs':List Value} (h:DRs w ow ds vs) (h':DRs w ow ds' vs'):DRs w ow (ds++ds') (vs++vs'):=by
 induction h with
 |nil=>exact h'
 |cons a _ ih=>exact .cons a ih
theorem DRs.get {ds:List D} {vs:List Value} (h:DRs w ow ds vs):∀ {j:Nat} {d:D},ds[j]? =some d→∃v,vs[j]? =some v∧DR w ow d v:=by
 induction h with
 |nil=>intro j d hj;simp at hj
 |cons a _ ih=>
  intro j d hj
  cases j with
  |zero=>simp at hj;subst hj;exact⟨_,rfl,a⟩
  |succ j=>simpa using ih (by simpa using hj)
theorem Qh4 (hT:TOk P tb) {t:TypeId} {ti:TI} (h:tb.find t=some ti):P.cellsOf t=ti.size∧P.bytesOf t=ti.bytes:=by
 obtain⟨i,z,h1,h2,h3,_⟩:=(hT.ok t ti h).info;simp[Program.cellsOf,Program.bytesOf,h1,h2,h3]
theorem Qgk {e:TypeId}:∀ {ds:List (DataW H)} {d:DataW H},d∈ds→∀n∈d.weights P e,n∈DataW.weightsAll P e ds
 |x::r,d,hd,n,hn=>by
  simp only[DataW.weightsAll,List.mem_append];rcases List.mem_cons.1 hd with hd|hd
  ·subst hd;exact .inl hn
  ·exact .inr (Qgk hd n hn)
 |[],_,hd,_,_=>by simp at hd
theorem Qgl (hT:TOk P tb) {t:TypeId} {ti:TI} (h:tb.find t=some ti):∃d,P.underlying t=some d∧kOk ti.kind d=true:=(hT.ok t ti h).kind
theorem Qvp (hT:TOk P tb):∀(f:Nat) (t:TypeId) (cs:List Value) (fuel:Nat) (x:DataW H×List MemPlace),QrT tb f t=true→
  DataW.trod enc P w base spare held fuel t cs=some x→(∀n∈x.1.weights P t,n≤reachBytes)→∃ds,DRs w (fun _=>False) ds cs∧QeU tb f t ds:=by
 intro f
 induction f with
 |zero=>intro t cs fuel x h;simp[QrT] at h
 |succ f ih=>
  intro t cs fuel x hok h hw;simp only[QrT] at hok;split at hok
  ·rename_i hf;obtain⟨d,hd,hk⟩:=Qgl hT hf
   cases d<;>simp only[kOk] at hk<;>try (cases hk;done)
   obtain⟨b,rfl,_⟩:=DataW.trod_bool hd h;exact⟨[.bool b],.cons .bool .nil,by simp only[QeU,hf];exact⟨b,rfl⟩⟩
  ·rename_i hf;obtain⟨d,hd,hk⟩:=Qgl hT hf
   cases d<;>simp only[kOk] at hk<;>try (cases hk;done)
   have hk:=of_decide_eq_true hk;subst hk;obtain⟨n,rfl,_,hwf⟩:=DataW.trod_int hd h;simp only[Lit.wf,Bool.and_eq_true,decide_eq_true_eq] at hwf;exact⟨[.int _ n],.cons .int .nil,by simp only[QeU,hf];exact⟨n,rfl,hwf⟩⟩
  ·rename_i hf;obtain⟨d,hd,hk⟩:=Qgl hT hf
   cases d<;>simp only[kOk] at hk<;>try (cases hk;done)
   obtain⟨s,rfl,rfl,hs⟩:=DataW.trod_string hd h;refine⟨[.str s],.cons .str .nil,?_⟩;simp only[QeU,hf];refine⟨s,rfl,?_⟩;have:=hw s.data.toList.length (by unfold DataW.weights;exact List.mem_singleton.2 rfl);have e:s.data.toList.length=s.size:=rfl;rw[e] at this;unfold reachBytes at this;omega
  ·rename_i e _ _ _ _ hf;obtain⟨d,hd,hk⟩:=Qgl hT hf
   cases d<;>simp only[kOk] at hk<;>try (cases hk;done)
   have hk:=eq_of_beq hk;subst hk;rw[Bool.and_eq_true] at hok;obtain⟨hpos,hoke⟩:=hok;split at hpos
   case h_2=>cases hpos
   rename_i ti hfe;obtain⟨kk,sz,byt,zz,qq⟩:=ti;have hpos:0<sz:=by simpa[Nat.blt_eq] using hpos
   obtain⟨hc1,hc2⟩:=Qh4 hT hfe;dsimp only at hc1 hc2;rcases Go.Deep.open_slice hd h with ⟨rfl,_⟩|⟨a,len,cap,m,n,Df,Pl,rfl,_,hlc,hcm,hm,rfl,hi⟩
   ·refine⟨[.sl 0 fun _=>[]],.cons (.sl0 rfl) .nil,?_⟩;simp only[QeU,hf,hfe];exact⟨0,_,rfl,by omega,by omega,fun i hi=>absurd hi (Nat.not_lt_zero _)⟩
   ·have hlm:len≤m:=by rw[hm];split<;>omega
    have hwt:len*byt≤reachBytes:=by
     have:=hw ((((List.range len).map Df).length+((List.range (m-len)).map fun j=>Df (len+j)).length)*P.bytesOf e) (by simp[DataW.weights,hd]);simp only[List.length_map,List.length_range] at this;rw[hc2,show len+(m-len)=m by omega] at this;exact Nat.le_trans (Nat.mul_le_mul_right _ hlm) this
    have hin:∀i,i<len→∃(y:List D×List Value),DRs w (fun _=>False) y.1 y.2∧QeU tb f e y.1∧y.2.length=sz∧∀j,j<sz→w.cell? (a.add (i*sz+j))=y.2[j]?:=fun i hil=>by
     obtain⟨cs',h1,h2⟩:=hi i (by omega);rw[hc1] at h1;obtain⟨_,g2,g3⟩:=World.cells?_some h1;obtain⟨ds,g4,g5⟩:=ih e cs' n _ hoke h2 (fun k hk=>hw k (by
      simp only[DataW.weights,hd,List.mem_cons,List.mem_append];exact .inr (.inl (Qgk (List.mem_map.2 ⟨i,by simpa using hil,rfl⟩) k hk))))
     exact⟨(ds,cs'),g4,g5,g2,fun j hj=>by rw[←Go.Deep.add_add];exact g3 j hj⟩
    obtain⟨Y,hY⟩:=Go.Deep.choose_lt (α:=List D×List Value) hin;refine⟨[.sl len fun i=>(Y i).1],?_,?_⟩
    ·refine .cons ?_ .nil
     by_cases h0:len=0
     ·subst h0;exact .sl0 rfl
     ·obtain⟨b,off,spot⟩:=a;have hspot:spot=none∧b<w.heap.size:=by
       obtain⟨g1,_,g3,g4⟩:=hY 0 (by omega);have:=g4 0 hpos;rw[List.getElem?_eq_getElem (by omega)] at this;have e0:(0*sz+0)=0:=by omega
       rw[e0] at this;exact⟨by simpa[Addr.add] using World.cell?_spot this,by have:=Qru this;simpa[Addr.add] using this⟩
      obtain⟨rfl,hb⟩:=hspot;have hadd:∀k,(⟨b,off,none⟩:Addr).add k=⟨b,off+k,none⟩:=fun k=>by
       unfold Addr.add;split
       ·rename_i h;subst h;rfl
       ·rfl
      refine .sl (sz:=sz) (fun i j=>(Y i).2.getD j undef) (fun h=>h) hb (fun i hil=>?_) (fun i j d hil hjd=>?_) (fun i j d hil hjd=>?_) hlc
      ·obtain⟨g1,_,g3,_⟩:=hY i hil;rw[g1.len,g3]
      ·obtain⟨g1,_,g3,g4⟩:=hY i hil;obtain⟨v,hv,_⟩:=g1.get hjd;have hj:j<sz:=by have:=(List.getElem?_eq_some_iff.1 hv).1;omega
       have:=g4 j hj;rw[hadd,←Nat.add_assoc] at this;rw[this,hv,List.getD_eq_getElem?_getD,hv];rfl
      ·obtain⟨g1,_,g3,g4⟩:=hY i hil;obtain⟨v,hv,hdr⟩:=g1.get hjd;rw[List.getD_eq_getElem?_getD,hv];exact hdr
    ·simp only[QeU,hf,hfe];unfold reachBytes at hwt;unfold maxLen at hcm;exact⟨len,_,rfl,by omega,by omega,fun i hil=>(hY i hil).2.1⟩
  ·rename_i fs sz _ _ _ hf;obtain⟨d,hd,hk⟩:=Qgl hT hf
   cases d<;>simp only[kOk] at hk<;>try (cases hk;done)
   rename_i fields;rw[Bool.and_eq_true] at hk;have hfs:=eq_of_beq hk.1;rw[Bool.and_eq_true] at hok;obtain⟨hlay,hall⟩:=hok;have hlay:=eq_of_beq hlay;obtain⟨hc1,_⟩:=Qh4 hT hf;dsimp only at hc1;obtain⟨xs,n,_,rfl,hlen,hxl,hg⟩:=DataW.trod_struct hd h;rw[hc1] at hlen;simp only[QeU,hf];have key:∀(L:List (TypeId×Nat)) (k o:Nat),(∀i,L[i]? =fs[k+i]?)→lay tb o L=some sz→∃ds,DRs w (fun _=>False) ds (cs.drop o)∧Qox (QeU tb f) L ds:=by
    intro L
    induction L with
    |nil=>
     intro k o _ hl;simp only[lay,Option.some.injEq] at hl;refine⟨[],?_,rfl⟩;rw[List.drop_eq_nil_of_le (by omega)];exact .nil
    |cons p L ihL=>
     intro k o hsub hl;obtain⟨ft,off⟩:=p;simp only[lay] at hl;split at hl
     case h_2=>cases hl
     rename_i ti hb hft;have hb:=Nat.eq_of_beq_eq_true hb;subst hb;obtain⟨ds2,g1,g2⟩:=ihL (k+1) (off+ti.size) (fun i=>by
      have:=hsub (i+1);simp only[List.getElem?_cons_succ] at this;rw[this];congr 1;omega) hl
     have hk0:fs[k]? =some (ft,off):=by have:=hsub 0;simpa using this.symm
     rw[hfs,List.getElem?_map] at hk0;obtain⟨fd,hfd,he⟩:=Option.map_eq_some_iff.1 hk0;simp only[Prod.mk.injEq] at he;obtain⟨rfl,rfl⟩:=he;have hfd':fields[k]? =some fd:=by simpa using hfd
     have hx:=hg k fd hfd';have hkl:k<xs.length:=by rw[hxl];exact(Array.getElem?_eq_some_iff.1 hfd').1
     rw[List.getElem?_eq_getElem hkl] at hx;obtain⟨hs1,_⟩:=Qh4 hT hft;rw[hs1] at hx;obtain⟨ds1,g3,g4⟩:=ih _ _ _ _ (List.all_eq_true.1 hall (fd.type,fd.offset) (by rw[hfs];exact List.mem_map.2 ⟨fd,List.mem_of_getElem? hfd,rfl⟩)) hx (fun j hj=>hw j (by
      simp only[DataW.weights,hd];refine DataW.weights_mem_each (j:=k) (t:=fd.type) (d:=xs[k].1) (by simp[hfd]) (by simp[List.getElem?_eq_getElem hkl]) j hj))
     refine⟨ds1++ds2,?_,⟨ds1,ds2,rfl,g4,g2⟩⟩;have:=g3.append g1;rw[show cs.drop (fd.offset+ti.size)=(cs.drop fd.offset).drop ti.size by rw[List.drop_drop],List.take_append_drop] at this;exact this
   obtain⟨ds,g1,g2⟩:=key fs 0 0 (fun i=>by rw[Nat.zero_add]) hlay;exact⟨ds,by simpa using g1,g2⟩
  ·cases hok
end Go.Ab
namespace Go.Ab
open Go.RowKit Go.ChangeShapes Go.WideShapes
variable {P:Program} {tb:Tb} {w:World} {ow:Nat→Prop} {H:Type} {enc:TypeId×Value→H} {base:Nat} {spare:Nat→Bool} {held:Bool}
def Qvq (tb:Tb) (t:TypeId) (ds:List D):V:=match tb.find t with
 |some ⟨.struct _,_,_,_,_⟩=>.agg (ds.map .d)
 |_=>(match ds with
  |[d]=>.d d
  |_=>.any)
def Qmq (tb:Tb):List TypeId→List (List D)→List V
 |t::ts,ds::r=>Qvq tb t ds::Qmq tb ts r
 |_,_=>[]
def QeV (tb:Tb) (f:Nat):List TypeId→List (List D)→Prop
 |[],[]=>True
 |t::ts,ds::r=>QeU tb f t ds∧QeV tb f ts r
 |_,_=>False
theorem Qje {t:TypeId} {ds:List D} {v:Value} {ρ:Env} (hn:∀fs a b c d,tb.find t≠some ⟨.struct fs,a,b,c,d⟩) (h:DRs w ow ds [v]):VR w ow ρ (Qvq tb t ds) v:=by
 cases h with|cons h1 h2=>
 cases h2
 unfold Qvq;split
 ·rename_i hf;exact absurd hf (hn _ _ _ _ _)
 ·exact .d h1
theorem Qtw (hT:TOk P tb) {f:Nat} {t:TypeId} {v:Value} {d:DataW H} {p:List MemPlace} {r:Reach} {b0:Nat} (ρ:Env) (hok:QrT tb f t=true) (hv:Value.okWide P w r b0 t v)
  (h:DataW.Trod enc P w base spare held t v d p) (hw:∀n∈d.weights P t,n≤reachBytes):∃ds,QeU tb f t ds∧VR w (fun _=>False) ρ (Qvq tb t ds) v:=by
 obtain⟨fuel,hf⟩:=h;obtain⟨ds,h1,h2⟩:=Qvp hT f t _ _ _ hok hf hw;refine⟨ds,h2,?_⟩
 cases f with
 |zero=>simp[QrT] at hok
 |succ f=>
  simp only[QrT] at hok;split at hok
  ·rename_i hfd;obtain⟨d,hd,hk⟩:=Qgl hT hfd
   cases d<;>simp only[kOk] at hk<;>try (cases hk;done)
   obtain⟨b,rfl⟩:=okWide_bool hd hv;exact Qje (fun _ _ _ _ _ e=>by rw[hfd] at e;cases e) h1
  ·rename_i hfd;obtain⟨d,hd,hk⟩:=Qgl hT hfd
   cases d<;>simp only[kOk] at hk<;>try (cases hk;done)
   obtain⟨b,rfl⟩:=okWide_int hd hv;exact Qje (fun _ _ _ _ _ e=>by rw[hfd] at e;cases e) h1
  ·rename_i hfd;obtain⟨d,hd,hk⟩:=Qgl hT hfd
   cases d<;>simp only[kOk] at hk<;>try (cases hk;done)
   obtain⟨b,rfl⟩:=okWide_string hd hv;exact Qje (fun _ _ _ _ _ e=>by rw[hfd] at e;cases e) h1
  ·rename_i hfd;obtain⟨d,hd,hk⟩:=Qgl hT hfd
   cases d<;>simp only[kOk] at hk<;>try (cases hk;done)
   obtain⟨a,l,c,rfl⟩:=okWide_slice hd hv;exact Qje (fun _ _ _ _ _ e=>by rw[hfd] at e;cases e) h1
  ·rename_i hfd;obtain⟨d,hd,hk⟩:=Qgl hT hfd
   cases d<;>simp only[kOk] at hk<;>try (cases hk;done)
   obtain⟨cs,rfl,_⟩:=okWide_struct hd hv;have h1:DRs w (fun _=>False) ds cs.toList:=h1;have hlen:=h1.len;unfold Qvq;rw[hfd];refine .agg (by simp[hlen]) (fun j hj=>?_) (fun j u hu=>?_)
   ·have:ds[j]? =some (ds[j]'(by simp at hlen;omega)):=List.getElem?_eq_getElem _;obtain⟨x,hx,hdr⟩:=h1.get this;have hx':cs[j]? =some x:=by simpa using hx
    rw[Array.getD_eq_getD_getElem?,hx'];exact hdr.oneCell
   ·rw[List.getElem?_map] at hu;obtain⟨d,hd',rfl⟩:=Option.map_eq_some_iff.1 hu;obtain⟨x,hx,hdr⟩:=h1.get hd';have hx':cs[j]? =some x:=by simpa using hx
    rw[Array.getD_eq_getD_getElem?,hx'];exact .d hdr
  ·cases hok
theorem Qno (hT:TOk P tb) {f:Nat} (ρ:Env):∀ {ts:List TypeId} {vs:List Value} {ds:List (DataW H)} {ps:List MemPlace},(∀t∈ts,QrT tb f t=true)→
  (∀(j:Nat) t v,ts[j]? =some t→vs[j]? =some v→∃r b0,Value.okWide P w r b0 t v)→DataW.TrodAll enc P w base spare held ts vs ds ps→
  (∀(j:Nat) t d,ts[j]? =some t→ds[j]? =some d→∀n∈d.weights P t,n≤reachBytes)→
  ∃dss,QeV tb f ts dss∧vs.length=(Qmq tb ts dss).length∧∀(j:Nat) u,(Qmq tb ts dss)[j]? =some u→VR w (fun _=>False) ρ u (vs.getD j undef)
 |[],vs,ds,ps,_,_,h,_=>by
  obtain⟨rfl,_,_⟩:=trodAll_nil h;exact⟨[],trivial,rfl,fun j u hu=>by simp[Qmq] at hu⟩
 |t::ts,vs,ds,ps,hok,hv,h,hw=>by
  obtain⟨v,vs',d,ds',p,q,rfl,rfl,rfl,h1,h2⟩:=trodAll_cons h;obtain⟨r,b0,hv0⟩:=hv 0 t v rfl rfl;obtain⟨x,g1,g2⟩:=Qtw hT ρ (hok t (by simp)) hv0 h1 (hw 0 t d rfl rfl);obtain⟨dss,g3,g4,g5⟩:=Qno hT ρ (fun u hu=>hok u (by simp[hu])) (fun j t' v' ht hv'=>hv (j+1) t' v' (by simpa using ht) (by simpa using hv')) h2 (fun j t' d' ht hd'=>hw (j+1) t' d' (by simpa using ht) (by simpa using hd'));refine⟨x::dss,⟨g1,g3⟩,by simp[Qmq,g4],fun j u hu=>?_⟩
  cases j with
  |zero=>simp[Qmq] at hu;subst hu;simpa using g2
  |succ j=>simpa using g5 j u (by simpa[Qmq] using hu)
theorem Qhq (hl:laidOutB P=true) {W W':World} (hb:Below W.heap.size W W'):∀ {ts:List TypeId} {vs:List Value} {ds:List (DataW H)} {ps:List MemPlace},
  (∀t∈ts,P.readableRec t=true∧t<P.types.size)→(∀x∈ps,x.block<W.heap.size)→
  DataW.TrodAll enc P W 0 (fun _=>true) true ts vs ds ps→DataW.TrodAll enc P W' 0 (fun b=>decide (b<W.heap.size)) true ts vs ds ps
 |[],vs,ds,ps,_,_,h=>by
  obtain⟨rfl,rfl,rfl⟩:=trodAll_nil h;rfl
 |t::ts,vs,ds,ps,hr,hlt,h=>by
  obtain⟨v,vs',d,ds',p,q,rfl,rfl,rfl,h1,h2⟩:=trodAll_cons h;exact⟨p,q,Below.trod hl (hr t (by simp)).1 (hr t (by simp)).2 h1 hb (fun x hx=>hlt x (by simp[hx])),Qhq hl hb (fun u hu=>hr u (by simp[hu])) (fun x hx=>hlt x (by simp[hx])) h2,rfl⟩
theorem Qka:∀ {ts:List TypeId} {vs:List Value} {ds:List (DataW H)} {ps:List MemPlace},DataW.TrodAll enc P w base spare held ts vs ds ps→ds.length=ts.length
 |[],vs,ds,ps,h=>by obtain⟨rfl,rfl,rfl⟩:=trodAll_nil h;rfl
 |t::ts,vs,ds,ps,h=>by
  obtain⟨v,vs',d,ds',p,q,rfl,rfl,rfl,h1,h2⟩:=trodAll_cons h;simp[Qka h2]
theorem Qtx {C:Checked} {f:FuncId} {fn:Func} {s:ChangeSpec} {fu:Nat} {tb:Tb} {rt:TypeId} (hT:TOk C.prog tb)
  (hl:laidOutB C.prog=true) (hread:fn.params.toList.all (fun t=>C.prog.readableRec t&&decide (t<C.prog.types.size))=true) (hok:fn.params.toList.all (QrT tb fu)=true) (hvars:s.vars=[])
  (hres:fn.resultTypes=#[rt]) (hbool:C.prog.underlying rt=some .bool)
  (hspec:∀ds:List (DataW H),ds.length=fn.params.toList.length→s.fn H ds={results:=[.lit (.bool true)],args:=ds})
  (law:∀dss,QeV tb fu fn.params.toList dss→PureC C.prog f (Qmq tb fn.params.toList dss) (.d (.bool true)) [])
  (W:World) (base:Nat) (args:Array Value) (ds gs:List (DataW H)) (before:List MemPlace)
  (hval:∀(j:Nat) t v,fn.params[j]? =some t→args[j]? =some v→Value.okWide C.prog W .any base t v)
  (hW:DataW.Whole enc C.prog fn.params.toList s.vars false W args.toList ds gs before)
  (hwt:(DataW.weightsEach C.prog (fn.params.toList++s.plain.varTypes C.prog) (ds++gs)).all (·≤reachBytes)=true)
  (htab:TabB C.prog (fun b=>b<W.heap.size) W):
  Calls C.prog f args W fun e W'=>∃v,e=.returned v∧s.post enc C.prog fn false true false false W args v W':=by
 have hW':=hW;obtain⟨p,q,hA,hV,rfl,hfz,hnd⟩:=hW;have hgs:gs=[]∧q=[]:=by
  rw[hvars] at hV;exact trodVars_none hV
 obtain⟨rfl,rfl⟩:=hgs;have hlt:∀x∈p,x.block<W.heap.size:=fun x hx=>hW'.lt x (by simp[hx]);have hdl:=Qka hA;obtain⟨dss,g1,g2,g3⟩:=Qno hT (f:=fu) (fun _=>⟨0,0,0,0,0,true⟩) (fun t ht=>List.all_eq_true.1 hok t ht) (fun j t v ht hv=>⟨_,_,hval j t v (by simpa using ht) (by simpa using hv)⟩) hA
  (fun j t d ht hd n hn=>by
   have hj:j<fn.params.toList.length:=(List.getElem?_eq_some_iff.1 ht).1;have:=List.all_eq_true.1 hwt n (DataW.weights_mem_each (j:=j) (t:=t) (d:=d) (by rw[List.getElem?_append_left hj];exact ht) (by rw[List.getElem?_append_left (by omega)];exact hd) n hn);simpa using this)
 have hc:=law dss g1;refine(hc.out W args (fun _=>⟨0,0,0,0,0,true⟩) ⟨by simpa using g2,fun j u hu=>?_⟩ htab).mono fun e W' he=>?_
 ·have:=g3 j u hu;rw[List.getD_eq_getElem?_getD] at this;rw[Array.getD_eq_getD_getElem?];simpa using this
 ·obtain⟨v,ρ,rfl,hp,hv,_⟩:=he;have hb:=hv.bool_inv;subst hb;have hbe:=hp.below;have hs:=hspec (ds++[]) (by simp[hdl]);rw[List.append_nil] at hs;refine⟨_,rfl,⟨ds,[],p++[],[],p,[],hW',?_,?_,?_,hbe.frame _,fun h=>by cases h⟩⟩
  ·rw[List.append_nil,hs,hres];exact trodAll_mk1 ⟨1,by simp[DataW.trod,Value.cells,hbool]⟩
  ·rw[List.append_nil,hs];exact Qhq hl hbe (fun t ht=>by have:=List.all_eq_true.1 hread t ht;simpa using this) hlt hA
  ·rw[List.append_nil,hs,hvars];rfl
theorem Qh5 {a:Assume} {C:Checked} {os:Os} {f:FuncId} {fn:Func} {s:ChangeSpec} {conds:List PathCond} {apart fresh handsOn again:Bool} {X:World→Array Value→Prop}
  (hX:∀(w w':World) (args:Array Value),w.heap=w'.heap→X w args→X w' args)
  (own:ownKnob C.prog.godebug=none) (started:os.Started) (noInit:C.prog.inits.idxOf? f=none) (hfn:C.prog.funcs[f]? =some fn)
  (witness:∃(w:World) (tape:Tape) (i:Input),w.os=os∧(w.forCall tape i).Shaped C.prog∧i.vars=[]∧Input.okWide C.prog (w.forCall tape i) .any w.heap.size f i∧
   ((s.pre enc C.prog fn conds apart (w.forCall tape i).memory i.args∧X (w.forCall tape i).memory i.args)∧sizedMet enc C.prog fn (OpenSpec.ofChange s) apart (w.forCall tape i).memory i.args)∧a.holds C.prog (lone (Frame.enter C.prog f i.args .normal) [] (w.forCall tape i)))
  (contract:∀(W:World) (base:Nat) (args:Array Value) (ds gs:List (DataW H)) (before:List MemPlace),
   (∀(j:Nat) t v,fn.params[j]? =some t→args[j]? =some v→Value.okWide C.prog W .any base t v)→
   DataW.Whole enc C.prog fn.params.toList s.vars apart W args.toList ds gs before→
   conds.all (PathCond.test C.prog ⟨fn.params.toList,ds,s.plain.varTypes C.prog,gs⟩)=true→
   (DataW.weightsEach C.prog (fn.params.toList++s.plain.varTypes C.prog) (ds++gs)).all (·≤reachBytes)=true→X W args→W.ShapedOpen C.prog→
   a.holds C.prog (lone (Frame.enter C.prog f args .normal) [] W)→
   Calls C.prog f args W fun e W'=>∃v,e=.returned v∧s.post enc C.prog fn apart fresh handsOn again W args v W'):
  ReturnsInHanded a C os f .any (fun w args=>(s.pre enc C.prog fn conds apart w args∧X w args)∧sizedMet enc C.prog fn (OpenSpec.ofChange s) apart w args) (s.post enc C.prog fn apart fresh handsOn again):=by
 refine returnsInHanded_of_calls own started noInit witness ?_;intro w tape i _ hsh _ hok hpre hholds;obtain⟨_,_,_,fn',hfn',_,_,_,_,hval⟩:=hok;have e:fn'=fn:=Option.some.inj (hfn'.symm.trans hfn);subst e;obtain⟨⟨⟨ds,gs,before,hw,hc⟩,hx⟩,hz⟩:=hpre;have hw':=DataW.Whole.of_heap (w':=w.forCall tape i) (by rfl) hw;refine(contract (w.forCall tape i) w.heap.size i.args ds gs before hval hw' hc (hz.weights hw) (hX _ _ _ (by rfl) hx) hsh hholds).mono fun e W' ⟨v,he,hp⟩=>?_;subst he;exact ChangeSpec.post_blind hp
end Go.Ab
namespace Go.Ab
open Go.RowKit
variable {P:Program} {tb:Tb}
noncomputable def Jw (f:Func):Code:=f.body.getD .skip
@[reducible] def rows {α:Type} [Inhabited α] (enc:α→List D) (xs:List α):Nat→List D:=fun i=>enc (xs.getD i default)
@[reducible] def slD {α:Type} [Inhabited α] (enc:α→List D) (xs:List α):D:=.sl xs.length (rows enc xs)
@[reducible] def i64 (n:Int):V:=.d (.int .i64 n)
@[reducible] def bl (b:Bool):V:=.d (.bool b)
@[reducible] def Q3 (n:Int):List D:=[.int .u8 n]
theorem Qrg {n:Nat} {xs:List Int}:Qpe n (rows Q3 xs):=fun _ _=>rfl
def Qoy (n:Int):Prop:=0≤n∧n≤255
structure DLe (d d':D):Prop where
 out:∀w ow x,DR w ow d x→DR w ow d' x
theorem DLe.refl (d:D):DLe d d:=⟨fun _ _ _ h=>h⟩
def DsLe:List D→List D→Prop
 |[],[]=>True
 |d::r,d'::r'=>DLe d d'∧DsLe r r'
 |_,_=>False
theorem DsLe.refl:∀(ds:List D),DsLe ds ds
 |[]=>trivial
 |d::r=>⟨.refl d,.refl r⟩
theorem DsLe.len:∀ {ds ds':List D},DsLe ds ds'→ds.length=ds'.length
 |[],[],_=>rfl
 |_::_,_::_,h=>by simp[DsLe.len h.2]
 |[],_::_,h=>h.elim
 |_::_,[],h=>h.elim
theorem DsLe.get:∀ {ds ds':List D} {j:Nat} {d':D},DsLe ds ds'→ds'[j]? =some d'→∃d,ds[j]? =some d∧DLe d d'
 |d::r,d'::r',0,u,h,hu=>by simp at hu;subst hu;exact⟨d,rfl,h.1⟩
 |d::r,d'::r',j+1,u,h,hu=>by simpa using DsLe.get h.2 (by simpa using hu)
 |[],[],_,_,_,hu=>by simp at hu
 |[],_::_,_,_,h,_=>h.elim
 |_::_,[],_,_,h,_=>h.elim
theorem DLe.sl {n:Nat} {row row':Nat→List D} (h:∀i,i<n→DsLe (row i) (row' i)):DLe (.sl n row) (.sl n row'):=⟨fun w ow x hx=>by
 cases hx with
 |sl0 h0=>exact .sl0 h0
 |sl vals h1 h2 h3 h4 h5 h6=>
  refine .sl vals h1 h2 (fun i hi=>by rw[←(h i hi).len];exact h3 i hi) (fun i j d hi hd=>?_) (fun i j d hi hd=>?_) h6
  ·obtain⟨d0,g1,_⟩:=(h i hi).get hd;exact h4 i j d0 hi g1
  ·obtain⟨d0,g1,g2⟩:=(h i hi).get hd;exact g2.out _ _ _ (h5 i j d0 hi g1)⟩
theorem VLe.d {d d':D} (h:DLe d d'):VLe (.d d) (.d d'):=⟨fun w ow ρ x hx=>by cases hx with|d hx=>exact .d (h.out _ _ _ hx)⟩
theorem PureC.le {f:FuncId} {us vs:List V} {res:V} {nb:List Nb} (h:CellsLe us vs) (k:PureC P f vs res nb):PureC P f us res nb:=by
 refine⟨k.can,k.flat,k.rows,k.dist,k.ids,fun w vals ρ0 ha ht=>k.out w vals ρ0 ?_ ht⟩;obtain⟨h1,h2⟩:=h.get;refine⟨by rw[ha.1,h1],fun j v hj=>?_⟩;obtain⟨u,hu,hle⟩:=h2 j v hj;exact hle.out _ _ _ _ (ha.2 j u hu)
theorem Qty {α:Type} [Inhabited α] {enc:α→List D} {ok:α→Prop} {f:Nat} {t e:TypeId} {z1 z2 z3 z4:_} {k1 k2 k3 k4 k5:_} (ht:tb.find t=some ⟨.slice e,z1,z2,z3,z4⟩) (he:tb.find e=some ⟨k1,k2,k3,k4,k5⟩)
  (hel:∀ds,QeU tb f e ds→∃x,ok x∧DsLe ds (enc x)) {ds:List D} (h:QeU tb (f+1) t ds):
  ∃xs:List α,(∀x∈xs,ok x)∧xs.length*k3≤140737488355328∧xs.length≤9223372036854775807∧DsLe ds [slD enc xs]:=by
 simp only[QeU,ht,he] at h;obtain⟨n,row,rfl,h1,h2,h3⟩:=h;obtain⟨F,hF⟩:=Go.Deep.choose_lt (α:=α) (fun i hi=>hel (row i) (h3 i hi));refine⟨(List.range n).map F,fun x hx=>?_,by simpa using h1,by simpa using h2,⟨?_,trivial⟩⟩
 ·obtain⟨i,hi,rfl⟩:=List.mem_map.1 hx;exact(hF i (by simpa using hi)).1
 ·have:slD enc ((List.range n).map F)=.sl n (rows enc ((List.range n).map F)):=by simp[slD]
  rw[this];refine DLe.sl fun i hi=>?_;have e:rows enc ((List.range n).map F) i=enc (F i):=by
   simp[rows,List.getD_eq_getElem?_getD,List.getElem?_map,List.getElem?_range hi]
  rw[e];exact(hF i hi).2
theorem QqA {f:Nat} {t:TypeId} {z1 z2 z3 z4:_} (ht:tb.find t=some ⟨.int .u8,z1,z2,z3,z4⟩) {ds:List D} (h:QeU tb (f+1) t ds):∃n:Int,Qoy n∧DsLe ds [.int .u8 n]:=by
 simp only[QeU,ht] at h;obtain⟨n,rfl,h1,h2⟩:=h;exact⟨n,⟨h1,h2⟩,.refl _⟩
theorem QC {n:Int} (h1:-9223372036854775808≤n) (h2:n≤9223372036854775807):IntKind.i64.wrap n=n:=by
 have e1:IntKind.bits .i64=64:=rfl;have e2:IntKind.signed .i64=true:=rfl;unfold IntKind.wrap;simp only[e1,e2,Bool.true_and]
 by_cases hn:0≤n
 ·rw[Int.emod_eq_of_lt hn (by omega)];split
  ·rename_i h;simp at h;omega
  ·rfl
 ·have e:n%2^64=n+2^64:=by omega
  rw[e];split
  ·omega
  ·rename_i h;simp at h;omega
theorem VLe.osl {id off len off' len':Nat} (h:off=off') (h2:len=len'):VLe (.osl id off len) (.osl id off' len'):=.of (by rw[h,h2])
theorem Qdy {S:St} {al:List (Nat×Bool)}:∀ {l:List (Nat×Bool)} {p q:Prop},(p→q)→Qa1 S al l p→Qa1 S al l q
 |[],p,q,h,k=>h k
 |(i,w)::r,p,q,h,k=>by
  simp only[Qa1] at k⊢;split
  ·rename_i b hb;rw[hb] at k;exact fun e=>Qdy h (k e)
  ·rename_i hno;split at k
   ·rename_i b hb;exact absurd hb (hno b)
   ·exact Qdy h k
theorem Qvr {base nt:Nat} {ts:List (Nat×V)} {gs:List Gd} {bs:List (Nat×Blk)} {fs:List Fr} {f:FuncId} {args args':List V} {res:V} {nb:List Nb} {K:V→St→Prop} (k:Nat) (h:PureC P f args' res nb)
  (hv:Qbx (Qh bs) args=some args') (hm:(nb.all fun b=>!(St.mentions ⟨base,nt,ts,gs,bs,fs⟩ (b.id+k)))=true) (hk:Qar (res.shift k) fun v=>QaC (nb.map (Nb.ent k)++bs) fun bs=>K v ⟨base,nt,ts,gs,bs,fs⟩):
  CallP P f args ⟨base,nt,ts,gs,bs,fs⟩ K:=by
 rw[Qw,ZD] at hk;exact Qpm k h hv (fun b hb=>by have:=List.all_eq_true.1 hm b hb;simpa using this) hk
theorem Qg7 (hT : TOk P tb) {base nt : Nat} {ts : List (Nat × V)} {gs : List Gd} {bs : List (Nat × Blk)} {fs : List Fr} {f : FuncId} {fn : Func} {c : Code} {args : List V} {K : V → St → Prop} (b : Nat) (hf : P.funcs[f]? = some fn) (hb : fn.body = some c) (hn : (fn.name == "runtime.NumGoroutine") = false) (hl : Nat.ble args.length fn.ntmps = true)
  (h:wpc P tb c ⟨b,fn.ntmps,Ql8 0 args,[],bs,⟨ts,gs⟩::fs⟩ (Qxt tb fn.results.toList base nt K)):CallP P f args ⟨base,nt,ts,gs,bs,fs⟩ K:=
 Qqq hT b hf hb hn hl h
theorem QM {g:FuncId} {blk:Nat→Option Blk} {vs args':List V} {res:V} {nb:List Nb} (h:PureC P g args' res nb) (hv:Qbx blk vs=some args'):CallD P id g blk vs res nb:=⟨h.can,⟨args',hv,h⟩⟩
theorem Qy {S : St} {al l : List (Nat × Bool)} {g : FuncId} {fn : Func} {blk : Nat → Option Blk} {vs args' : List V} {res : V} {nb : List Nb} (hf : P.funcs[g]? = some fn) (hn : (fn.name == "runtime.NumGoroutine") = false) (hb : fn.body.isNone = false)
  (hv:Qbx blk vs=some args') (h:Qa1 S al l (PureC P g args' res nb)):CallD P (Qa1 S al l) g blk vs res nb:=⟨⟨fn,hf,hn,hb⟩,Qdy (fun k=>⟨args',hv,k⟩) h⟩
theorem Qtz {S S' : St} {al l : List (Nat × Bool)} {f : FuncId} {fn : Func} {args args' : List V} {res : V} {K : V → St → Prop} {key : Nat} {want : Bool} (hf : P.funcs[f]? = some fn) (hn : (fn.name == "runtime.NumGoroutine") = false) (hb : fn.body.isNone = false)
  (hv:Qbx (Qh S'.blks) args=some args') (hfl:QbR res=true) (hm:∀id,res.mentions id=false) (h:Qa1 S al l (PureC P f args' res [])) (hk:K res S'):CallG P (Qa1 S al l) (Qfy S' key want) f args S' K:=
 Qnb ⟨fn,hf,hn,hb⟩ h (fun _ _=>Qdy) (fun _=>Qpb) hfl hm hv hk
theorem Qmr {f:Nat} {t:TypeId} {ts:List TypeId} {dss:List (List D)} (h:QeV tb f (t::ts) dss):∃a r,dss=a::r∧QeU tb f t a∧QeV tb f ts r:=by
 cases dss with
 |nil=>exact h.elim
 |cons a r=>exact⟨a,r,rfl,h.1,h.2⟩
theorem Qnp {f:Nat} {dss:List (List D)} (h:QeV tb f [] dss):dss=[]:=by
 cases dss with
 |nil=>rfl
 |cons a r=>exact h.elim
theorem QrU {α:Type} {l:List α} (h:l.length=1):∃a,l=[a]:=List.length_eq_one_iff.1 h
theorem QtA {t:TypeId} {ds:List D} {d:D} (hn:(match tb.find t with|some ⟨.struct _,_,_,_,_⟩=>false|_=>true)=true) (h:DsLe ds [d]):VLe (Qvq tb t ds) (.d d):=by
 have hl:=h.len;obtain⟨a,rfl⟩:=QrU hl;unfold Qvq;split
 ·rename_i hf;rw[hf] at hn;cases hn
 ·exact VLe.d h.1
end Go.Ab
