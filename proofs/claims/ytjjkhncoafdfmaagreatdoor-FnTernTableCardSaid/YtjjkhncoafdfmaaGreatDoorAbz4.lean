/-
  Regions whose order Go leaves open: a part of the frame in which a given row's proof walks the program; no condition.
-/
import Derived.Test.YtjjkhncoafdfmaaGreatDoorAbz3
set_option linter.all false
namespace Go.Ab
open Go.RowKit
structure Rs where
 dst:Option Nat
 g:Option (Nat×Bool)
 v:V
 nb:List (Nat×Blk)
def ZX:List Nat->Nat->Bool
 |[],_=>false
 |x::r,i=>match Nat.beq x i with
  |true=>true
  |false=>ZX r i
def Rs.shown (r:Rs):V:=match r.g with
 |none=>r.v
 |some _=>.any
def QdN (E:Nat->Bool):Nat->List Rs->List (Nat×V)
 |_,[]=>[]
 |i,r::rs=>match E i,r.dst with
  |true,some t=>(t,r.shown)::QdN E (i+1) rs
  |_,_=>QdN E (i+1) rs
def Qd6 (E:Nat->Bool):Nat->List Rs->List Gd
 |_,[]=>[]
 |i,r::rs=>match E i,r.dst,r.g with
  |true,some t,some (key,want)=>⟨t,key,want,r.v⟩::Qd6 E (i+1) rs
  |_,_,_=>Qd6 E (i+1) rs
def JH (E:Nat->Bool):Nat->List Rs->List (Nat×Blk)
 |_,[]=>[]
 |i,r::rs=>match E i with
  |true=>r.nb++JH E (i+1) rs
  |false=>JH E (i+1) rs
def Qoh (dsts:List (Option Nat)):List (Nat×V)->List (Nat×V)
 |[]=>[]
 |(t,v)::r=>match dsts.any fun d=>match d with|some u=>Nat.beq u t|none=>false with
  |true=>Qoh dsts r
  |false=>(t,v)::Qoh dsts r
def stOf (S0:St) (R:List Rs) (E:Nat->Bool):St:=match S0 with
 |⟨base,nt,ts,_,bs,fs⟩=>⟨base,nt,QdN E 0 R++ts,Qd6 E 0 R,JH E 0 R++bs,fs⟩
def nth:List (List Nat)->Nat->List Nat
 |[],_=>[]
 |a::_,0=>a
 |_::r,n+1=>nth r n
def Zo:List Edge->List Nat
 |[]=>[]
 |e::r=>match Region.binds .any e with
  |true=>e.on::Zo r
  |false=>Zo r
def ancIn (ancs:List (List Nat)):List Nat->List Nat
 |[]=>[]
 |i::r=>i::(nth ancs i++ancIn ancs r)
def Qcm (ancs:List (List Nat)) (o:Oper):List Nat:=ancIn ancs (Zo o.after.toList)
def okT (anc:List Nat) (t:Nat):Nat->List (Option Nat)->Bool
 |_,[]=>true
 |i,d::r=>match (match d with|some u=>Nat.beq u t|none=>false),ZX anc i with
  |true,false=>false
  |_,_=>okT anc t (i+1) r
def QiW (dsts:List (Option Nat)) (anc:List Nat):Operand->Bool
 | .tmp t=>okT anc t 0 dsts
 |_=>true
def isN:Op->Bool
 | .alloc _=>true
 | .box ..=>true
 | .makeSlice ..=>true
 | .buildSlice _ len _=>!Nat.beq len 0
 | .call c=>(match c.callee with
  | .builtin .append=>true
  |_=>false)
 |_=>false
def evN (tb:Tb) (ev:Operand->V) (blk:Nat->Option Blk) (base:Nat) (dst:Option Nat) (op:Op) (K:Nat->V->Blk->Prop):Prop:=match op with
 | .alloc t=>(match tb.find t,dst,Nat.blt t 1000000 with
  |some ti,some dst,true=>St.idK base dst fun id=>QaK (ti.zero.map .d) fun cs=>K id (.ref id 0 0) (.box t cs)
  | _, _, _ => Stuck "alloc")
 | .box t x=>(match dst,(ev x).storable,Nat.blt t 1000000 with
  |some dst,true,true=>St.idK base dst fun id=>QaK (ev x).cells fun cs=>K id (.ref id 0 0) (.box t cs)
  | _, _, _ => Stuck "box")
 | .makeSlice t l c=>(match tb.find t,dst with
  |some ⟨.slice e,_,_,_,_⟩,some dst=>(match tb.find e,ev l,ev c with
   |some ⟨_,sz,byt,z,_⟩,.d (.int .i64 n),.d (.int .i64 m)=>St.idK base dst fun id=>
    (0<=n∧n<=m∧m*byt<=140737488355328∧m<=140737488355328)∧∃J I,J=n.toNat∧(∀i,i<J->I i=z)∧K id (.osl id 0 J) (.arr e sz J I)
   | _, _, _ => Stuck "makeSlice")
  | _, _ => Stuck "makeSlice type")
 | .buildSlice t len N=>(match tb.find t,dst with
  |some ⟨.slice e,_,_,_,_⟩,some dst=>(match tb.find e with
   |some ⟨_,sz,_,_,_⟩=>St.idK base dst fun id=>(match rowsV sz 0 (N.toList.map fun p=>(p.1,ev p.2)),Nat.ble (len*sz) 1000000 with
    |some rs,true=>(match Nat.beq rs.length len with
     |true=>∃J I,J=len∧(∀i,i<J->I i=QkM rs i)∧K id (.osl id 0 J) (.arr e sz J I)
     | false => Stuck "buildSlice parts left out")
    | _, _ => Stuck "buildSlice")
   | none => Stuck "buildSlice element type")
  | _, _ => Stuck "buildSlice type")
 | .call c=>(match c.callee with
  | .builtin .append=>(match c.args.toList,c.argTypes.toList with
   |[s,x],[t,t']=>(match tb.find t,tb.find t',dst with
    |some ⟨.slice e,_,_,_,_⟩,some ⟨.slice _,_,_,_,_⟩,some dst=>(match tb.find e with
     |some ⟨_,sz,byt,_,_⟩=>(match ev s,J0 blk sz (ev x) with
      | .d .nil,some (m,r')=>St.idK base dst fun id=>(0+m)*(byt+1)<=70368744177664∧∃J I,J=m∧(∀i,i<J->I i=r' i)∧K id (.osl id 0 J) (.arr e sz J I)
      | _, _ => Stuck "append not to an empty slice")
     | none => Stuck "append element type")
    | _, _, _ => Stuck "append type")
   | _, _ => Stuck "append arguments")
  | _ => Stuck "new call")
 | _ => Stuck "new"
structure CallD (P:Program) (sc:Prop→Prop) (g:FuncId) (blk:Nat→Option Blk) (vs:List V) (res:V) (nb:List Nb):Prop where
 can:Callable P g
 out:sc (∃args',Qb6 blk vs=some args'∧PureC P g args' res nb)
inductive CS where
 |pure (k:Nat) (res:V) (nb:List Nb)
 |eff (res:V) (nb post:List (Nat×Blk)) (p:FuncId→List V→Prop) (q:Prop)
 |app (pre:List (Nat×Blk)) (res:V) (post:List (Nat×Blk))
def QiX:Option CS->Bool
 |some (.eff ..)=>true
 |some (.app ..)=>true
 |_=>false
def QgJ:Option CS->Bool
 |some (.app ..)=>true
 |_=>false
def delB:List (Nat×Blk)->Nat->List (Nat×Blk)
 |[],_=>[]
 |(i,b)::r,j=>match Nat.beq i j with
  |true=>delB r j
  |false=>(i,b)::delB r j
def QAK:Op->Bool
 | .alloc _=>false
 | .box ..=>false
 | .makeSlice ..=>false
 | .buildSlice ..=>false
 | .store ..=>false
 | .call c=>(match c.callee with
  | .builtin .append=>false
  | .builtin _=>true
  |_=>false)
 |_=>true
def QwH (tb:Tb) (ev:Operand->V) (I:Nat->Option Blk) (pre:List (Nat×Blk)) (base:Nat) (dst:Option Nat) (op:Op) (K:V->List (Nat×Blk)->Prop):Prop:=match op with
 | .alloc t=>evN tb ev I base dst (.alloc t) fun id v b=>K v ((id,b)::pre)
 | .box t x=>evN tb ev I base dst (.box t x) fun id v b=>K v ((id,b)::pre)
 | .buildSlice t len N=>evN tb ev I base dst (.buildSlice t len N) fun id v b=>K v ((id,b)::pre)
 | .makeSlice t l c=>evN tb ev I base dst (.makeSlice t l c) fun id v b=>K v ((id,b)::pre)
 | .call c=>(match c.callee with
  | .builtin .append=>(match c.args.toList,c.argTypes.toList with
   |[s,x],[t,t']=>(match tb.find t,tb.find t',dst with
    |some ⟨.slice e,_,_,_,_⟩,some ⟨.slice _,_,_,_,_⟩,some dst=>(match tb.find e with
     |some ⟨_,sz,byt,_,_⟩=>(match J0 (Qk pre) sz (ev s),J0 I sz (ev x) with
      |some (n,r),some (m,r')=>(match ev s with
       | .d .nil=>evN tb ev I base (some dst) (.call c) fun id v b=>K v ((id,b)::pre)
       | .osl id _ _=>(n+m)*(byt+1)<=70368744177664∧∃O J,O=n+m∧(∀i,i<O->J i=QeY n r r' i)∧St.idK base dst fun nid=>K (.osl nid 0 O) ((nid,.arr e sz O J)::delB pre id)
       | _ => Stuck "append not to a row that is hidden")
      | _, _ => Stuck "append contents")
     | none => Stuck "append element type")
    | _, _, _ => Stuck "append type")
   | _, _ => Stuck "append arguments")
  | _ => Stuck "hidden call")
 | .store t a x=>(match tb.find t,ev a,ev x with
  |some ti,.ref id row off,v=>(match (v.storable&&Nat.beq v.cells.length ti.size),Qk pre id with
   |true,some (.box t' cs)=>(match row,Nat.ble (off+ti.size) cs.length with
    |0,true=>QaK (Qc2 cs off v.cells) fun U=>K .any (QhF pre id (.box t' U))
    | _, _ => Stuck "hidden store out of the variable")
   |true,some (.arr t' sz n rw)=>(match Nat.ble (off+ti.size) sz,Qs5 v.cells with
    |true,some ds=>∃J,(∀i,i<n->J i=if i=row then Qc2 (rw row) off ds else rw i)∧K .any (QhF pre id (.arr t' sz n J))
    | _, _ => Stuck "hidden store into the element")
   | _, _ => Stuck "hidden store size or no such block")
  | _, _, _ => Stuck "hidden store")
 | _ => Stuck "hidden op"
def bty (n e:Nat):Nat:=n*1000000+e
def evB (tb:Tb) (ev:Operand->V) (pre:List (Nat×Blk)) (op:Op):Option (Nat×Nat×List V×Option Nat):=match op with
 | .buildSlice t len I=>(match len,tb.find t,I.toList with
  |1,some ⟨.slice e,_,_,_,_⟩,[(0,x)]=>(match tb.find e,Qs5 (ev x).cells with
   |some ⟨_,sz,_,_,_⟩,none=>(match (ev x).storable&&(Nat.beq (ev x).cells.length sz&&(Nat.blt e 1000000&&Nat.ble sz 1000000)) with
    |true=>some (e,1,(ev x).cells,none)
    |false=>none)
   |_,_=>none)
  |_,_,_=>none)
 | .call c=>(match c.callee with
  | .builtin .append=>(match c.args.toList,c.argTypes.toList with
   |[s,x],[t,t']=>(match tb.find t,tb.find t' with
    |some ⟨.slice e,_,_,_,_⟩,some ⟨.slice _,_,_,_,_⟩=>(match tb.find e,ev x with
     |some ⟨_,sz,byt,_,_⟩,.osl ix o m=>(match Qk pre ix,o with
      |some (.box tx cx),0=>(match Nat.beq tx (bty m e)&&(Nat.ble 1 m&&(Nat.blt e 1000000&&Nat.beq cx.length (m*sz))),ev s with
       |true,.d .nil=>(match Nat.ble (m*(byt+1)) 70368744177664 with
        |true=>some (e,m,cx,none)
        |false=>none)
       |true,.osl is 0 n=>(match Qk pre is with
        |some (.box ts cs)=>(match Nat.beq ts (bty n e)&&(Nat.ble 1 n&&(Nat.beq cs.length (n*sz)&&Nat.ble ((n+m)*(byt+1)) 70368744177664)) with
         |true=>some (e,n+m,cs++cx,some is)
         |false=>none)
        |_=>none)
       |_,_=>none)
      |_,_=>none)
     |_,_=>none)
    |_,_=>none)
   |_,_=>none)
  |_=>none)
 |_=>none
def Qwz (pre:List (Nat×Blk)):Option Nat->List (Nat×Blk)
 |none=>pre
 |some g=>delB pre g
def evA (tb:Tb) (ev:Operand->V) (I:Nat->Option Blk) (pre:List (Nat×Blk)) (base:Nat) (dst:Option Nat) (op:Op) (K:V->List (Nat×Blk)->Prop):Prop:=match QAK op with
 |true=>evP tb (fun _ x=>ev x) (fun i=>(Qk pre i).or (I i)) id op fun v=>K v pre
 |false=>(match evB tb ev pre op,dst with
  |some (e,n,cs,gone),some dst=>St.idK base dst fun nid=>K (.osl nid 0 n) ((nid,.box (bty n e) cs)::Qwz pre gone)
  |_,_=>QwH tb ev I pre base dst op K)
def Qnm (P:Program) (tb:Tb) (cs:Nat->Option CS) (ops:List Oper) (j:Nat) (o:Oper) (S:St) (K:Option (Nat×Bool)->V->List (Nat×Blk)->Prop):Prop:=match o.guard with
 |none=>(match o.op with
  | .call ⟨.value f,args,_⟩=>(match S.ev [] f,cs j with
   | .fn g cap,some (.pure k res nb)=>CallD P id g (Qk S.blks) (args.toList.map (S.ev [])++cap) res nb∧Qaq (res.shift k) fun v=>K none v (nb.map (Nb.ent k))
   | .fn g cap,some (.eff res nb _ p _)=>p g (args.toList.map (S.ev [])++cap)∧Qaq res fun v=>K none v nb
   | _, _ => Stuck "drawn region a call without a contract")
  |op=>(match isN op with
   |true=>evN tb (S.ev []) (Qk S.blks) S.base o.dst op fun id v blk=>K none v [(id,blk)]
   |false=>evP tb S.ev (Qk S.blks) id op fun v=>K none v []))
 |some (jg,want)=>(match ops[jg]? with
  |some ⟨some key,_,_,_,_,_⟩=>(match o.op with
   | .call ⟨.value f,args,_⟩=>(match S.ev (closure S.gds 9 key want) f,cs j with
    | .fn g cap,some (.pure _ res [])=>CallD P (QaL S (closure S.gds 9 key want) (closure S.gds 9 key want)) g (Qk S.blks) (args.toList.map (S.ev (closure S.gds 9 key want))++cap) res []∧Qaq res fun v=>K (some (key,want)) v []
    | .fn g cap,some (.eff res [] _ p q)=>(Callable P g∧QaL S (closure S.gds 9 key want) (closure S.gds 9 key want) (p g (args.toList.map (S.ev (closure S.gds 9 key want))++cap))∧QjJ S key want q)∧Qaq res fun v=>K (some (key,want)) v []
    | _, _ => Stuck "drawn region a guarded call without a contract")
   |op=>evP tb (fun I x=>S.ev (I++closure S.gds 9 key want) x) (Qk S.blks) (QaL S (closure S.gds 9 key want) (closure S.gds 9 key want)) op fun v=>K (some (key,want)) v [])
  | _ => Stuck "drawn region guard")
def Qyg:Op->Bool
 | .call ⟨.value _,_,_⟩=>true
 |_=>false
theorem Qoi {op:Op} (h:Qyg op=true):∃f args I,op=.call ⟨.value f,args,I⟩:=by
 unfold Qyg at h;split at h
 ·exact⟨_,_,_,rfl⟩
 ·cases h
theorem Qfp {P:Program} {tb:Tb} {cs:Nat->Option CS} {ops:List Oper} {j:Nat} {S:St} {K:Option (Nat×Bool)->V->List (Nat×Blk)->Prop} {dst:Option Nat} {op:Op} {ty pos after} (h:Qyg op=false):
  Qnm P tb cs ops j ⟨dst,op,ty,pos,after,none⟩ S K=match isN op with
   |true=>evN tb (S.ev []) (Qk S.blks) S.base dst op fun id v blk=>K none v [(id,blk)]
   |false=>evP tb S.ev (Qk S.blks) id op fun v=>K none v []:=by
 cases op<;>first|rfl|skip
 case call c=>
  have⟨I,args,tys⟩:=c
  cases I<;>first|rfl|(simp[Qyg] at h)
def evD (P:Program) (tb:Tb) (cs:Nat->Option CS) (ops:List Oper) (j:Nat) (o:Oper) (S:St) (K:Option (Nat×Bool)->V->List (Nat×Blk)->Prop):Prop:=match cs j with
 |some (.app pre res post)=>(match o.guard with
  |none=>evA tb (S.ev []) (Qk S.blks) pre S.base o.dst o.op (fun v I=>v=res∧I=post)∧Qaq res fun v=>K none v []
  | some _ => Stuck "drawn region a row grown under a guard")
 |_=>Qnm P tb cs ops j o S K
theorem Qpy {P:Program} {tb:Tb} {cs:Nat->Option CS} {ops:List Oper} {j:Nat} {o:Oper} {S:St} (h:QgJ (cs j)=false):evD P tb cs ops j o S=Qnm P tb cs ops j o S:=by
 funext K
 unfold evD;split
 ·rename_i hc;rw[hc] at h;cases h
 ·rfl
theorem Qoj {P:Program} {tb:Tb} {cs:Nat->Option CS} {ops:List Oper} {j:Nat} {o:Oper} {S:St} {K:Option (Nat×Bool)->V->List (Nat×Blk)->Prop} (h:QgJ (cs j)=true) (I:evD P tb cs ops j o S K):
  ∃pre res post,cs j=some (.app pre res post)∧o.guard=none∧evA tb (S.ev []) (Qk S.blks) pre S.base o.dst o.op (fun v J=>v=res∧J=post)∧K none res []:=by
 unfold evD at I;split at I
 ·rename_i pre res post hc;split at I
  ·rename_i O;rw[QC] at I;exact⟨pre,res,post,hc,O,I.1,I.2⟩
  ·exact I.no.elim
 ·rename_i N;unfold QgJ at h;split at h
  ·rename_i hc;exact absurd hc (N _ _ _)
  ·cases h
noncomputable def QuA {α:Type} (l:List α):α->(List α->Prop)->Prop:=List.rec (motive:=fun _=>α->(List α->Prop)->Prop) (fun x K=>K [x]) (fun a _ I x K=>I x fun l=>K (a::l)) l
noncomputable def QuB (l:List Nat):(List Nat->Prop)->Prop:=List.rec (motive:=fun _=>(List Nat->Prop)->Prop) (fun K=>K []) (fun x _ I K=>I fun r=>K (x::r)) l
theorem Qnn (l:List Nat):∀K:List Nat->Prop,QuB l K=K l:=by
 induction l with
 |nil=>intro K;rfl
 |cons x r I=>intro K;exact I _
def stK (S:St) (K:St->Prop):Prop:=match S with
 |⟨base,nt,ts,gs,bs,fs⟩=>Qgf ts fun ts=>Qgg gs fun gs=>Qa5 bs fun bs=>K ⟨base,nt,ts,gs,bs,fs⟩
theorem QhL (S:St) (K:St->Prop):stK S K=K S:=by
 have⟨base,nt,ts,gs,bs,fs⟩:=S;simp[stK,Qb2,Qb3,Z4]
def evM (P:Program) (tb:Tb) (cs:Nat->Option CS) (ops:List Oper) (dsts:List (Option Nat)) (S0:St):List Oper->Nat->List (List Nat)->List Rs->(List (List Nat)->List Rs->Prop)->Prop
 |[],_,ancs,R,K=>K ancs R
 |o::rest,j,ancs,R,K=>QuB (Qcm ancs o) fun anc=>match o.op.operands.toList.all (QiW dsts anc),(match o.guard with
   |none=>true
   |some (jg,_)=>(match ops[jg]? with
    |some ⟨some key,_,_,_,_,_⟩=>ZX anc jg&&okT anc key 0 dsts
    |_=>false)) with
  |true,true=>evD P tb cs ops j o (stOf S0 R (ZX anc)) fun g v nb=>QuA R ⟨o.dst,g,v,nb⟩ fun I=>evM P tb cs ops dsts S0 rest (j+1) (ancs++[anc]) I K
  | _, _ => Stuck "drawn region an operand that no forerunner gives"
variable {P:Program} {tb:Tb} {w:World} {ρ:Env} {a:Act} {B:Bd} {w0:World} {F:List (Array Value)} {S:St}
theorem Qk6 {α:Type}:∀(l:List α) (x:α) (K:List α->Prop),QuA l x K=K (l++[x])
 |[],x,K=>rfl
 |a::r,x,K=>by show QuA r x (fun l=>K (a::l))=_;rw[Qk6 r x];rfl
theorem ZN:∀ {l:List Nat} {i:Nat},ZX l i=true↔i∈l
 |[],i=>by simp[ZX]
 |x::r,i=>by
  simp only[ZX];split
  ·rename_i h;simp[Y9 h]
  ·rename_i h;have:x≠i:=fun e=>by subst e;simp at h
   rw[ZN (l:=r)];simp[YY this]
theorem Qj {α:Type}:∀(l r:List (Nat×α)) (t:Nat),Qk (l++r) t=(Qk l t).or (Qk r t)
 |[],r,t=>rfl
 |(u,v)::l,r,t=>by
  simp only[Xq,Qk];split
  ·rfl
  ·exact Qj l r t
theorem Qe3 {E:Nat->Bool}:∀ {R:List Rs} {i0 t:Nat} {v:V},Qk (QdN E i0 R) t=some v->∃j r,R[j]? =some r∧E (i0+j)=true∧r.dst=some t∧v=r.shown
 |r::R,i0,t,v,h=>by
  simp only[QdN] at h;have I:Qk (QdN E (i0+1) R) t=some v->∃j q,(r::R)[j]? =some q∧E (i0+j)=true∧q.dst=some t∧v=q.shown:=fun h=>by
   have⟨j,q,h1,h2,h3,h4⟩:=Qe3 h;exact⟨j+1,q,by simpa using h1,by rw[show i0+(j+1)=i0+1+j by omega];exact h2,h3,h4⟩
  split at h
  ·rename_i u N J;rcases QY h with ⟨rfl,rfl⟩|⟨_,h⟩
   ·exact⟨0,r,rfl,by simpa using N,J,rfl⟩
   ·exact I h
  ·exact I h
 |[],_,_,_,h=>by simp[QdN,Qk] at h
theorem Qid {E:Nat->Bool}:∀ {R:List Rs} {i0 j t:Nat} {r:Rs},R.Pairwise (fun x y=>∀t,x.dst=some t->y.dst≠some t)->R[j]? =some r->E (i0+j)=true->r.dst=some t->Qk (QdN E i0 R) t=some r.shown
 |q::R,i0,0,t,r,hp,hj,hE,hd=>by
  simp at hj;subst hj;have N:E i0=true:=by simpa using hE
  simp only[QdN,N,hd];exact Zl
 |q::R,i0,j+1,t,r,hp,hj,hE,hd=>by
  have I:=YB.1 hp;have J:R[j]? =some r:=by simpa using hj
  have O:=Qid (E:=E) (i0:=i0+1) I.2 J (by rw[show i0+1+j=i0+(j+1) by omega];exact hE) hd;simp only[QdN];split
  ·rename_i u _ U;have:u≠t:=fun e=>by subst e;exact I.1 r (Xb J) u U hd
   rw[QO this];exact O
  ·exact O
 |[],_,_,_,_,_,hj,_,_=>by simp at hj
theorem QaX {E:Nat->Bool}:∀ {R:List Rs} {i0:Nat} {g:Gd},g∈Qd6 E i0 R↔ ∃j r,R[j]? =some r∧E (i0+j)=true∧r.dst=some g.t∧r.g=some (g.key,g.want)∧g.v=r.v
 |[],i0,g=>by simp[Qd6]
 |r::R,i0,g=>by
  have O:=QaX (E:=E) (R:=R) (i0:=i0+1) (g:=g);have step:(∃j q,(r::R)[j]? =some q∧E (i0+j)=true∧q.dst=some g.t∧q.g=some (g.key,g.want)∧g.v=q.v)↔
    (E i0=true∧r.dst=some g.t∧r.g=some (g.key,g.want)∧g.v=r.v)∨g∈Qd6 E (i0+1) R:=by
   rw[O]
   constructor
   ·rintro⟨j,q,h1,h2⟩
    cases j with
    |zero=>simp at h1;subst h1;exact .inl (by simpa using h2)
    |succ j=>exact .inr ⟨j,q,by simpa using h1,by rw[show i0+1+j=i0+(j+1) by omega];exact h2⟩
   ·rintro(h|⟨j,q,h1,h2⟩)
    ·exact⟨0,r,rfl,by simpa using h⟩
    ·exact⟨j+1,q,by simpa using h1,by rw[show i0+(j+1)=i0+1+j by omega];exact h2⟩
  rw[step];simp only[Qd6];split
  ·rename_i t key want U J N;rw[Yi];refine or_congr ⟨fun h=>?_,fun h=>?_⟩ Iff.rfl
   ·subst h;exact⟨U,J,N,rfl⟩
   ·have⟨_,h2,h3,h4⟩:=h;rw[J] at h2;rw[N] at h3
    cases h2;cases h3
    cases g;simp at h4;subst h4;rfl
  ·rename_i I
   constructor
   ·intro h;exact .inr h
   ·rintro(⟨h1,h2,h3,_⟩|h)
    ·exact absurd h3 (fun h3=>I _ _ _ h1 h2 h3)
    ·exact h
theorem Qno:∀ {gs:List Gd} {t:Nat},Qh4 gs t=none->∀g∈gs,g.t≠t
 |x::r,t,h,g,I=>by
  simp only[Qh4] at h;split at h
  ·cases h
  ·rename_i hb;rcases Yi.1 I with I|I
   ·subst I;exact fun e=>by rw[e] at hb;simp at hb
   ·exact Qno h g I
 |[],_,_,_,I=>by simp at I
theorem Jp {E:Nat->Bool}:∀ {R:List Rs} {i0:Nat} {p:Nat×Blk},p∈JH E i0 R↔ ∃j r,R[j]? =some r∧E (i0+j)=true∧p∈r.nb
 |[],i0,p=>by simp[JH]
 |r::R,i0,p=>by
  have J:=Jp (E:=E) (R:=R) (i0:=i0+1) (p:=p);have step:(∃j q,(r::R)[j]? =some q∧E (i0+j)=true∧p∈q.nb)↔(E i0=true∧p∈r.nb)∨p∈JH E (i0+1) R:=by
   rw[J]
   constructor
   ·rintro⟨j,q,h1,h2⟩
    cases j with
    |zero=>simp at h1;subst h1;exact .inl (by simpa using h2)
    |succ j=>exact .inr ⟨j,q,by simpa using h1,by rw[show i0+1+j=i0+(j+1) by omega];exact h2⟩
   ·rintro(h|⟨j,q,h1,h2⟩)
    ·exact⟨0,r,rfl,by simpa using h⟩
    ·exact⟨j+1,q,by simpa using h1,by rw[show i0+(j+1)=i0+1+j by omega];exact h2⟩
  rw[step];simp only[JH];split
  ·rename_i I;simp[I]
  ·rename_i I;simp[I]
theorem Qe4 {α:Type}:∀ {l:List (Nat×α)} {t:Nat} {v:α},Qk l t=some v->(t,v)∈l
 |(u,x)::r,t,v,h=>by
  rcases QY h with ⟨rfl,rfl⟩|⟨_,h⟩
  ·simp
  ·exact YM _ (Qe4 h)
 |[],_,_,h=>by simp[Qk] at h
theorem Qcn {α:Type}:∀ {l:List (Nat×α)} {t:Nat} {v:α},l.Pairwise (fun x y=>x.1≠y.1)->(t,v)∈l->Qk l t=some v
 |(u,x)::r,t,v,hp,h=>by
  have I:=YB.1 hp;rcases Yi.1 h with h|h
  ·cases h;exact Zl
  ·rw[QO (I.1 (t,v) h)];exact Qcn I.2 h
 |[],_,_,_,h=>by simp at h
theorem Sim.congr {base J nt:Nat} {ts O:List (Nat×V)} {gs N:List Gd} {bs bs':List (Nat×Blk)} {fs:List Fr} (h:Sim P B w0 F ρ ⟨base,nt,ts,gs,bs,fs⟩ a w)
  (ht:∀t v,Qk O t=some v->Qk ts t=some v) (hg:∀g∈N,g∈gs) (hb:∀id b,Qk bs' id=some b↔Qk bs id=some b):Sim P B w0 F ρ ⟨J,nt,O,N,bs',fs⟩ a w:=by
 have I:ZM B bs' ρ=ZM B bs ρ:=by
  funext b
  simp only[ZM,own];refine congrArg (· ∨B.frn b) ?_;exact propext ⟨fun⟨i,k,h1,h2⟩=>⟨i,k,(hb i k).1 h1,h2⟩,fun⟨i,k,h1,h2⟩=>⟨i,k,(hb i k).2 h1,h2⟩⟩
 refine⟨h.below,h.tab,h.hB,h.defers,h.nt,?_,?_,fun i j x y hx hy=>h.sep i j x y ((hb _ _).1 hx) ((hb _ _).1 hy),fun i x hx=>h.ge i x ((hb _ _).1 hx),?_⟩
 ·dsimp only;rw[I];exact⟨fun t v hv=>h.top.tmps t v (ht t v hv),fun g a1=>h.top.gds g (hg g a1)⟩
 ·intro id b U;dsimp only;rw[I];exact h.blks id b ((hb _ _).1 U)
 ·refine⟨h.frames.1,fun i f tm hf Y=>?_⟩;dsimp only;rw[I];exact h.frames.2 i f tm hf Y
end Go.Ab
namespace Go.Ab
open Go.RowKit
variable {P:Program} {tb:Tb} {ev ev':List (Nat×Bool)→Operand→V} {blk blk':Nat→Option Blk} {sc:Prop→Prop} {K:V→Prop}
theorem Qpz {ti:TI} {p:V} (hb:∀id b,blk id=some b->blk' id=some b) (h:Qd5 ti blk p K):Qd5 ti blk' p K:=by
 unfold Qd5 at h|-;split at h
 ·rename_i id row off;split at h
  ·rename_i t cs I;simp only[hb _ _ I];exact h
  ·rename_i t sz n rw' I;simp only[hb _ _ I];exact h
  ·exact h.no.elim
 ·exact h
 ·exact h.no.elim
theorem Qtm {ti:TI} {p:V} (h:Qd5 ti blk p K):∃v,K v∧Qd5 ti blk p (fun u=>u=v):=by
 unfold Qd5 at h|-;split at h
 ·rename_i id row off;split at h
  ·split at h
   ·rw[QC] at h;exact⟨_,h,by simp[QC]⟩
   ·exact h.no.elim
  ·split at h
   ·rw[QC] at h;exact⟨_,h,by simp[QC]⟩
   ·exact h.no.elim
  ·exact h.no.elim
 ·split at h
  ·rw[QC] at h;exact⟨_,h,by simp[QC]⟩
  ·exact h.no.elim
 ·exact h.no.elim
theorem QuC {op k x y} (h:QlI sc op k x y K):∃v,K v∧QlI sc op k x y (fun u=>u=v):=by
 cases op<;>simp only[QlI] at h|- <;>first|exact h.no.elim|exact⟨_,h.2,h.1,rfl⟩|exact⟨_,h,rfl⟩
theorem Qfq {op:Op} (J:∀x∈op.operands.toList,∀al,ev al x=ev' al x) (hb:∀id b,blk id=some b->blk' id=some b) (h:evP tb ev blk sc op K):evP tb ev' blk' sc op K:=by
 cases op<;>simp only[Op.operands] at J<;>simp only[evP] at h|- <;>first|exact h.no.elim|skip
 case move x=>rw[<-J x (by simp)];exact h
 case assign x=>rw[<-J x (by simp)];exact h
 case pick c x y=>
  rw[<-J c (by simp)];split at h
  ·rename_i p hp;split at h
   ·rename_i tc;rw[<-J x (by simp)];exact h
   ·rename_i tc hno;rw[J y (by simp)] at h;exact h
   ·exact h.no.elim
  ·exact h.no.elim
 case build t parts=>
  have e:(parts.toList.map fun p=>(p.1,ev [] p.2))=(parts.toList.map fun p=>(p.1,ev' [] p.2)):=Xg fun p hp=>by
   rw[J p.2 (by simpa using ⟨p.1,by simpa using hp⟩)]
  rw[<-e];exact h
 case buildSlice t len parts=>
  have e:(parts.toList.map fun p=>(p.1,ev [] p.2))=(parts.toList.map fun p=>(p.1,ev' [] p.2)):=Xg fun p hp=>by
   rw[J p.2 (by simpa using ⟨p.1,by simpa using hp⟩)]
  rw[<-e];exact h
 case load t x=>
  rw[<-J x (by simp)];split at h
  ·exact Qpz hb h
  ·exact h.no.elim
 case nilCheck x=>rw[<-J x (by simp)];exact h
 case binOp op t x y ty=>rw[<-J x (by simp),<-J y (by simp)];exact h
 case unOp op t x=>rw[<-J x (by simp)];exact h
 case convert s t x=>
  rw[<-J x (by simp)]
  revert h
  split
  ·exact id
  ·exact id
  ·split
   ·rename_i U;rw[hb _ _ U];exact id
   ·exact fun h=>h.no.elim
  ·exact id
 case makeFunc f first captured=>
  have e:captured.toList.map (ev [])=captured.toList.map (ev' []):=Xg fun p hp=>by
   rw[J p (by simp;exact .inr (by simpa using hp))]
  rw[<-e];exact h
 case index t x i=>rw[<-J x (by simp),<-J i (by simp)];exact h
 case fieldAddr s x f=>rw[<-J x (by simp)];exact h
 case field s x f=>rw[<-J x (by simp)];exact h
 case indexAddr t x i=>
  rw[<-J x (by simp),<-J i (by simp)];split at h
  ·split at h
   ·split at h
    ·rename_i O;simp only[hb _ _ O];exact h
    ·rename_i O;simp only[hb _ _ O];exact h
    ·exact h.no.elim
   ·exact h
   ·exact h.no.elim
  ·exact h.no.elim
 case slice t x lo hi mx=>
  have a1:lo.map (ev [])=lo.map (ev' []):=by
   cases lo with
   |none=>rfl
   |some y=>simp only[Xo];rw[J y (by simp)]
  have Y:hi.map (ev [])=hi.map (ev' []):=by
   cases hi with
   |none=>rfl
   |some y=>simp only[Xo];rw[J y (by simp)]
  rw[<-J x (by simp),<-a1,<-Y];split at h
  ·split at h
   ·split at h
    ·split at h
     ·rename_i O _ _;simp only[hb _ _ O];rename_i h1 h2;simp only[h1,h2];exact h
     ·exact h.no.elim
    all_goals exact h
   ·exact h
   ·exact h.no.elim
  ·exact h.no.elim
 case extract x i=>rw[<-J x (by simp)];exact h
 case call c=>
  split at h
  ·rename_i N;split at h
   ·rename_i x t I htys;rw[<-J x (by simp[Call.operands,N,I])];exact h
   ·exact h.no.elim
  ·rename_i N;split at h
   ·rename_i x y I;rw[<-J x (by simp[Call.operands,N,I]),<-J y (by simp[Call.operands,N,I])];exact h
   ·exact h.no.elim
  ·rename_i N;split at h
   ·rename_i x y I;rw[<-J x (by simp[Call.operands,N,I]),<-J y (by simp[Call.operands,N,I])];exact h
   ·exact h.no.elim
  ·exact h.no.elim
theorem Qy3 {op:Op} (h:evP tb ev blk sc op K):∃v,K v∧evP tb ev blk sc op (fun u=>u=v):=by
 cases op<;>simp only[evP,QC,Za,Qer] at h|- <;>first|exact h.no.elim|skip
 case load t x=>
  split at h
  ·exact Qtm h
  ·exact h.no.elim
 case binOp op t x y ty=>
  split at h
  ·split at h
   ·exact QuC h
   ·exact h.no.elim
  all_goals (repeat' split at h)
  all_goals first
   |exact h.no.elim
   |exact⟨_,h.2,h.1,rfl⟩
   |exact⟨_,h,by simp_all⟩
 case call c=>
  split at h
  ·repeat' split at h
   all_goals first
    |exact h.no.elim
    |exact⟨_,h,by simp_all⟩
  ·rename_i hc;split at h
   ·rename_i x y I;split at h
    ·rename_i N J;exact⟨_,h,by simp only[hc,I,N,J]⟩
    ·exact h.no.elim
   ·exact h.no.elim
  ·rename_i hc;split at h
   ·rename_i x y I;split at h
    ·rename_i N J;exact⟨_,h,by simp only[hc,I,N,J]⟩
    ·exact h.no.elim
   ·exact h.no.elim
  ·exact h.no.elim
 all_goals (repeat' split at h)
 all_goals first
  |exact h.no.elim
  |exact h.2.no.elim
  |exact⟨_,h,by simp_all⟩
  |exact⟨_,h.2,by simp_all⟩
  |exact⟨_,h,rfl⟩
end Go.Ab
namespace Go.Ab
open Go.RowKit
def QmH (f:Nat->Rs->Bool):Nat->List Rs->Bool
 |_,[]=>true
 |i,r::rs=>match f i r with
  |true=>QmH f (i+1) rs
  |false=>false
theorem QaN {f:Nat->Rs->Bool}:∀ {R:List Rs} {i0:Nat},QmH f i0 R=true->∀(j:Nat) (r:Rs),R[j]? =some r->f (i0+j) r=true
 |q::R,i0,h,j,r,hj=>by
  simp only[QmH] at h;split at h
  ·rename_i I
   cases j with
   |zero=>simp at hj;subst hj;simpa using I
   |succ j=>rw[show i0+(j+1)=i0+1+j by omega];exact QaN h j r (by simpa using hj)
  ·cases h
 |[],_,_,_,_,hj=>by simp at hj
def Qnp:List Nat->Bool
 |[]=>true
 |x::r=>!ZX r x&&Qnp r
theorem QlT:∀ {l:List Nat},Qnp l=true->l.Pairwise (fun x y=>x≠y)
 |[],_=>.nil
 |x::r,h=>by
  simp only[Qnp,Y2,YF] at h;refine YB.2 ⟨fun y I e=>?_,QlT h.2⟩;subst e;rw[ZN.2 I] at h;cases h.1
def QwI:Option Nat->Option Nat->Bool
 |some a,some b=>!Nat.beq a b
 |_,_=>true
def QhM (S0:St) (ancs:List (List Nat)) (R:List Rs):Bool:=
 QmH (fun i ri=>QmH (fun j rj=>Nat.beq i j||QwI ri.dst rj.dst) 0 R) 0 R&&
 (Qnp ((JH (fun _=>true) 0 R).map (·.1))&&
 (QmH (fun _ ri=>ri.nb.all fun p=>!S0.mentions p.1) 0 R&&
 (QmH (fun i ri=>QmH (fun j rj=>Nat.beq i j||(ZX (nth ancs i) j||rj.nb.all fun p=>!ri.v.mentions p.1&&ri.nb.all fun q=>!q.2.mentions p.1)) 0 R) 0 R&&
 QmH (fun _ ri=>match ri.dst with|some t=>Nat.blt t S0.nt&&(match ri.g with|some (k,_)=>!Nat.beq k t|none=>true)|none=>(match ri.nb with|[]=>true|_=>false)) 0 R)))
def QwJ (j:Nat):List Nat->Bool
 |[]=>true
 |i::r=>Nat.blt i j&&QwJ j r
def forced (m:Nat):Nat->List Oper->Bool
 |_,[]=>true
 |k,o::r=>(Nat.blt k m||(List.range k).all (ZX (Zo o.after.toList)))&&forced m (k+1) r
def Qde:Nat->List Oper->Bool
 |_,[]=>true
 |k,o::r=>QwJ k (Zo o.after.toList)&&Qde (k+1) r
def QqS (dsts:List (Option Nat)) (S:St):St:=match S with
 |⟨base,nt,ts,_,bs,fs⟩=>⟨base,nt,Qoh dsts ts,[],bs,fs⟩
variable {P:Program} {tb:Tb} {w:World} {ρ:Env} {a:Act} {B:Bd} {w0:World} {F:List (Array Value)} {S:St}
theorem QqT {ev:Operand->V} {blk:Nat->Option Blk} {base:Nat} {dst:Option Nat} {op:Op} {K:Nat->V->Blk->Prop} (h:evN tb ev blk base dst op K):∃i v b,K i v b∧evN tb ev blk base dst op (fun N v' b'=>N=i∧v'=v∧b'=b):=by
 cases op<;>simp only[evN,Za,St.idK_eq] at h|- <;>first|exact h.no.elim|skip
 case makeSlice t l c=>
  split at h
  ·split at h
   ·have⟨hc,J,I,h1,h2,h3⟩:=h;exact⟨_,_,_,h3,hc,J,I,h1,h2,rfl,rfl,rfl⟩
   ·exact h.no.elim
  ·exact h.no.elim
 case buildSlice t len parts=>
  split at h
  ·split at h
   ·split at h
    ·split at h
     ·have⟨J,I,h1,h2,h3⟩:=h;exact⟨_,_,_,h3,J,I,h1,h2,rfl,rfl,rfl⟩
     ·exact h.no.elim
    ·exact h.no.elim
   ·exact h.no.elim
  ·exact h.no.elim
 case call c=>
  split at h
  ·split at h
   ·split at h
    ·split at h
     ·split at h
      ·have⟨hb,J,I,h1,h2,h3⟩:=h;exact⟨_,_,_,h3,hb,J,I,h1,h2,rfl,rfl,rfl⟩
      ·exact h.no.elim
     ·exact h.no.elim
    ·exact h.no.elim
   ·exact h.no.elim
  ·exact h.no.elim
 all_goals (repeat' split at h)
 all_goals first
  |exact h.no.elim
  |exact⟨_,_,_,h,by simp_all⟩
theorem QwK {ev:Operand->V} {blk:Nat->Option Blk} {base:Nat} {dst:Option Nat} {op:Op} {K K':Nat->V->Blk->Prop} (h:evN tb ev blk base dst op K) (N:∀i v b,K i v b->K' i v b):evN tb ev blk base dst op K':=by
 cases op<;>simp only[evN,Za,St.idK_eq] at h|- <;>first|exact h.no.elim|skip
 case makeSlice t l c=>
  split at h
  ·split at h
   ·have⟨hc,J,I,h1,h2,h3⟩:=h;exact⟨hc,J,I,h1,h2,N _ _ _ h3⟩
   ·exact h.no.elim
  ·exact h.no.elim
 case buildSlice t len parts=>
  split at h
  ·split at h
   ·split at h
    ·split at h
     ·have⟨J,I,h1,h2,h3⟩:=h;exact⟨J,I,h1,h2,N _ _ _ h3⟩
     ·exact h.no.elim
    ·exact h.no.elim
   ·exact h.no.elim
  ·exact h.no.elim
 case call c=>
  split at h
  ·split at h
   ·split at h
    ·split at h
     ·split at h
      ·have⟨hb,J,I,h1,h2,h3⟩:=h;exact⟨hb,J,I,h1,h2,N _ _ _ h3⟩
      ·exact h.no.elim
     ·exact h.no.elim
    ·exact h.no.elim
   ·exact h.no.elim
  ·exact h.no.elim
 all_goals (repeat' split at h)
 all_goals first
  |exact h.no.elim
  |exact N _ _ _ h
theorem QqU {ti:TI} {blk:Nat->Option Blk} {p:V} {K K':V->Prop} (h:Qd5 ti blk p K) (hk:∀v,K v->K' v):Qd5 ti blk p K':=by
 unfold Qd5 at h|-
 repeat' split at h
 all_goals first|exact h.no.elim|(rw[QC] at h;simp_all [QC])
theorem Qtn {sc:Prop->Prop} {op k x y} {K K':V->Prop} (h:QlI sc op k x y K) (I:∀v,K v->K' v):QlI sc op k x y K':=by
 cases op<;>simp only[QlI] at h|- <;>first|exact h.no.elim|exact⟨h.1,I _ h.2⟩|exact I _ h
theorem QwL {ev:List (Nat×Bool)->Operand->V} {blk:Nat->Option Blk} {sc:Prop->Prop} {op:Op} {K K':V->Prop} (h:evP tb ev blk sc op K) (I:∀v,K v->K' v):evP tb ev blk sc op K':=by
 cases op<;>simp only[evP,QC,Za,Qer] at h|- <;>first|exact h.no.elim|skip
 case load t x=>
  split at h
  ·exact QqU h I
  ·exact h.no.elim
 case binOp op t x y ty=>
  split at h
  ·split at h
   ·exact Qtn h I
   ·exact h.no.elim
  all_goals (repeat' split at h)
  all_goals first
   |exact h.no.elim
   |exact⟨h.1,I _ h.2⟩
   |(have:=I _ h;simp_all)
 case call c=>
  split at h
  ·repeat' split at h
   all_goals first
    |exact h.no.elim
    |exact I _ h
    |(have:=I _ h;simp_all)
  ·split at h
   ·split at h
    ·exact I _ h
    ·exact h.no.elim
   ·exact h.no.elim
  ·split at h
   ·split at h
    ·exact I _ h
    ·exact h.no.elim
   ·exact h.no.elim
  ·exact h.no.elim
 all_goals (repeat' split at h)
 all_goals first
  |exact h.no.elim
  |exact h.2.no.elim
  |exact I _ h
  |(have:=I _ h;simp_all)
  |(have:=I _ h.2;simp_all)
theorem Qen {blk blk':Nat->Option Blk} {sz:Nat} {v:V} {x:Nat×(Nat->List D)} (hb:∀i b,blk i=some b->blk' i=some b) (h:J0 blk sz v=some x):J0 blk' sz v=some x:=by
 cases v with
 |osl i o l=>
  simp only[J0] at h|-;split at h
  ·rename_i hl;rw[hb _ _ hl];exact h
  ·cases h
 |d x=>cases x<;>exact h
 |_=>exact h
theorem Qhc {c:Call} {x:Operand} (h:x∈c.args.toList):x∈(Op.operands (.call c)).toList:=by
 have h':x∈c.args:=by simpa using h
 have⟨f,args,tys⟩:=c
 cases f<;>simp_all [Op.operands,Call.operands]
theorem QgK {ev ev':Operand->V} {blk blk':Nat->Option Blk} {base:Nat} {dst:Option Nat} {op:Op} {K:Nat->V->Blk->Prop} (J:∀x∈op.operands.toList,ev x=ev' x) (hb:∀i b,blk i=some b->blk' i=some b) (h:evN tb ev blk base dst op K):evN tb ev' blk' base dst op K:=by
 cases op<;>simp only[evN] at h|- <;>first|exact h.no.elim|skip
 case alloc t=>exact h
 case box t x=>rw[<-J x (by simp[Op.operands])];exact h
 case makeSlice t l c=>rw[<-J l (by simp[Op.operands]),<-J c (by simp[Op.operands])];exact h
 case call c=>
  split at h
  ·split at h
   ·rename_i s x t t' I htys;have e1:ev s=ev' s:=J s (Qhc (by rw[I];simp));have N:ev x=ev' x:=J x (Qhc (by rw[I];simp));rw[e1,N] at h;split at h
    ·split at h
     ·split at h
      ·rename_i h1 h2;rw[h1,Qen hb h2];exact h
      ·exact h.no.elim
     ·exact h.no.elim
    ·exact h.no.elim
   ·exact h.no.elim
  ·exact h.no.elim
 case buildSlice t len parts=>
  have e:(parts.toList.map fun p=>(p.1,ev p.2))=(parts.toList.map fun p=>(p.1,ev' p.2)):=Xg fun p hp=>by
   rw[J p.2 (by simpa[Op.operands] using ⟨p.1,by simpa using hp⟩)]
  rw[<-e];exact h
theorem QuD {dst:Option Nat} {op:Op} {K:Nat->V->Blk->Prop} (hm:∀t,dst=some t->S.mentions (St.idOf S.base t)=false) (h:evN tb (S.ev []) (Qk S.blks) S.base dst op K):
  evE tb dst op S (fun v S'=>∃i b,K i v b∧S'=⟨S.base,S.nt,S.tmps,S.gds,(i,b)::S.blks,S.frames⟩):=by
 have⟨base,nt,ts,gs,bs,fs⟩:=S
 cases op<;>simp only[evN,St.idK_eq,Za] at h<;>first|exact h.no.elim|skip
 all_goals simp only[evE,St.idK_eq,Za]
 all_goals dsimp only at hm
 case alloc t=>
  split at h
  ·rename_i ti d I O;simp only[I,O,hm d rfl];exact⟨_,_,h,rfl⟩
  ·exact h.no.elim
 case box t x=>
  split at h
  ·rename_i d a5 O;simp only[hm d rfl,a5,O,Y0j,Bool.or_self];exact⟨_,_,h,rfl⟩
  ·exact h.no.elim
 case call c=>
  split at h
  case h_2=>exact h.no.elim
  rename_i a2;split at h
  case h_2=>exact h.no.elim
  rename_i s x t t' N Y;split at h
  case h_2=>exact h.no.elim
  rename_i e s1 s2 s3 s4 e' q1 q2 q3 q4 d I a1;split at h
  case h_2=>exact h.no.elim
  rename_i kk sz byt zz qq a6;split at h
  case h_2=>exact h.no.elim
  rename_i m r' hs hx;have⟨hb,n1,J,g1,g2,U⟩:=h;simp only[a2,N,Y,I,a1,a6,hx];rw[hs];simp only[J0,hm d rfl];exact⟨hb,n1,J,g1,g2,_,_,U,rfl⟩
 case makeSlice t l c=>
  split at h
  ·rename_i e s1 s2 s3 s4 d I;split at h
   ·rename_i h1 h2 h3;simp only[I,h1,h2,h3,hm d rfl];have⟨hc,n1,J,g1,g2,U⟩:=h;exact⟨hc,n1,J,g1,g2,_,_,U,rfl⟩
   ·exact h.no.elim
  ·exact h.no.elim
 case buildSlice t len parts=>
  split at h
  ·rename_i e s1 s2 s3 s4 d I;split at h
   ·rename_i h1;split at h
    ·rename_i h2 h3;split at h
     ·rename_i h4;simp only[I,h1,h2,h3,h4,hm d rfl];have⟨n1,J,g1,g2,U⟩:=h;exact⟨n1,J,g1,g2,_,_,U,rfl⟩
     ·exact h.no.elim
    ·exact h.no.elim
   ·exact h.no.elim
  ·exact h.no.elim
theorem QwM {cs:Nat->Option CS} {ops:List Oper} {j:Nat} {o:Oper} {K:Option (Nat×Bool)->V->List (Nat×Blk)->Prop} (h:Qnm P tb cs ops j o S K):
  ∃g v nb,K g v nb∧Qnm P tb cs ops j o S (fun g' v' N=>g'=g∧v'=v∧N=nb):=by
 have J:∀ {ev blk sc op} {K:V->Prop} {K':V->V->Prop},evP tb ev blk sc op K->(∀v,K' v v)->∃v,K v∧evP tb ev blk sc op (K' v):=by
  intro ev blk sc op K K' h hr;have⟨v,h1,h2⟩:=Qy3 h;exact⟨v,h1,QwL h2 fun u U=>by subst U;exact hr _⟩
 have⟨dst,op,ty,pos,after,guard⟩:=o
 cases guard with
 |none=>
  cases hv:Qyg op
  ·rw[Qfp hv] at h;simp only[Qfp hv]
   cases hN:isN op<;>simp only[hN] at h|-
   ·have⟨v,h1,h2⟩:=J (K':=fun v u=>(none:Option (Nat×Bool))=none∧u=v∧([]:List (Nat×Blk))=[]) h (fun v=>⟨rfl,rfl,rfl⟩);exact⟨_,_,_,h1,h2⟩
   ·have⟨i,v,b,h1,h2⟩:=QqT h;exact⟨_,_,_,h1,QwK h2 fun i' v' b' ⟨e1,Y,e3⟩=>by subst e1 Y e3;exact⟨rfl,rfl,rfl⟩⟩
  ·obtain⟨f,args,O,rfl⟩:=Qoi hv;simp only[Qnm] at h|-;split at h
   ·rename_i h1 h2;rw[QC] at h;exact⟨_,_,_,h.2,h.1,by simp[QC]⟩
   ·rename_i h1 h2;rw[QC] at h;exact⟨_,_,_,h.2,h.1,by simp[QC]⟩
   ·exact h.no.elim
 |some gd=>
  have⟨jg,want⟩:=gd;simp only[Qnm] at h|-;split at h
  ·rename_i key _ _ _ _ _ hjg
   cases op<;>try simp only at h|-
   case call c=>
    have⟨I,args,O⟩:=c
    cases I<;>try simp only at h|-
    case value f=>
     split at h
     ·rename_i h1 h2;rw[QC] at h;exact⟨_,_,_,h.2,h.1,by simp[QC]⟩
     ·rename_i h1 h2;rw[QC] at h;exact⟨_,_,_,h.2,h.1,by simp[QC]⟩
     ·exact h.no.elim
    all_goals (have⟨v,h1,h2⟩:=J (K':=fun v u=>some (key,want)=some (key,want)∧u=v∧([]:List (Nat×Blk))=[]) h (fun v=>⟨rfl,rfl,rfl⟩);exact⟨_,_,_,h1,h2⟩)
   all_goals (have⟨v,h1,h2⟩:=J (K':=fun v u=>some (key,want)=some (key,want)∧u=v∧([]:List (Nat×Blk))=[]) h (fun v=>⟨rfl,rfl,rfl⟩);exact⟨_,_,_,h1,h2⟩)
  ·exact h.no.elim
theorem Qy4 {cs:Nat->Option CS} {ops:List Oper} {j:Nat} {o:Oper} {K:Option (Nat×Bool)->V->List (Nat×Blk)->Prop} (h:evD P tb cs ops j o S K):
  ∃g v nb,K g v nb∧evD P tb cs ops j o S (fun O v' I=>O=g∧v'=v∧I=nb):=by
 cases J:QgJ (cs j)
 ·rw[Qpy J] at h|-;exact QwM h
 ·have⟨pre,res,post,hc,N,h1,h2⟩:=Qoj J h;refine⟨none,res,[],h2,?_⟩;unfold evD;rw[hc,N];simp only[QC];exact⟨h1,trivial,trivial,trivial⟩
end Go.Ab
namespace Go.Ab
open Go.RowKit
variable {P:Program} {tb:Tb} {w:World} {ρ:Env} {a:Act} {B:Bd} {w0:World} {F:List (Array Value)} {S:St}
theorem Qnq:∀(A:List (List Nat)) (j:Nat),nth A j=(A[j]?).getD []
 |[],j=>by simp[nth]
 |a::r,0=>by simp[nth]
 |a::r,j+1=>by simpa[nth] using Qnq r j
theorem QiY {A:List (List Nat)} {j i:Nat} (h:i<j):nth (A.take j) i=nth A i:=by
 rw[Qnq,Qnq,YP,Y4 h]
theorem QlU {A:List (List Nat)} {i:Nat}:∀ {es:List Nat},i∈ancIn A es↔ ∃e∈es,i=e∨i∈nth A e
 |[]=>by simp[ancIn]
 |e::r=>by
  have J:=QlU (A:=A) (i:=i) (es:=r);simp only[ancIn,Yi,Yx,J]
  constructor
  ·rintro(h|h|⟨I,h1,h2⟩)
   ·exact⟨e,.inl rfl,.inl h⟩
   ·exact⟨e,.inl rfl,.inr h⟩
   ·exact⟨I,.inr h1,h2⟩
  ·rintro⟨I,h1|h1,h2⟩
   ·subst h1;rcases h2 with h2|h2
    ·exact .inl h2
    ·exact .inr (.inl h2)
   ·exact .inr (.inr ⟨I,h1,h2⟩)
theorem Qnr {j:Nat}:∀ {l:List Nat},QwJ j l=true->∀i∈l,i<j
 |x::r,h,i,hi=>by
  simp only[QwJ,Y2] at h;rcases Yi.1 hi with hi|hi
  ·subst hi;simpa[Y0a] using h.1
  ·exact Qnr h.2 i hi
 |[],_,_,hi=>by simp at hi
theorem Qbv:∀ {os:List Oper} {k:Nat},Qde k os=true->∀(i:Nat) (o:Oper),os[i]? =some o->∀e∈Zo o.after.toList,e<k+i
 |q::os,k,h,i,o,hi,e,he=>by
  simp only[Qde,Y2] at h
  cases i with
  |zero=>simp at hi;subst hi;simpa using Qnr h.1 e he
  |succ i=>
   have:=Qbv h.2 i o (by simpa using hi) e he;omega
 |[],_,_,_,_,hi,_,_=>by simp at hi
theorem Qay:∀ {es:List Edge} {i:Nat},i∈Zo es↔ ∃e∈es,Region.binds .any e=true∧e.on=i
 |[],i=>by simp[Zo]
 |e::r,i=>by
  have J:=Qay (es:=r) (i:=i);simp only[Zo];split
  ·rename_i hb;simp only[Yi,J]
   constructor
   ·rintro(h|⟨I,h1,h2⟩)
    ·exact⟨e,.inl rfl,hb,h.symm⟩
    ·exact⟨I,.inr h1,h2⟩
   ·rintro⟨I,h1|h1,h2⟩
    ·subst h1;exact .inl h2.2.symm
    ·exact .inr ⟨I,h1,h2⟩
  ·rename_i hb;simp only[Yi,J]
   constructor
   ·rintro⟨I,h1,h2⟩;exact⟨I,.inr h1,h2⟩
   ·rintro⟨I,h1|h1,h2⟩
    ·subst h1;rw[hb] at h2;cases h2.1
    ·exact⟨I,h1,h2⟩
def QBB (P:Program) (tb:Tb) (cs:Nat->Option CS) (ops:List Oper) (dsts:List (Option Nat)) (S0:St) (A:List (List Nat)) (R:List Rs) (j:Nat) (o:Oper):Prop:=
 ∃r,R[j]? =some r∧nth A j=Qcm (A.take j) o∧r.dst=o.dst∧(∀x∈o.op.operands.toList,QiW dsts (nth A j) x=true)∧
  (∀jg want,o.guard=some (jg,want)->∃I key,ops[jg]? =some I∧I.dst=some key∧jg∈nth A j∧okT (nth A j) key 0 dsts=true)∧
  evD P tb cs ops j o (stOf S0 (R.take j) (ZX (nth A j))) (fun g v nb=>g=r.g∧v=r.v∧nb=r.nb)
theorem QlV {cs:Nat->Option CS} {ops:List Oper} {dsts:List (Option Nat)} {S0:St}:∀(rest:List Oper) (j:Nat) (A:List (List Nat)) (R:List Rs) (K:List (List Nat)->List Rs->Prop),A.length=j->R.length=j->
  evM P tb cs ops dsts S0 rest j A R K->∃J I,J.length=j+rest.length∧I.length=j+rest.length∧J.take j=A∧I.take j=R∧K J I∧∀(i:Nat) (o:Oper),rest[i]? =some o->QBB P tb cs ops dsts S0 J I (j+i) o
 |[],j,A,R,K,hA,hR,h=>⟨A,R,by simpa using hA,by simpa using hR,by rw[<-hA];simp,by rw[<-hR];simp,h,fun i o hi=>by simp at hi⟩
 |o::rest,j,A,R,K,hA,hR,h=>by
  simp only[evM,Qnn,QhL] at h;split at h
  case h_2=>exact h.no.elim
  rename_i h1 h2;have⟨g,v,nb,h3,h4⟩:=Qy4 h;rw[Qk6] at h3;have⟨J,I,e1,e2,e3,e4,e5,e6⟩:=QlV rest (j+1) (A++[Qcm A o]) (R++[⟨o.dst,g,v,nb⟩]) K (by simp[hA]) (by simp[hR]) h3;have O:J.take j=A:=by
   have:(J.take (j+1)).take j=A:=by rw[e3,<-hA];simp
   rwa[XY,Xa (by omega)] at this
  have U:I.take j=R:=by
   have:(I.take (j+1)).take j=R:=by rw[e4,<-hR];simp
   rwa[XY,Xa (by omega)] at this
  have N:nth J j=Qcm A o:=by
   rw[<-QiY (A:=J) (j:=j+1) (by omega),e3,Qnq,<-hA];simp
  have Y:I[j]? =some ⟨o.dst,g,v,nb⟩:=by
   have:(I.take (j+1))[j]? =some ⟨o.dst,g,v,nb⟩:=by rw[e4,<-hR];simp
   rwa[YP,Y4 (by omega)] at this
  refine⟨J,I,by rw[e1];simp;omega,by rw[e2];simp;omega,O,U,e5,fun i o' hi=>?_⟩
  cases i with
  |succ i=>rw[show j+(i+1)=j+1+i by omega];exact e6 i o' (by simpa using hi)
  |zero=>
   simp at hi;subst hi;refine⟨⟨o.dst,g,v,nb⟩,Y,by rw[X3,O];exact N,rfl,fun x hx=>?_,fun jg want hg=>?_,?_⟩
   ·rw[X3,N];exact Ye.1 h1 x hx
   ·rw[X3,N];rw[hg] at h2;dsimp only at h2;split at h2
    ·rename_i key q1 q2 q3 q4 q5 a1;simp only[Y2] at h2;exact⟨_,key,a1,rfl,ZN.1 h2.1,h2.2⟩
    ·cases h2
   ·rw[X3,N,U];exact h4
structure Walked (P:Program) (tb:Tb) (cs:Nat→Option CS) (m:Nat) (ops:List Oper) (S0:St) (A:List (List Nat)) (R:List Rs):Prop where
 hm:R.length=m
 facts:∀(j:Nat) (o:Oper),j<m→ops[j]? =some o→QBB P tb cs ops ((ops.take m).map (·.dst)) S0 A R j o
 lt:∀(j:Nat) (o:Oper),ops[j]? =some o→∀e∈Zo o.after.toList,e<j
 dsts:R.map (·.dst)=(ops.take m).map (·.dst)
 ne:∀(i j:Nat) (ri rj:Rs),R[i]? =some ri→R[j]? =some rj→i≠j→∀t,ri.dst=some t→rj.dst≠some t
 ids:(JH (fun _=>true) 0 R).Pairwise fun x y=>x.1≠y.1
 new:∀(i:Nat) (ri:Rs),R[i]? =some ri→∀p∈ri.nb,S0.mentions p.1=false
 ment:∀(i j:Nat) (ri rj:Rs),R[i]? =some ri→R[j]? =some rj→i≠j→j∉nth A i→∀p∈rj.nb,ri.v.mentions p.1=false∧∀q∈ri.nb,q.2.mentions p.1=false
 slots:∀(i:Nat) (ri:Rs),R[i]? =some ri→(ri.dst=none∧ri.nb=[])∨ ∃t,ri.dst=some t∧t<S0.nt∧∀k b,ri.g=some (k,b)→k≠t
 mask:∀(i:Nat) (ri:Rs) (t:Nat),R[i]? =some ri→ri.dst=some t→Qk S0.tmps t=none
 len:m≤ops.length
theorem Qhd {ds:List (Option Nat)} {t:Nat} (I:some t∈ds):∀(ts:List (Nat×V)),Qk (Qoh ds ts) t=none
 |[]=>rfl
 |(u,v)::r=>by
  simp only[Qoh];split
  ·exact Qhd I r
  ·rename_i J;rw[QO fun e=>?_]
   ·exact Qhd I r
   ·subst e;rw[Y06] at J;have:=J _ I;simp at this
theorem QpA {cs:Nat->Option CS} {m:Nat} {ops:List Oper} {S:St} {A:List (List Nat)} {R:List Rs} (a1:R.length=(ops.take m).length) (a7:m<=ops.length)
  (hf:∀(i:Nat) (o:Oper),(ops.take m)[i]? =some o->QBB P tb cs ops ((ops.take m).map (·.dst)) (QqS ((ops.take m).map (·.dst)) S) A R (0+i) o) (he:Qde 0 ops=true) (hc:QhM (QqS ((ops.take m).map (·.dst)) S) A R=true):
  Walked P tb cs m ops (QqS ((ops.take m).map (·.dst)) S) A R:=by
 simp only[QhM,Y2] at hc;have⟨c1,c2,c3,c4,c5⟩:=hc;have J:R.length=m:=by rw[a1];simp;omega
 have I:R.map (·.dst)=(ops.take m).map (·.dst):=by
  apply Y11
  intro i;simp only[Yu]
  cases ho:(ops.take m)[i]? with
  |none=>
   have:R[i]? =none:=by
    rw[List.getElem?_eq_none_iff] at ho|-;omega
   simp[this]
  |some o=>
   have⟨r,h1,_,h3,_⟩:=hf i o ho;rw[Yl] at h1;simp[h1,h3]
 refine⟨J,fun j o U ho=>?_,fun j o ho e a2=>?_,I,fun i j ri rj hi U O t N a5=>?_,?_,fun i ri hi p hp=>?_,fun i j ri rj hi U O Y p hp=>?_,fun i ri hi=>?_,fun i ri t hi N=>?_,a7⟩
 ·have:=hf j o (by rw[YP,Y4 U];exact ho);rwa[Yl] at this
 ·have:=Qbv he j o ho e a2;omega
 ·have:=QaN (QaN c1 i ri hi) j rj U;rw[Yl,Yl] at this;simp only[Yr] at this;rcases this with h|h
  ·exact O (Y9 h)
  ·rw[N,a5] at h;simp[QwI] at h
 ·have:=QlT c2;rw[Xc] at this;exact this
 ·have:=QaN c3 i ri hi;have:=Ye.1 this p hp;simpa using this
 ·have:=QaN (QaN c4 i ri hi) j rj U;rw[Yl,Yl] at this;simp only[Yr] at this;rcases this with h|h|h
  ·exact absurd (Y9 h) O
  ·exact absurd (ZN.1 h) Y
  ·have:=Ye.1 h p hp;simp only[Y2,YF] at this;refine⟨this.1,fun q hq=>?_⟩;have:=Ye.1 this.2 q hq;simpa using this
 ·have:=QaN c5 i ri hi;split at this
  ·rename_i t N;simp only[Y2] at this;refine .inr ⟨t,N,by simpa[Y0a] using this.1,fun k b hg e=>?_⟩;rw[hg] at this;subst e;simp at this
  ·rename_i N;split at this
   ·rename_i a6;exact .inl ⟨N,a6⟩
   ·cases this
 ·have:some t∈(ops.take m).map (·.dst):=by
   rw[<-I,<-N];exact Yo.2 ⟨ri,Xb hi,rfl⟩
  have⟨base,nt,ts,gs,bs,fs⟩:=S;exact Qhd this ts
end Go.Ab
namespace Go.Ab
open Go.RowKit
variable {P:Program} {tb:Tb} {w:World} {ρ:Env} {a:Act} {B:Bd} {w0:World} {F:List (Array Value)}
 {cs:Nat→Option CS} {m:Nat} {ops:List Oper} {S0:St} {A:List (List Nat)} {R:List Rs}
theorem Qsb {anc:List Nat} {t:Nat}:∀ {ds:List (Option Nat)} {i0:Nat},okT anc t i0 ds=true->∀i,ds[i]? =some (some t)->i0+i∈anc
 |d::r,i0,h,i,hi=>by
  simp only[okT] at h
  cases i with
  |zero=>
   simp at hi;subst hi;split at h
   ·cases h
   ·rename_i I
    cases hm:ZX anc i0
    ·exact absurd hm (I (by simp))
    ·simpa using ZN.1 hm
  |succ i=>
   rw[show i0+(i+1)=i0+1+i by omega];split at h
   ·cases h
   ·exact Qsb h i (by simpa using hi)
 |[],_,_,_,hi=>by simp at hi
theorem Walked.anc (W:Walked P tb cs m ops S0 A R) {j:Nat} {o:Oper} (J:j<m) (ho:ops[j]? =some o) {i:Nat}:i∈nth A j↔ ∃e∈Zo o.after.toList,i=e∨i∈nth A e:=by
 have⟨r,h1,h2,_⟩:=W.facts j o J ho;rw[h2,Qcm,QlU]
 constructor
 ·rintro⟨e,I,h⟩;rw[QiY (W.lt j o ho e I)] at h;exact⟨e,I,h⟩
 ·rintro⟨e,I,h⟩;refine⟨e,I,?_⟩;rw[QiY (W.lt j o ho e I)];exact h
theorem Walked.op (W:Walked P tb cs m ops S0 A R) {j:Nat} (I:j<m):∃o,ops[j]? =some o:=⟨_,Y5 (YK I W.len)⟩
theorem Walked.ancLt (W:Walked P tb cs m ops S0 A R):∀(n j:Nat),j<n->j<m->∀i∈nth A j,i<j
 |0,j,hn,_,_,_=>by omega
 |n+1,j,hn,hj,i,hi=>by
  have⟨o,ho⟩:=W.op hj;have⟨e,I,h⟩:=(W.anc hj ho).1 hi;have hlt:=W.lt j o ho e I;rcases h with h|h
  ·omega
  ·have:=W.ancLt n e (by omega) (by omega) i h;omega
def QgL (m:Nat) (A:List (List Nat)) (E:Nat->Bool):Prop:=∀i,i<m->E i=true->∀k∈nth A i,E k=true
theorem Walked.ancIn (W:Walked P tb cs m ops S0 A R) {E:Nat->Bool} (O:QgL m A E) {j:Nat} {o:Oper} (N:j<m) (ho:ops[j]? =some o) (J:∀e∈Zo o.after.toList,E e=true):∀i∈nth A j,E i=true:=by
 intro i hi;have⟨e,I,h⟩:=(W.anc N ho).1 hi;rcases h with h|h
 ·subst h;exact J _ I
 ·exact O e (by have:=W.lt j o ho e I;omega) (J e I) i h
theorem QuE (W:Walked P tb cs m ops S0 A R) (I:List Rs) (h:∀(i:Nat) (r:Rs),I[i]? =some r->R[i]? =some r):I.Pairwise (fun x y=>∀t,x.dst=some t->y.dst≠some t):=by
 rw[X9];intro i j hi N hij t h1 h2;have e1:=h i _ (Y5 hi);have J:=h j _ (Y5 N);exact W.ne i j _ _ e1 J (by omega) t h1 h2
theorem Qeo {j i:Nat} {r:Rs} (h:(R.take j)[i]? =some r):i<j∧R[i]? =some r:=by
 rw[YP] at h;split at h
 ·rename_i I;exact⟨I,h⟩
 ·cases h
theorem QwN (W:Walked P tb cs m ops S0 A R) {E:Nat->Bool} {j t:Nat} {anc:List Nat} (a9:∀i∈anc,i<j) (hE:∀i∈anc,E i=true) (a6:okT anc t 0 ((ops.take m).map (·.dst))=true) (ts:List (Nat×V)):
  Qk (QdN E 0 R++ts) t=Qk (QdN (ZX anc) 0 (R.take j)++ts) t∧Qh4 (Qd6 E 0 R) t=Qh4 (Qd6 (ZX anc) 0 (R.take j)) t:=by
 have pw:=QuE W R fun _ _ h=>h;have a5:=QuE W (R.take j) fun _ _ h=>(Qeo h).2;have a8:∀(i:Nat) (r:Rs),R[i]? =some r->r.dst=some t->i∈anc:=fun i r hi hd=>by
  have:((ops.take m).map (·.dst))[i]? =some (some t):=by rw[<-W.dsts,Yu,hi];simp[hd]
  simpa using Qsb a6 i this
 have a2:∀(i:Nat) (r:Rs) (i':Nat) (r':Rs),R[i]? =some r->R[i']? =some r'->r.dst=some t->r'.dst=some t->i=i':=fun i r i' r' h1 h2 h3 h4=>by
  rcases Nat.lt_trichotomy i i' with h|h|h
  ·exact absurd h4 (W.ne i i' r r' h1 h2 (by omega) t h3)
  ·exact h
  ·exact absurd h4 (W.ne i i' r r' h1 h2 (by omega) t h3)
 by_cases a1:∃(i:Nat) (r:Rs),R[i]? =some r∧r.dst=some t
 ·have⟨i,r,hi,hd⟩:=a1;have O:=a8 i r hi hd;have b0:=a9 i O;have N:(R.take j)[i]? =some r:=by rw[YP,Y4 b0];exact hi
  refine⟨?_,?_⟩
  ·rw[Qj,Qj,Qid pw hi (by simpa using hE i O) hd,Qid a5 N (by simpa using ZN.2 O) hd]
  ·have side:∀(E':Nat->Bool) (J:List Rs),(∀(i:Nat) (r:Rs),J[i]? =some r->R[i]? =some r)->J[i]? =some r->E' i=true->Qh4 (Qd6 E' 0 J) t=r.g.map fun p=>⟨t,p.1,p.2,r.v⟩:=by
    intro E' J I N a7
    cases hl:Qh4 (Qd6 E' 0 J) t with
    |none=>
     cases hg:r.g with
     |none=>rfl
     |some p=>
      have:(⟨t,p.1,p.2,r.v⟩:Gd)∈Qd6 E' 0 J:=QaX.2 ⟨i,r,N,by simpa using a7,hd,hg,rfl⟩;exact absurd rfl (Qno hl _ this)
    |some g=>
     have⟨hm,ht⟩:=QeB hl;have⟨i2,r2,h1,h2,h3,h4,h5⟩:=QaX.1 hm;rw[ht] at h3;have e:=a2 i r i2 r2 hi (I _ _ h1) hd h3;subst e;rw[N] at h1;cases h1;rw[h4]
     cases g;simp at h5 ht|-;exact⟨ht,h5⟩
   rw[side E R (fun _ _ h=>h) hi (hE i O),side (ZX anc) (R.take j) (fun _ _ h=>(Qeo h).2) N (ZN.2 O)]
 ·have Y:∀(E':Nat->Bool) (J:List Rs),(∀(i:Nat) (r:Rs),J[i]? =some r->R[i]? =some r)->Qk (QdN E' 0 J) t=none:=by
   intro E' J I
   cases hl:Qk (QdN E' 0 J) t with
   |none=>rfl
   |some v=>have⟨i,r,h1,_,h3,_⟩:=Qe3 hl;exact absurd ⟨i,r,I _ _ h1,h3⟩ a1
  have U:∀(E':Nat->Bool) (J:List Rs),(∀(i:Nat) (r:Rs),J[i]? =some r->R[i]? =some r)->Qh4 (Qd6 E' 0 J) t=none:=by
   intro E' J I
   cases hl:Qh4 (Qd6 E' 0 J) t with
   |none=>rfl
   |some g=>
    have⟨hm,ht⟩:=QeB hl;have⟨i,r,h1,_,h3,_⟩:=QaX.1 hm;rw[ht] at h3;exact absurd ⟨i,r,I _ _ h1,h3⟩ a1
  refine⟨?_,?_⟩
  ·rw[Qj,Qj,Y E R fun _ _ h=>h,Y (ZX anc) (R.take j) fun _ _ h=>(Qeo h).2]
  ·rw[U E R fun _ _ h=>h,U (ZX anc) (R.take j) fun _ _ h=>(Qeo h).2]
theorem QuF (W:Walked P tb cs m ops S0 A R) {E:Nat->Bool} {j:Nat} {anc:List Nat} (I:∀i∈anc,i<j) (N:∀i∈anc,E i=true) {x:Operand} (J:QiW ((ops.take m).map (·.dst)) anc x=true) (al:List (Nat×Bool)):
  (stOf S0 (R.take j) (ZX anc)).ev al x=(stOf S0 R E).ev al x:=by
 have⟨base,nt,ts,gs,bs,fs⟩:=S0
 cases x with
 |tmp t=>
  have⟨h1,h2⟩:=QwN W I N J ts;simp only[stOf,St.ev,Qyd];rw[h1,h2]
 |_=>rfl
theorem QuG (W:Walked P tb cs m ops S0 A R) {E:Nat->Bool} {j:Nat} {anc:List Nat} (hE:∀i∈anc,E i=true) {id:Nat} {b:Blk} (h:Qk (stOf S0 (R.take j) (ZX anc)).blks id=some b):Qk (stOf S0 R E).blks id=some b:=by
 have W':=W;have⟨base,nt,ts,gs,bs,fs⟩:=S0;simp only[stOf] at h|-;rw[Qj] at h|-;have sub:∀(E':Nat->Bool) (p:Nat×Blk),p∈JH E' 0 R->p∈JH (fun _=>true) 0 R:=fun E' p hp=>by
  have⟨i,r,h1,_,h3⟩:=Jp.1 hp;exact Jp.2 ⟨i,r,h1,rfl,h3⟩
 have O:(JH E 0 R).Pairwise fun x y=>x.1≠y.1:=by
  have:∀(E':Nat->Bool) (i0:Nat) (I:List Rs),(JH E' i0 I).Sublist (JH (fun _=>true) i0 I):=by
   intro E' i0 I
   induction I generalizing i0 with
   |nil=>exact Y12 _
   |cons r I Y=>
    simp only[JH];split
    ·exact(Y12 _).append (Y _)
    ·exact(Y _).trans (List.sublist_append_right _ _)
  exact W.ids.sublist (this E 0 R)
 cases h1:Qk (JH (ZX anc) 0 (R.take j)) id with
 |some b'=>
  rw[h1] at h;simp at h;subst h;have⟨i,r,U,g2,N⟩:=Jp.1 (Qe4 h1);rw[Yl] at g2;have:(id,b')∈JH E 0 R:=Jp.2 ⟨i,r,(Qeo U).2,by rw[Yl];exact hE i (ZN.1 g2),N⟩;rw[Qcn O this];rfl
 |none=>
  rw[h1] at h;simp at h
  cases h2:Qk (JH E 0 R) id with
  |none=>simpa using h
  |some b'=>
   have⟨i,r,U,_,N⟩:=Jp.1 (Qe4 h2);have J:=W.new i r U _ N;have⟨_,_,m3,_⟩:=St.mentions_parts J;have:=ZR (id:=id) h (.inl rfl);dsimp only at m3;rw[m3] at this;cases this
def Qgh (E:Nat->Bool) (j:Nat):Nat->Bool:=fun i=>E i||Nat.beq i j
theorem QaY {E:Nat->Bool} {j i:Nat}:Qgh E j i=true↔E i=true∨i=j:=by
 simp only[Qgh,Yr];exact or_congr Iff.rfl ⟨Y9,fun h=>by subst h;simp⟩
theorem Qns {E:Nat->Bool} (O:QgL m A E) {j:Nat} (N:∀i∈nth A j,E i=true):QgL m A (Qgh E j):=by
 intro i hi I k J;rcases QaY.1 I with h|h
 ·exact QaY.2 (.inl (O i hi h k J))
 ·subst h;exact QaY.2 (.inl (N k J))
theorem Qie (W:Walked P tb cs m ops S0 A R) {E:Nat->Bool} {j t:Nat} {r:Rs} (hr:R[j]? =some r) (hd:r.dst=some t) (hj:E j=false) {x:Value}
  (h:Sim P B w0 F ρ ⟨S0.base,S0.nt,QdN E 0 R++S0.tmps,Qd6 E 0 R,r.nb++(JH E 0 R++S0.blks),S0.frames⟩ a w)
  (hv:match r.g with
   |none=>VR w (ZM B (r.nb++(JH E 0 R++S0.blks)) ρ) ρ r.v x
   |some (key,want)=>(a.tmps.getD key undef=.bool want∧VR w (ZM B (r.nb++(JH E 0 R++S0.blks)) ρ) ρ r.v x)∨(a.tmps.getD key undef≠ .bool want∧x=undef))
  (U:∀g∈Qd6 E 0 R,g.t≠t∧g.key≠t):Sim P B w0 F ρ (stOf S0 R (Qgh E j)) (a.put (some t) x) w:=by
 have hS:stOf S0 R (Qgh E j)=⟨S0.base,S0.nt,QdN (Qgh E j) 0 R++S0.tmps,Qd6 (Qgh E j) 0 R,JH (Qgh E j) 0 R++S0.blks,S0.frames⟩:=by
  have⟨base,nt,ts,gs,bs,fs⟩:=S0;rfl
 rw[hS];have⟨t',a8,a6,a9⟩:=(W.slots j r hr).resolve_left (fun h=>by rw[hd] at h;cases h.1);rw[hd] at a8;cases a8;have h1:Sim P B w0 F ρ ⟨S0.base,S0.nt,(t,r.shown)::(QdN E 0 R++S0.tmps),(match r.g with|some (key,want)=>[⟨t,key,want,r.v⟩]|none=>[])++Qd6 E 0 R,r.nb++(JH E 0 R++S0.blks),S0.frames⟩ (a.put (some t) x) w:=by
  cases hg:r.g with
  |none=>
   rw[hg] at hv;simp only[Rs.shown,hg,YA];exact QqO h hv U a6
  |some p=>
   have⟨key,want⟩:=p;rw[hg] at hv;simp only[Rs.shown,hg,List.singleton_append];exact Qr5 h hv U (a9 key want hg) a6
 have pw:=QuE W R fun _ _ h=>h;refine h1.congr (fun u v O=>?_) (fun g hg=>?_) (fun id b=>?_)
 ·rw[Qj] at O
  cases hl:Qk (QdN (Qgh E j) 0 R) u with
  |some v'=>
   rw[hl] at O;simp at O;subst O;have⟨i,q,J,N,I,Y⟩:=Qe3 hl;rw[Yl] at N;rcases QaY.1 N with h2|h2
   ·have a5:t≠u:=fun e=>by
     subst e;have:i≠j:=fun e=>by subst e;rw[hj] at h2;cases h2
     exact W.ne j i r q hr J (YY this) t hd I
    rw[QO a5,Qj,Qid pw J (by simpa using h2) I,Y];rfl
   ·subst h2;rw[hr] at J;cases J;rw[hd] at I;cases I;rw[Zl,Y]
  |none=>
   rw[hl] at O;simp at O;have a5:t≠u:=fun e=>by
    subst e;have:=W.mask j r t hr hd;rw[this] at O;cases O
   rw[QO a5,Qj]
   cases b1:Qk (QdN E 0 R) u with
   |none=>simpa using O
   |some v'=>
    have⟨i,q,J,N,I,Y⟩:=Qe3 b1;rw[Yl] at N;have:=Qid pw J (E:=Qgh E j) (i0:=0) (by rw[Yl];exact QaY.2 (.inl N)) I;rw[hl] at this;cases this
 ·have⟨i,q,J,N,I,Y,g5⟩:=QaX.1 hg;rw[Yl] at N;rcases QaY.1 N with h2|h2
  ·exact Y0k _ (QaX.2 ⟨i,q,J,by simpa using h2,I,Y,g5⟩)
  ·subst h2;rw[hr] at J;cases J;refine Y0q _ ?_;rw[Y];rw[hd] at I
   cases g;simp at I g5|-;exact⟨I.symm,g5⟩
 ·have sub:∀(E':Nat->Bool) (i0:Nat) (R':List Rs),(JH E' i0 R').Sublist (JH (fun _=>true) i0 R'):=by
   intro E' i0 R'
   induction R' generalizing i0 with
   |nil=>exact Y12 _
   |cons r R' ih=>
    simp only[JH];split
    ·exact(Y12 _).append (ih _)
    ·exact(ih _).trans (List.sublist_append_right _ _)
  have a7:(JH (Qgh E j) 0 R).Pairwise fun x y=>x.1≠y.1:=W.ids.sublist (sub _ 0 R);have b0:(JH E 0 R).Pairwise fun x y=>x.1≠y.1:=W.ids.sublist (sub _ 0 R);have same:∀(i:Nat) (q:Rs) (p p':Nat×Blk),R[i]? =some q->p∈q.nb->(p'∈JH (fun _=>true) 0 R)->p.1=p'.1->p=p':=by
   intro i q p p' J N I e;have Y:p∈JH (fun _=>true) 0 R:=Jp.2 ⟨i,q,J,rfl,N⟩;have l1:=Qcn W.ids (t:=p.1) (v:=p.2) (by simpa using Y);have l2:=Qcn W.ids (t:=p'.1) (v:=p'.2) (by simpa using I);rw[e,l2] at l1
   cases p;cases p';simp at e l1|-;exact⟨e,l1.symm⟩
  have a2:∀E' (p:Nat×Blk),p∈JH E' 0 R->p∈JH (fun _=>true) 0 R:=fun E' p hp=>(sub E' 0 R).subset hp;have fresh:∀(p:Nat×Blk),p∈JH (fun _=>true) 0 R->∀b,Qk S0.blks p.1=some b->False:=fun p hp b hb=>by
   have⟨i,q,J,_,I⟩:=Jp.1 hp;have⟨_,_,m3,_⟩:=St.mentions_parts (W.new i q J _ I);have:=ZR (id:=p.1) hb (.inl rfl);rw[m3] at this;cases this
  rw[Qj,Qj,Qj];have key:∀b,Qk (JH (Qgh E j) 0 R) id=some b↔(Qk r.nb id=some b∨(Qk r.nb id=none∧Qk (JH E 0 R) id=some b)):=by
   intro b
   constructor
   ·intro hl;have hm:=Qe4 hl;have⟨i,q,J,N,I⟩:=Jp.1 hm;rw[Yl] at N;have a1:(id,b)∈r.nb∨(id,b)∈JH E 0 R:=by
     rcases QaY.1 N with h2|h2
     ·exact .inr (Jp.2 ⟨i,q,J,by simpa using h2,I⟩)
     ·subst h2;rw[hr] at J;cases J;exact .inl I
    cases hn:Qk r.nb id with
    |some b'=>
     have:=same j r (id,b') (id,b) hr (Qe4 hn) (a2 _ _ hm) rfl
     cases this;exact .inl rfl
    |none=>
     rcases a1 with h2|h2
     ·exfalso;have:∀(l:List (Nat×Blk)),(id,b)∈l->Qk l id≠none:=by
       intro l
       induction l with
       |nil=>intro h;simp at h
       |cons p l ih=>
        intro h hl;simp only[Qk] at hl;split at hl
        ·cases hl
        ·rename_i hb;rcases Yi.1 h with h|h
         ·subst h;simp at hb
         ·exact ih h hl
      exact this _ h2 hn
     ·exact .inr ⟨rfl,Qcn b0 h2⟩
   ·rintro(h2|⟨_,h2⟩)
    ·exact Qcn a7 (Jp.2 ⟨j,r,hr,by rw[Yl];exact QaY.2 (.inr rfl),Qe4 h2⟩)
    ·have⟨i,q,J,N,I⟩:=Jp.1 (Qe4 h2);rw[Yl] at N;exact Qcn a7 (Jp.2 ⟨i,q,J,by rw[Yl];exact QaY.2 (.inl N),I⟩)
  cases hA:Qk (JH (Qgh E j) 0 R) id with
  |some b'=>
   rcases(key b').1 hA with h2|⟨h2,h3⟩
   ·simp[h2]
   ·simp[h2,h3]
  |none=>
   have n1:Qk r.nb id=none:=by
    cases hn:Qk r.nb id with
    |none=>rfl
    |some b'=>have:=(key b').2 (.inl hn);rw[hA] at this;cases this
   have n2:Qk (JH E 0 R) id=none:=by
    cases hn:Qk (JH E 0 R) id with
    |none=>rfl
    |some b'=>have:=(key b').2 (.inr ⟨n1,hn⟩);rw[hA] at this;cases this
   simp[n1,n2]
theorem QuH {E:Nat->Bool} {j:Nat} {r:Rs} (hr:R[j]? =some r) (U:r.dst=none) (hn:r.nb=[]):stOf S0 R (Qgh E j)=stOf S0 R E:=by
 have key:∀(I:List Rs) (i0:Nat),(∀i q,I[i]? =some q->i0+i=j->q.dst=none∧q.nb=[])->QdN (Qgh E j) i0 I=QdN E i0 I∧Qd6 (Qgh E j) i0 I=Qd6 E i0 I∧JH (Qgh E j) i0 I=JH E i0 I:=by
  intro I
  induction I with
  |nil=>intro i0 _;exact⟨rfl,rfl,rfl⟩
  |cons q I Y=>
   intro i0 h;have⟨O,J,N⟩:=Y (i0+1) fun i q hi e=>h (i+1) q (by simpa using hi) (by omega)
   by_cases e:i0=j
   ·have⟨h1,h2⟩:=h 0 q rfl e;simp only[QdN,Qd6,JH,h1,h2,O,J,N,YA];refine⟨?_,?_,?_⟩
    ·cases Qgh E j i0<;>cases E i0<;>rfl
    ·cases Qgh E j i0<;>cases E i0<;>rfl
    ·cases Qgh E j i0<;>cases E i0<;>rfl
   ·have:Qgh E j i0=E i0:=by
     cases hb:E i0
     ·cases hc:Qgh E j i0
      ·rfl
      ·rcases QaY.1 hc with h|h
       ·rw[hb] at h;cases h
       ·exact absurd h e
     ·exact QaY.2 (.inl hb)
    simp only[QdN,Qd6,JH,this,O,J,N,and_self]
 have⟨h1,h2,h3⟩:=key R 0 fun i q hi e=>by
  have:i=j:=by omega
  subst this;rw[hr] at hi;cases hi;exact⟨U,hn⟩
 have⟨base,nt,ts,gs,bs,fs⟩:=S0;simp only[stOf,h1,h2,h3]
end Go.Ab
namespace Go.Ab
open Go.RowKit
variable {P:Program} {tb:Tb} {w:World} {ρ:Env} {a:Act} {B:Bd} {w0:World} {F:List (Array Value)}
 {cs:Nat→Option CS} {m:Nat} {ops:List Oper} {S0:St} {A:List (List Nat)} {R:List Rs}
theorem QpB {ops:List Oper} {j:Nat} {o:Oper} {S:St} {K:Option (Nat×Bool)->V->List (Nat×Blk)->Prop} (h:Qnm P tb cs ops j o S K):
  ∃g v nb,K g v nb∧((o.guard=none∧g=none)∨ ∃jg want O key,o.guard=some (jg,want)∧ops[jg]? =some O∧O.dst=some key∧g=some (key,want)):=by
 have⟨dst,op,ty,pos,after,guard⟩:=o
 cases guard with
 |none=>
  refine(?_:∃g v nb,K g v nb∧g=none).elim fun g ⟨v,nb,h1,h2⟩=>⟨g,v,nb,h1,.inl ⟨rfl,h2⟩⟩
  cases hv:Qyg op
  ·rw[Qfp hv] at h
   cases U:isN op<;>simp only[U] at h
   ·have⟨v,h1⟩:=Qg9 h;exact⟨_,_,_,h1,rfl⟩
   ·have⟨i,v,b,h1,h2⟩:=QqT h;exact⟨_,_,_,h1,rfl⟩
  ·obtain⟨f,args,N,rfl⟩:=Qoi hv;simp only[Qnm] at h;split at h
   ·rw[QC] at h;exact⟨_,_,_,h.2,rfl⟩
   ·rw[QC] at h;exact⟨_,_,_,h.2,rfl⟩
   ·exact h.no.elim
 |some gd=>
  have⟨jg,want⟩:=gd;simp only[Qnm] at h;split at h
  ·rename_i key _ _ _ _ _ J;refine(?_:∃g v nb,K g v nb∧g=some (key,want)).elim fun g ⟨v,nb,h1,h2⟩=>⟨g,v,nb,h1,.inr ⟨jg,want,_,key,rfl,J,rfl,h2⟩⟩
   cases op<;>try simp only at h
   case call c=>
    have⟨I,args,N⟩:=c
    cases I<;>try simp only at h
    case value f=>
     split at h
     ·rw[QC] at h;exact⟨_,_,_,h.2,rfl⟩
     ·rw[QC] at h;exact⟨_,_,_,h.2,rfl⟩
     ·exact h.no.elim
    all_goals (have⟨v,h1⟩:=Qg9 h;exact⟨_,_,_,h1,rfl⟩)
   all_goals (have⟨v,h1⟩:=Qg9 h;exact⟨_,_,_,h1,rfl⟩)
  ·exact h.no.elim
theorem Qok {ops:List Oper} {j:Nat} {o:Oper} {S:St} {K:Option (Nat×Bool)->V->List (Nat×Blk)->Prop} (h:evD P tb cs ops j o S K):
  ∃g v nb,K g v nb∧((o.guard=none∧g=none)∨ ∃jg want I key,o.guard=some (jg,want)∧ops[jg]? =some I∧I.dst=some key∧g=some (key,want)):=by
 cases J:QgJ (cs j)
 ·rw[Qpy J] at h;exact QpB h
 ·have⟨pre,res,post,hc,N,h1,h2⟩:=Qoj J h;exact⟨none,res,[],h2,.inl ⟨N,rfl⟩⟩
theorem Qyh {ev:Operand->V} {blk:Nat->Option Blk} {base t:Nat} {op:Op} {K:Nat->V->Blk->Prop} (h:evN tb ev blk base (some t) op K):evN tb ev blk base (some t) op (fun i v b=>i=St.idOf base t∧K i v b):=by
 cases op<;>simp only[evN,Za,St.idK_eq] at h|- <;>first|exact h.no.elim|skip
 case makeSlice t l c=>
  split at h
  ·split at h
   ·rename_i hd;rename_i h1;have⟨hc,J,I,h1,h2,h3⟩:=h;exact⟨hc,J,I,h1,h2,by simp_all,h3⟩
   ·exact h.no.elim
  ·exact h.no.elim
 case call c=>
  split at h
  ·split at h
   ·split at h
    ·rename_i hd1 hd2;split at h
     ·split at h
      ·have⟨hb,J,I,h1,h2,h3⟩:=h;exact⟨hb,J,I,h1,h2,by simp_all,h3⟩
      ·exact h.no.elim
     ·exact h.no.elim
    ·exact h.no.elim
   ·exact h.no.elim
  ·exact h.no.elim
 case buildSlice t len parts=>
  split at h
  ·split at h
   ·split at h
    ·split at h
     ·have⟨J,I,h1,h2,h3⟩:=h;exact⟨J,I,h1,h2,by simp_all,h3⟩
     ·exact h.no.elim
    ·exact h.no.elim
   ·exact h.no.elim
  ·exact h.no.elim
 all_goals (repeat' split at h)
 all_goals first
  |exact h.no.elim
  |(simp_all;done)
  |skip
theorem Qol {ops:List Oper} {j:Nat} {S:St} {g:Option (Nat×Bool)} {v:V} {nb:List (Nat×Blk)} {jg:Nat} {want:Bool} {dst op ty pos after} (h:Qnm P tb cs ops j ⟨dst,op,ty,pos,after,some (jg,want)⟩ S (fun N v' J=>N=g∧v'=v∧J=nb)):nb=[]:=by
 simp only[Qnm] at h;split at h
 ·cases op<;>try simp only at h
  case call c=>
   have⟨I,args,tys⟩:=c
   cases I<;>try simp only at h
   case value f=>
    split at h
    ·rw[QC] at h;exact h.2.2.2.symm
    ·rw[QC] at h;exact h.2.2.2.symm
    ·exact h.no.elim
   all_goals (have⟨v,h1⟩:=Qg9 h;exact h1.2.2.symm)
  all_goals (have⟨v,h1⟩:=Qg9 h;exact h1.2.2.symm)
 ·exact h.no.elim
theorem Qc4 {id:Nat}:∀ {ts:List (Nat×V)},Jg id ts=false↔ ∀p∈ts,p.2.mentions id=false
 |[]=>by simp[Jg]
 |(u,v)::r=>by
  have I:=Qc4 (id:=id) (ts:=r);simp only[Jg];split
  ·rename_i h;simp[h]
  ·rename_i h;simp[h,I]
theorem QfQ {id:Nat}:∀ {gs:List Gd},Jh id gs=false↔ ∀g∈gs,g.v.mentions id=false
 |[]=>by simp[Jh]
 |g::r=>by
  have I:=QfQ (id:=id) (gs:=r);simp only[Jh];split
  ·rename_i h;simp[h]
  ·rename_i h;simp[h,I]
theorem QF {id:Nat}:∀ {bs:List (Nat×Blk)},Q8 id bs=false↔ ∀p∈bs,p.1≠id∧p.2.mentions id=false
 |[]=>by simp[Q8]
 |(i,b)::r=>by
  have J:=QF (id:=id) (bs:=r);simp only[Q8];split
  ·rename_i h;simp[Y9 h]
  ·rename_i h;have I:i≠id:=fun e=>by subst e;simp at h
   split
   ·rename_i h2;simp[h2]
   ·rename_i h2;simp[h2,J,I]
theorem St.mentions_mk {S:St} {id:Nat} (h1:Jg id S.tmps=false) (h2:Jh id S.gds=false) (h3:Q8 id S.blks=false) (h4:Qc1 id S.frames=false):S.mentions id=false:=by
 simp[St.mentions,h1,h2,h3,h4]
theorem Qom {E:Nat->Bool}:∀ {R:List Rs} {i0:Nat} {p:Nat×V},p∈QdN E i0 R->∃(j:Nat) (r:Rs),R[j]? =some r∧E (i0+j)=true∧p.2=r.shown
 |[],_,_,h=>by simp[QdN] at h
 |r::R,i0,p,h=>by
  have I:p∈QdN E (i0+1) R->∃(j:Nat) (q:Rs),(r::R)[j]? =some q∧E (i0+j)=true∧p.2=q.shown:=fun h=>by
   have⟨j,q,h1,h2,h3⟩:=Qom h;exact⟨j+1,q,by simpa using h1,by rw[show i0+(j+1)=i0+1+j by omega];exact h2,h3⟩
  simp only[QdN] at h;split at h
  ·rename_i t J hd;rcases Yi.1 h with h|h
   ·subst h;exact⟨0,r,rfl,by simpa using J,rfl⟩
   ·exact I h
  ·exact I h
theorem Qyi (W:Walked P tb cs m ops S0 A R) {E:Nat->Bool} (hE:QgL m A E) {j:Nat} {r:Rs} (hr:R[j]? =some r) (hj:E j=false) {p:Nat×Blk} (hp:p∈r.nb):(stOf S0 R E).mentions p.1=false:=by
 have U:=W.new j r hr p hp;have⟨m1,m2,m3,m4⟩:=St.mentions_parts U;have I:∀(i:Nat) (q:Rs),R[i]? =some q->E i=true->q.v.mentions p.1=false∧(∀x∈q.nb,x.2.mentions p.1=false)∧∀x∈q.nb,x.1≠p.1:=fun i q hi N=>by
  have a2:i≠j:=fun e=>by subst e;rw[hj] at N;cases N
  have a6:i<m:=by rw[<-W.hm];exact(Ya.1 hi).1
  have a1:j∉nth A i:=fun h=>by have:=hE i a6 N j h;rw[hj] at this;cases this
  have⟨h1,h2⟩:=W.ment i j q r hi hr a2 a1 p hp;refine⟨h1,h2,fun x J e=>?_⟩;have l1:x∈JH (fun _=>true) 0 R:=Jp.2 ⟨i,q,hi,rfl,J⟩;have l2:p∈JH (fun _=>true) 0 R:=Jp.2 ⟨j,r,hr,rfl,hp⟩
  --two entries of one number:they are one entry,of one operation
  have key:∀(i0:Nat) (O:List Rs),(JH (fun _=>true) i0 O).Pairwise (fun x y=>x.1≠y.1)->∀(i j:Nat) (q r:Rs),O[i]? =some q->O[j]? =some r->i<j->∀x∈q.nb,∀p∈r.nb,x.1≠p.1:=by
   intro i0 O
   induction O generalizing i0 with
   |nil=>intro _ i j q r h;simp at h
   |cons y O ih=>
    intro Y i j q r hi hj hij x J p hp;simp only[JH] at Y;have⟨w1,w2,w3⟩:=Y07.1 Y
    cases j with
    |zero=>omega
    |succ j=>
     cases i with
     |zero=>
      simp at hi;subst hi;exact w3 x J p (Jp.2 ⟨j,r,by simpa using hj,rfl,hp⟩)
     |succ i=>exact ih _ w2 i j q r (by simpa using hi) (by simpa using hj) (by omega) x J p hp
  rcases Nat.lt_or_gt_of_ne a2 with a7|a5
  ·exact key 0 R W.ids i j q r hi hr a7 x J p hp e
  ·exact key 0 R W.ids j i r q hr hi a5 p hp x J e.symm
 have⟨base,nt,ts,gs,bs,fs⟩:=S0;dsimp only at m1 m2 m3 m4;refine St.mentions_mk ?_ ?_ ?_ m4
 ·refine Qc4.2 fun x J=>?_;rcases Yx.1 J with J|J
  ·have⟨i,q,h1,h2,h3⟩:=Qom J;rw[Yl] at h2;rw[h3];simp only[Rs.shown];split
   ·exact(I i q h1 h2).1
   ·rfl
  ·exact Qc4.1 m1 x J
 ·refine QfQ.2 fun g hg=>?_;have⟨i,q,h1,h2,_,_,h5⟩:=QaX.1 hg;rw[Yl] at h2;rw[h5];exact(I i q h1 h2).1
 ·refine QF.2 fun x J=>?_;rcases Yx.1 J with J|J
  ·have⟨i,q,h1,h2,h3⟩:=Jp.1 J;rw[Yl] at h2;exact⟨(I i q h1 h2).2.2 x h3,(I i q h1 h2).2.1 x h3⟩
  ·exact QF.1 m3 x J
theorem QjO {blk blk':Nat->Option Blk} (hb:∀id b,blk id=some b->blk' id=some b):∀ {cs:List V} {ds:List D},Qof blk cs=some ds->Qof blk' cs=some ds
 |[],ds,h=>h
 |u::r,ds,h=>by
  cases u<;>simp only[Qof] at h|- <;>first|cases h|skip
  ·split at h
   ·rename_i xs I;rw[QjO hb I];exact h
   ·cases h
  ·split at h
   ·rename_i h1 h2;rw[hb _ _ h1,QjO hb h2];exact h
   ·cases h
theorem Qsc {blk blk':Nat->Option Blk} (hb:∀id b,blk id=some b->blk' id=some b) {id off len:Nat} {d:D} (h:slV blk id off len=some d):slV blk' id off len=some d:=by
 unfold slV at h|-;split at h
 ·rename_i h1;rw[hb _ _ h1];exact h
 ·rename_i h1;rw[hb _ _ h1];split at h
  ·rename_i h2 h3;simp only[h2,QjO hb h3];exact h
  ·cases h
 ·cases h
theorem QjP {blk blk':Nat->Option Blk} (hb:∀id b,blk id=some b->blk' id=some b):∀ {cs:List V} {ds:List D},Qog blk cs=some ds->Qog blk' cs=some ds
 |[],ds,h=>h
 |u::r,ds,h=>by
  cases u<;>simp only[Qog] at h|- <;>first|cases h|skip
  ·split at h
   ·rename_i xs I;rw[QjP hb I];exact h
   ·cases h
  ·split at h
   ·rename_i h1 h2;rw[Qsc hb h1,QjP hb h2];exact h
   ·cases h
mutual
theorem Qto {blk blk':Nat->Option Blk} (hb:∀id b,blk id=some b->blk' id=some b) (v:V) (u:V) (h:Qfo blk v=some u):Qfo blk' v=some u:=by
 cases v with
 |any=>exact h
 |d=>exact h
 |rp=>exact h
 |osl id off len=>
  simp only[Qfo] at h|-
  split at h
  ·rename_i h1;rw[Qsc hb h1];exact h
  ·cases h
 |ref id row off=>
  simp only[Qfo] at h|-
  split at h
  ·rename_i h1
   split at h
   ·rename_i h2;rw[hb _ _ h1];simp only[QjP hb h2];exact h
   ·cases h
  ·rename_i h1;rw[hb _ _ h1];exact h
  ·cases h
 |agg vs=>
  simp only[Qfo] at h|-
  split at h
  ·rename_i I h1;rw[Qct hb vs I h1];exact h
  ·cases h
 |tup vs=>
  simp only[Qfo] at h|-
  split at h
  ·rename_i I h1;rw[Qct hb vs I h1];exact h
  ·cases h
 |fn f vs=>
  simp only[Qfo] at h|-
  split at h
  ·rename_i I h1;rw[Qct hb vs I h1];exact h
  ·cases h
theorem Qct {blk blk':Nat->Option Blk} (hb:∀id b,blk id=some b->blk' id=some b) (vs J:List V) (h:Qb6 blk vs=some J):Qb6 blk' vs=some J:=by
 cases vs with
 |nil=>exact h
 |cons v r=>
  simp only[Qb6] at h|-
  split at h
  ·rename_i u I h1 h2
   rw[Qto hb v u h1,Qct hb r I h2];exact h
  ·cases h
end
theorem ZT {f:Operand} {args:Array Operand} {I:Array TypeId} {x:Operand}:x∈(Op.operands (.call ⟨.value f,args,I⟩)).toList↔x=f∨x∈args:=by
 simp[Op.operands,Call.operands]
end Go.Ab
namespace Go.Ab
open Go.RowKit
variable {P:Program} {tb:Tb} {w:World} {ρ:Env} {a:Act} {B:Bd} {w0:World} {F:List (Array Value)}
 {cs:Nat→Option CS} {m:Nat} {ops:List Oper} {S0:St} {A:List (List Nat)} {R:List Rs}
theorem QfR {S S':St} {al:List (Nat×Bool)} (h:∀al x,S.ev al x=S'.ev al x):∀ {l:List (Nat×Bool)} {p:Prop},QaL S al l p=QaL S' al l p
 |[],p=>rfl
 |(k,w)::r,p=>by simp only[QaL,h,QfR h (l:=r) (p:=p)]
theorem QiZ {I:Array Oper} {Q:Exit->Act->World->Prop} {j:Nat} {o:Oper} {next:Act->World->Prop} (ho:I[j]? =some o) (J:Region.wanted o (yielded I a.tmps)=true) (h:o.wp P a w next Q):wpOp P I Q j next a w:=by
 unfold wpOp;simp only[ho,J,YE];exact .inl h
theorem QpC (hT:TOk P tb) (W:Walked P tb cs m ops S0 A R) {J:Array Oper} (c6:J.toList=ops) {E:Nat->Bool} (hE:QgL m A E) {j:Nat} {o:Oper} (hj:j<m) (a2:E j=false) (ho:ops[j]? =some o)
  (c0:QiX (cs j)=false) (e4:o.dst≠none) (hr:∀e∈Zo o.after.toList,E e=true) (h:Sim P B w0 F ρ (stOf S0 R E) a w) {next:Act->World->Prop} (hn:∀ρ' a' w',Sim P B w0 F ρ' (stOf S0 R (Qgh E j)) a' w'->next a' w') (Q:Exit->Act->World->Prop):
  wpOp P J Q j next a w:=by
 have d3:J[j]? =some o:=by rw[<-c6] at ho;simpa using ho
 have c3:∀res nb post p q,cs j≠some (.eff res nb post p q):=fun _ _ _ _ _ e=>by rw[e] at c0;cases c0
 have e9:QgJ (cs j)=false:=by
  cases hx:QgJ (cs j)
  ·rfl
  ·unfold QgJ at hx;split at hx
   ·rename_i hc;rw[hc] at c0;cases c0
   ·cases hx
 have⟨r,Y,hanc,e5,c4,e2,I⟩:=W.facts j o hj ho;rw[Qpy e9] at I;have c2:=W.ancIn hE hj ho hr;have g9:∀i∈nth A j,i<j:=W.ancLt (j+1) j (by omega) hj;have⟨t,a7,htn,hkt⟩:=(W.slots j r Y).resolve_left (fun h=>e4 (by rw[<-e5];exact h.1));have e6:o.dst=some t:=by rw[<-e5];exact a7
 have O:∀x∈o.op.operands.toList,∀al,(stOf S0 (R.take j) (ZX (nth A j))).ev al x=(stOf S0 R E).ev al x:=fun x hx al=>QuF W g9 c2 (c4 x hx) al;have a6:∀id b,Qk (stOf S0 (R.take j) (ZX (nth A j))).blks id=some b->Qk (stOf S0 R E).blks id=some b:=fun id b hb=>QuG W c2 hb;have a8:∀g∈Qd6 E 0 R,g.t≠t∧g.key≠t:=fun g hg=>by
  have⟨i,q,g1,g2,g3,g4,g5⟩:=QaX.1 hg;rw[Yl] at g2;have c3:i≠j:=fun e=>by subst e;rw[a2] at g2;cases g2
  refine⟨fun e=>W.ne j i r q Y g1 (YY c3) t a7 (by rw[<-e];exact g3),fun e=>?_⟩;have b9:i<m:=by rw[<-W.hm];exact(Ya.1 g1).1
  have⟨oi,f2⟩:=W.op b9;have⟨q',f1,_,_,_,f5,f6⟩:=W.facts i oi b9 f2;rw[g1] at f1;cases f1;have⟨gg,vv,nn,⟨k1,_,_⟩,k4⟩:=Qok f6;rcases k4 with ⟨_,k5⟩|⟨jg,want,oj,key,k5,k6,k7,k8⟩
  ·rw[<-k1,k5] at g4;cases g4
  ·rw[<-k1,k8] at g4;simp only[Yc,YX] at g4;have⟨f7,e3,l1,l2,l3,_⟩:=f5 jg want k5;rw[k6] at l1;cases l1;have c5:=hE i b9 g2 jg l3;have d2:jg≠j:=fun e=>by subst e;rw[a2] at c5;cases c5
   have d7:jg<m:=by have:=W.ancLt (i+1) i (by omega) b9 jg l3;omega
   have⟨rj,r1,_,r3,_⟩:=W.facts jg oj d7 k6;refine W.ne jg j rj r r1 Y d2 key (by rw[r3];exact k7) ?_;rw[g4.1,e];exact a7
 --the state as it stands
 have a1:stOf S0 R E=⟨S0.base,S0.nt,QdN E 0 R++S0.tmps,Qd6 E 0 R,JH E 0 R++S0.blks,S0.frames⟩:=by
  have⟨base,nt,ts,gs,bs,fs⟩:=S0;rfl
 have b3:∀p∈r.nb,(stOf S0 R E).mentions p.1=false:=fun p hp=>Qyi W hE Y a2 hp;have b1:∀(R':List Rs) (E':Nat->Bool),(stOf S0 R' E').base=S0.base:=fun R' E'=>by have⟨base,nt,ts,gs,bs,fs⟩:=S0;rfl
 have⟨dst,op,ty,pos,after,guard⟩:=o;dsimp only at e6 c4 O e2;subst e6
 cases guard with
 |none=>
  have c1:Region.wanted ⟨some t,op,ty,pos,after,none⟩ (yielded J a.tmps)=true:=by simp[Region.wanted]
  refine QiZ d3 c1 ?_;have done:∀ {n v w' ρ' S'},(execOp a.eval ⟨some t,op,ty,pos,after,none⟩).run P w=.ok n w'->(n=.value v∨(n=.skip∧v=undef))->
    Sim P B w0 F ρ' S' a w'->S'=⟨S0.base,S0.nt,QdN E 0 R++S0.tmps,Qd6 E 0 R,r.nb++(JH E 0 R++S0.blks),S0.frames⟩->VR w' (ZM B S'.blks ρ') ρ' r.v v->r.g=none->
    Oper.wp P ⟨some t,op,ty,pos,after,none⟩ a w next Q:=by
   intro n v w' ρ' S' h1 h2 h3 h4 h5 h6;subst h4;have:=Qie W Y a7 a2 h3 (x:=v) (by rw[h6];exact h5) a8;unfold Oper.wp;rw[h1];rcases h2 with rfl|⟨rfl,rfl⟩
   ·exact hn ρ' _ w' this
   ·exact hn ρ' _ w' this
  have N:∀ {K:V->Prop},evP tb (stOf S0 (R.take j) (ZX (nth A j))).ev (Qk (stOf S0 (R.take j) (ZX (nth A j))).blks) id op K->(∀v,K v->none=r.g∧v=r.v∧[]=r.nb)->
    Oper.wp P ⟨some t,op,ty,pos,after,none⟩ a w next Q:=by
   intro K hk hK;have h1:=Qfq (ev':=(stOf S0 R E).ev) (blk':=Qk (stOf S0 R E).blks) (fun x hx al=>O x hx al) a6 hk;have⟨v,w',x,h2,h3,h4,h5⟩:=QgD hT h.evR h.blks (fun _ ho=>QdY h ho) (fun p hp=>hp) ⟨some t,op,ty,pos,after,none⟩ h1;have⟨k1,k2,k3⟩:=hK x h5;subst k2;refine done h2 (.inl rfl) (h.pure h3) (by rw[<-k3];exact a1) h4 k1.symm
  have b5:evN tb ((stOf S0 (R.take j) (ZX (nth A j))).ev []) (Qk (stOf S0 (R.take j) (ZX (nth A j))).blks) (stOf S0 (R.take j) (ZX (nth A j))).base (some t) op (fun id v b=>none=r.g∧v=r.v∧[(id,b)]=r.nb)->Oper.wp P ⟨some t,op,ty,pos,after,none⟩ a w next Q:=by
   intro hk;have h1:=QgK (ev':=(stOf S0 R E).ev []) (blk':=Qk (stOf S0 R E).blks) (fun x hx=>O x hx []) a6 hk;rw[b1,<-b1 R E] at h1;have⟨i,v,b,⟨hi,k1,k2,k3⟩,_⟩:=QqT (Qyh h1);have hid:∀t',some t=some t'->(stOf S0 R E).mentions (St.idOf (stOf S0 R E).base t')=false:=fun t' f4=>by
    cases f4
    rw[<-hi];exact b3 (i,b) (by rw[<-k3];simp)
   have h2:=QuD hid h1;have⟨n,v',w',ρ',x,S',g1,g2,g3,g4,g5⟩:=QeF hT h ⟨some t,op,ty,pos,after,none⟩ h2;obtain⟨i',b',⟨l1,l2,l3⟩,rfl⟩:=g5;subst l2;refine done g1 g2 g3 ?_ g4 l1.symm;rw[<-l3,a1];rfl
  cases hv:Qyg op
  ·rw[Qfp hv] at I
   cases hN:isN op<;>simp only[hN] at I
   ·exact N I fun v hv=>hv
   ·exact b5 I
  ·obtain⟨f,args,g7,rfl⟩:=Qoi hv;simp only[Qnm] at I;split at I
   ·rename_i g cap k res nb hf b4;rw[QC] at I;have⟨c8,k1,k2,k3⟩:=I;have⟨args',b6,a5⟩:=c8.out;have d5:(stOf S0 R E).ev [] f=.fn g cap:=by rw[<-O f (ZT.2 (.inl rfl)) []];exact hf
    have U:args.toList.map ((stOf S0 (R.take j) (ZX (nth A j))).ev [])=args.toList.map ((stOf S0 R E).ev []):=Xg fun x hx=>O x (ZT.2 (.inr (by simpa using hx))) [];rw[U] at b6;have b7:=Qct a6 _ _ b6;have⟨g8,d1,d6,d4⟩:=QlQ (h.evR.eq d5);have a9:=Qdd (ev:=(stOf S0 R E).ev) (al:=[]) h.evR.at args d6 d4;have f8:CallP P g (args.toList.map ((stOf S0 R E).ev [])++cap) (stOf S0 R E) (fun v S'=>v=r.v∧S'=⟨S0.base,S0.nt,QdN E 0 R++S0.tmps,Qd6 E 0 R,r.nb++(JH E 0 R++S0.blks),S0.frames⟩):=by
     refine Qr9 k a5 b7 (fun b hb=>?_) ⟨k2,?_⟩
     ·have:Nb.ent k b∈r.nb:=by rw[<-k3];exact Yo.2 ⟨b,hb,rfl⟩
      exact b3 _ this
     ·rw[<-k3,a1]
    have b0:=f8.out B w0 F ρ a w _ h a9;unfold Oper.wp;rw[QfN d1 a5.can,Oper.upon_enter];refine Calls.mono b0 ?_;rintro e w' ⟨v,ρ',x,S',rfl,h1,h2,rfl,rfl⟩;exact hn ρ' _ w' (Qie W Y a7 a2 h1 (x:=v) (by rw[<-k1];exact h2) a8)
   ·rename_i b4;exact absurd b4 (c3 _ _ _ _ _)
   ·exact I.no.elim
 |some f9=>
  have⟨jg,want⟩:=f9;have⟨oj,key,l1,l2,l3,l4⟩:=e2 jg want rfl;have e8:J[jg]? =some oj:=by rw[<-c6] at l1;simpa using l1
  have hy:=Qh9 (tmps:=a.tmps) (want:=want) e8 l2;have c1:Region.wanted ⟨some t,op,ty,pos,after,some (jg,want)⟩ (yielded J a.tmps)=(yielded J a.tmps jg==some want):=by simp[Region.wanted]
  --what the forerunners alone say is true of the state as it stands
  have hL:Sim P B w0 F ρ ⟨S0.base,S0.nt,QdN (ZX (nth A j)) 0 (R.take j)++S0.tmps,Qd6 (ZX (nth A j)) 0 (R.take j),JH E 0 R++S0.blks,S0.frames⟩ a w:=by
   rw[a1] at h;refine h.congr (fun t v hv=>?_) (fun g hg=>?_) (fun _ _=>Iff.rfl)
   ·rw[Qj] at hv|-
    cases hl:Qk (QdN (ZX (nth A j)) 0 (R.take j)) t with
    |some v'=>
     rw[hl] at hv;simp at hv;subst hv;have⟨i,q,g1,g2,g3,g4⟩:=Qe3 hl;rw[Yl] at g2;rw[Qid (QuE W R fun _ _ h=>h) (Qeo g1).2 (by rw[Yl];exact c2 i (ZN.1 g2)) g3,g4];rfl
    |none=>
     rw[hl] at hv;simp at hv
     cases h0:Qk (QdN E 0 R) t with
     |none=>simpa using hv
     |some v'=>
      have⟨i,q,g1,g2,g3,g4⟩:=Qe3 h0;rw[W.mask i q t g1 g3] at hv;cases hv
   ·have⟨i,q,g1,g2,g3,g4,g5⟩:=QaX.1 hg;rw[Yl] at g2;exact QaX.2 ⟨i,q,(Qeo g1).2,by rw[Yl];exact c2 i (ZN.1 g2),g3,g4,g5⟩
  have d8:stOf S0 (R.take j) (ZX (nth A j))=⟨S0.base,S0.nt,QdN (ZX (nth A j)) 0 (R.take j)++S0.tmps,Qd6 (ZX (nth A j)) 0 (R.take j),JH (ZX (nth A j)) 0 (R.take j)++S0.blks,S0.frames⟩:=by
   have⟨base,nt,ts,gs,bs,fs⟩:=S0;rfl
  have⟨odst,oop,oty,opos,oaft,ogd⟩:=oj;dsimp only at l2;subst l2;have skip:∀ {gg:Option (Nat×Bool)} {v:V} {nb:List (Nat×Blk)},gg=r.g∧v=r.v∧nb=r.nb->gg=some (key,want)->nb=[]->a.tmps.getD key undef≠ .bool want->
    wpOp P J Q j next a w:=by
   intro gg v nb ⟨k1,k2,k3⟩ hgg c7 hw;have h7:Region.wanted ⟨some t,op,ty,pos,after,some (jg,want)⟩ (yielded J a.tmps)=false:=by
    rw[c1]
    cases hb:(yielded J a.tmps jg==some want)
    ·rfl
    ·exact absurd (hy.1 hb) hw
   unfold wpOp;simp only[d3,h7,Yw,Xi];refine hn ρ _ w (Qie W Y a7 a2 ?_ (x:=undef) (by rw[<-k1,hgg];exact .inr ⟨hw,rfl⟩) a8);rw[<-k3,c7];rw[a1] at h;exact h
  by_cases hw:a.tmps.getD key undef=.bool want
  ·have f3:Region.wanted ⟨some t,op,ty,pos,after,some (jg,want)⟩ (yielded J a.tmps)=true:=by rw[c1];exact hy.2 hw
   refine QiZ d3 f3 ?_;have b2:∀k g,(k,g)∈closure (stOf S0 (R.take j) (ZX (nth A j))).gds 9 key want->a.tmps.getD k undef=.bool g:=fun k g hm=>by
    rw[d8] at hm;exact Qem hL 9 key want hw k g hm
   have d0:∀p,QaL (stOf S0 (R.take j) (ZX (nth A j))) (closure (stOf S0 (R.take j) (ZX (nth A j))).gds 9 key want) (closure (stOf S0 (R.take j) (ZX (nth A j))).gds 9 key want) p->p:=fun p hp=>by
    refine QeH hL _ b2 _ p (fun _ hx=>hx) ?_;rw[QfR (S':=stOf S0 (R.take j) (ZX (nth A j)))]
    ·exact hp
    ·intro al x;rw[d8]
     cases x<;>rfl
   generalize d9:closure (stOf S0 (R.take j) (ZX (nth A j))).gds 9 key want=al at b2 d0;have e0:EvR w (ZM B (stOf S0 R E).blks ρ) ρ a (fun ex x=>(stOf S0 R E).ev (ex++al) x):=⟨fun al x hx=>h.evR.h _ x fun k g hm=>by
    rcases Yx.1 hm with hm|hm
    ·exact hx k g hm
    ·exact b2 k g hm⟩
   have N:∀ {K:V->Prop},evP tb (fun ex x=>(stOf S0 (R.take j) (ZX (nth A j))).ev (ex++al) x) (Qk (stOf S0 (R.take j) (ZX (nth A j))).blks) (QaL (stOf S0 (R.take j) (ZX (nth A j))) al al) op K->
     (∀v,K v->some (key,want)=r.g∧v=r.v∧[]=r.nb)->Oper.wp P ⟨some t,op,ty,pos,after,some (jg,want)⟩ a w next Q:=by
    intro K hk hK;have h1:=Qfq (ev':=fun ex x=>(stOf S0 R E).ev (ex++al) x) (blk':=Qk (stOf S0 R E).blks) (fun x hx al=>O x hx _) a6 hk;have⟨v,w',x,h2,h3,h4,h5⟩:=QgD hT e0 h.blks (fun _ ho=>QdY h ho) d0 ⟨some t,op,ty,pos,after,some (jg,want)⟩ h1;have⟨k1,k2,k3⟩:=hK x h5;subst k2;unfold Oper.wp;rw[h2];refine hn ρ _ w' (Qie W Y a7 a2 ?_ (x:=v) ?_ a8)
    ·rw[<-k3];have:=h.pure h3;rw[a1] at this;exact this
    ·rw[<-k1,<-k3];rw[a1] at h4;exact .inl ⟨hw,h4⟩
   simp only[Qnm] at I;rw[l1] at I;dsimp only at I;rw[d9] at I
   cases op<;>try simp only at I
   case call c=>
    have⟨b8,args,g7⟩:=c
    cases b8<;>try simp only at I
    case value f=>
     split at I
     ·rename_i g cap k0 res hf b4;rw[QC] at I;have⟨c8,k1,k2,k3⟩:=I;have⟨args',b6,a5⟩:=d0 _ c8.out;have d5:(stOf S0 R E).ev al f=.fn g cap:=by rw[<-O f (ZT.2 (.inl rfl)) _];exact hf
      have U:args.toList.map ((stOf S0 (R.take j) (ZX (nth A j))).ev al)=args.toList.map ((stOf S0 R E).ev al):=Xg fun x hx=>O x (ZT.2 (.inr (by simpa using hx))) _;rw[U] at b6;have b7:=Qct a6 _ _ b6;have e7:=h.evR.h al f b2;rw[d5] at e7;have⟨g8,d1,d6,d4⟩:=QlQ e7;have a9:=Qdd (ev:=(stOf S0 R E).ev) (al:=al) (fun x=>h.evR.h _ x b2) args d6 d4;have f0:CallG P id id g (args.toList.map ((stOf S0 R E).ev al)++cap) (stOf S0 R E) (fun v S1=>v=res∧S1=stOf S0 R E):=
       Qpx (res:=res) a5.can a5 (fun p q g6=>g6) (fun p hp=>hp) a5.flat (fun id=>by
        cases g0:res.mentions id
        ·rfl
        ·have⟨b,hb,_⟩:=a5.ids id g0;simp at hb) b7 ⟨rfl,rfl⟩
      obtain⟨x,S1,⟨rfl,rfl⟩,hc,_⟩:=f0.out;have b0:=hc B w0 F ρ a w _ h a9;unfold Oper.wp;rw[QfN d1 a5.can,Oper.upon_enter];refine Calls.mono b0 ?_;rintro e w' ⟨v,ρ',rfl,h1,h2⟩;refine hn ρ' _ w' (Qie W Y a7 a2 ?_ (x:=v) ?_ a8)
      ·rw[<-k3];rw[a1] at h1;exact h1
      ·rw[<-k1,<-k2,<-k3];rw[a1] at h2;exact .inl ⟨hw,h2⟩
     ·rename_i b4;exact absurd b4 (c3 _ _ _ _ _)
     ·exact I.no.elim
    all_goals exact N I fun v hv=>hv
   all_goals exact N I fun v hv=>hv
  ·have⟨gg,vv,nn,k1,k4⟩:=QpB I;have c7:r.nb=[]:=Qol I;rcases k4 with ⟨k5,_⟩|⟨jg',want',f7,e3,k5,k6,k7,k8⟩
   ·cases k5
   ·cases k5
    rw[l1] at k6;cases k6
    cases k7
    exact skip k1 k8 (by rw[k1.2.2];exact c7) hw
end Go.Ab
namespace Go.Ab
open Go.RowKit
variable {P:Program} {tb:Tb} {w:World} {ρ:Env} {a:Act} {B:Bd} {w0:World} {F:List (Array Value)}
 {cs:Nat→Option CS} {m:Nat} {ops:List Oper} {S0:St} {A:List (List Nat)} {R:List Rs}
theorem Qhe {ds:List (Option Nat)} {t:Nat} {v:V}:∀ {ts:List (Nat×V)},Qk (Qoh ds ts) t=some v->Qk ts t=some v
 |[],h=>by simp[Qoh,Qk] at h
 |(u,x)::r,h=>by
  simp only[Qoh] at h;split at h
  ·rename_i hb
   by_cases e:u=t
   ·subst e;have hm:some u∈ds:=by
     have⟨d,J,I⟩:=X0.1 hb
     cases d with
     |none=>cases I
     |some y=>have:=Y9 I;subst this;exact J
    rw[Qhd hm] at h;cases h
   ·rw[QO e];exact Qhe h
  ·rcases QY h with ⟨rfl,rfl⟩|⟨N,h⟩
   ·exact Zl
   ·rw[QO N];exact Qhe h
theorem Qnt {E E':Nat->Bool}:∀ {R:List Rs} {i0:Nat},(∀i,i<R.length->E (i0+i)=E' (i0+i))->QdN E i0 R=QdN E' i0 R∧Qd6 E i0 R=Qd6 E' i0 R∧JH E i0 R=JH E' i0 R
 |[],_,_=>⟨rfl,rfl,rfl⟩
 |r::R,i0,h=>by
  have I:E i0=E' i0:=by simpa using h 0 (by simp)
  have⟨h1,h2,h3⟩:=Qnt (E:=E) (E':=E') (R:=R) (i0:=i0+1) fun i hi=>by
   have:=h (i+1) (by simp;omega);rwa[show i0+1+i=i0+(i+1) by omega]
  simp only[QdN,Qd6,JH,I,h1,h2,h3,and_self]
theorem Qnu {E E':Nat->Bool} (h:∀i,i<R.length->E i=E' i):stOf S0 R E=stOf S0 R E':=by
 have⟨base,nt,ts,gs,bs,fs⟩:=S0;have⟨h1,h2,h3⟩:=Qnt (E:=E) (E':=E') (R:=R) (i0:=0) fun i hi=>by rw[Yl];exact h i hi
 simp only[stOf,h1,h2,h3]
def unl (listed:Array Bool):Nat:=listed.toList.countP (· ==false)
theorem Qon {listed:Array Bool} {i:Nat} (hi:listed.getD i true=false):unl listed=unl (listed.setIfInBounds i true)+1:=by
 have I:i<listed.size:=by
  by_cases h:i<listed.size
  ·exact h
  ·rw[Y7,XS (by omega)] at hi;cases hi
 have hv:listed[i]=false:=by rw[Y7,X8 I] at hi;exact hi
 have J:listed.toList[i]'(by simpa using I)=false:=by simpa using hv
 unfold unl;rw[Array.toList_setIfInBounds,List.countP_set (by simpa using I)];have hpos:0<listed.toList.countP (· ==false):=List.countP_pos_iff.2 ⟨false,by rw[<-J];exact Xj _,rfl⟩;have N:(listed.toList[i]'(by simpa using I)==false)=true:=by rw[J];rfl
 rw[Y4 N,Y3 (by decide)];omega
theorem QqV {listed:Array Bool} {i:Nat} (hi:listed.getD i true=false):0<unl listed:=by rw[Qon hi];omega
theorem QfS {listed:Array Bool} {i:Nat} (hi:i<listed.size):listed.getD i true=listed.getD i false:=by
 simp[Y7,X8 hi]
theorem getD_set {listed:Array Bool} {j:Nat} (I:j<listed.size):(fun i=>(listed.setIfInBounds j true).getD i false)=Qgh (fun i=>listed.getD i false) j:=by
 funext i
 simp only[Qgh,Y7,YO]
 by_cases h:j=i
 ·subst h;simp[I]
 ·simp[h,YY h]
end Go.Ab
