/-
  Regions whose order Go leaves open: a part of the frame in which a given row's proof walks the program; no condition.
-/
import Derived.Test.YtoknnjiangjccaaGreatDoorAbz3
set_option linter.all false
namespace Go.Ab
open Go.RowKit
structure Rs where
 dst:Option Nat
 g:Option (Nat×Bool)
 v:V
 nb:List (Nat×Blk)
def ZZ:List Nat->Nat->Bool
 |[],_=>false
 |x::r,i=>match Nat.beq x i with
  |true=>true
  |false=>ZZ r i
def Rs.shown (r:Rs):V:=match r.g with
 |none=>r.v
 |some _=>.any
def QdE (E:Nat->Bool):Nat->List Rs->List (Nat×V)
 |_,[]=>[]
 |i,r::rs=>match E i,r.dst with
  |true,some t=>(t,r.shown)::QdE E (i+1) rs
  |_,_=>QdE E (i+1) rs
def QdO (E:Nat->Bool):Nat->List Rs->List Gd
 |_,[]=>[]
 |i,r::rs=>match E i,r.dst,r.g with
  |true,some t,some (key,want)=>⟨t,key,want,r.v⟩::QdO E (i+1) rs
  |_,_,_=>QdO E (i+1) rs
def JN (E:Nat->Bool):Nat->List Rs->List (Nat×Blk)
 |_,[]=>[]
 |i,r::rs=>match E i with
  |true=>r.nb++JN E (i+1) rs
  |false=>JN E (i+1) rs
def Qnn (dsts:List (Option Nat)):List (Nat×V)->List (Nat×V)
 |[]=>[]
 |(t,v)::r=>match dsts.any fun d=>match d with|some u=>Nat.beq u t|none=>false with
  |true=>Qnn dsts r
  |false=>(t,v)::Qnn dsts r
def stOf (S0:St) (R:List Rs) (E:Nat->Bool):St:=match S0 with
 |⟨base,nt,ts,_,bs,fs⟩=>⟨base,nt,QdE E 0 R++ts,QdO E 0 R,JN E 0 R++bs,fs⟩
def nth:List (List Nat)->Nat->List Nat
 |[],_=>[]
 |a::_,0=>a
 |_::r,n+1=>nth r n
def Zl:List Edge->List Nat
 |[]=>[]
 |e::r=>match Region.binds .any e with
  |true=>e.on::Zl r
  |false=>Zl r
def ancIn (ancs:List (List Nat)):List Nat->List Nat
 |[]=>[]
 |i::r=>i::(nth ancs i++ancIn ancs r)
def Qcd (ancs:List (List Nat)) (o:Oper):List Nat:=ancIn ancs (Zl o.after.toList)
def okT (anc:List Nat) (t:Nat):Nat->List (Option Nat)->Bool
 |_,[]=>true
 |i,d::r=>match (match d with|some u=>Nat.beq u t|none=>false),ZZ anc i with
  |true,false=>false
  |_,_=>okT anc t (i+1) r
def Qik (dsts:List (Option Nat)) (anc:List Nat):Operand->Bool
 | .tmp t=>okT anc t 0 dsts
 |_=>true
def isN:Op->Bool
 | .alloc _=>true
 | .box ..=>true
 | .makeSlice ..=>true
 | .buildSlice _ len _=>!Nat.beq len 0
 | .call c=>(match c.callee with
  | .builtin .append=>true
  |_=>false)
 |_=>false
def evN (tb:Tb) (ev:Operand->V) (blk:Nat->Option Blk) (base:Nat) (dst:Option Nat) (op:Op) (K:Nat->V->Blk->Prop):Prop:=match op with
 | .alloc t=>(match tb.find t,dst,Nat.blt t 1000000 with
  |some ti,some dst,true=>St.idK base dst fun id=>Qaq (ti.zero.map .d) fun cs=>K id (.ref id 0 0) (.box t cs)
  | _, _, _ => Stuck "alloc")
 | .box t x=>(match dst,(ev x).storable,Nat.blt t 1000000 with
  |some dst,true,true=>St.idK base dst fun id=>Qaq (ev x).cells fun cs=>K id (.ref id 0 0) (.box t cs)
  | _, _, _ => Stuck "box")
 | .makeSlice t l c=>(match tb.find t,dst with
  |some ⟨.slice e,_,_,_,_⟩,some dst=>(match tb.find e,ev l,ev c with
   |some ⟨_,sz,byt,z,_⟩,.d (.int .i64 n),.d (.int .i64 m)=>St.idK base dst fun id=>
    (0<=n∧n<=m∧m*byt<=140737488355328∧m<=140737488355328)∧∃I G,I=n.toNat∧(∀i,i<I->G i=z)∧K id (.osl id 0 I) (.arr e sz I G)
   | _, _, _ => Stuck "makeSlice")
  | _, _ => Stuck "makeSlice type")
 | .buildSlice t len J=>(match tb.find t,dst with
  |some ⟨.slice e,_,_,_,_⟩,some dst=>(match tb.find e with
   |some ⟨_,sz,_,_,_⟩=>St.idK base dst fun id=>(match Qop sz 0 (J.toList.map fun p=>(p.1,ev p.2)),Nat.ble (len*sz) 1000000 with
    |some rs,true=>(match Nat.beq rs.length len with
     |true=>∃I G,I=len∧(∀i,i<I->G i=rowAt rs i)∧K id (.osl id 0 I) (.arr e sz I G)
     | false => Stuck "buildSlice parts left out")
    | _, _ => Stuck "buildSlice")
   | none => Stuck "buildSlice element type")
  | _, _ => Stuck "buildSlice type")
 | .call c=>(match c.callee with
  | .builtin .append=>(match c.args.toList,c.argTypes.toList with
   |[s,x],[t,t']=>(match tb.find t,tb.find t',dst with
    |some ⟨.slice e,_,_,_,_⟩,some ⟨.slice _,_,_,_,_⟩,some dst=>(match tb.find e with
     |some ⟨_,sz,byt,_,_⟩=>(match ev s,J6 blk sz (ev x) with
      | .d .nil,some (m,r')=>St.idK base dst fun id=>(0+m)*(byt+1)<=70368744177664∧∃I G,I=m∧(∀i,i<I->G i=r' i)∧K id (.osl id 0 I) (.arr e sz I G)
      | _, _ => Stuck "append not to an empty slice")
     | none => Stuck "append element type")
    | _, _, _ => Stuck "append type")
   | _, _ => Stuck "append arguments")
  | _ => Stuck "new call")
 | _ => Stuck "new"
structure CallD (P:Program) (sc:Prop→Prop) (g:FuncId) (blk:Nat→Option Blk) (vs:List V) (res:V) (nb:List Nb):Prop where
 can:Callable P g
 out:sc (∃args',QbZ blk vs=some args'∧PureC P g args' res nb)
inductive CS where
 |pure (k:Nat) (res:V) (nb:List Nb)
 |eff (res:V) (nb post:List (Nat×Blk)) (p:FuncId→List V→Prop) (q:Prop)
 |app (pre:List (Nat×Blk)) (res:V) (post:List (Nat×Blk))
def Qil:Option CS->Bool
 |some (.eff ..)=>true
 |some (.app ..)=>true
 |_=>false
def Qgu:Option CS->Bool
 |some (.app ..)=>true
 |_=>false
def QpV:List (Nat×Blk)->Nat->List (Nat×Blk)
 |[],_=>[]
 |(i,b)::r,j=>match Nat.beq i j with
  |true=>QpV r j
  |false=>(i,b)::QpV r j
def Qy5:Op->Bool
 | .alloc _=>false
 | .box ..=>false
 | .makeSlice ..=>false
 | .buildSlice ..=>false
 | .store ..=>false
 | .call c=>(match c.callee with
  | .builtin .append=>false
  | .builtin _=>true
  |_=>false)
 |_=>true
def QuW (tb:Tb) (ev:Operand->V) (G:Nat->Option Blk) (pre:List (Nat×Blk)) (base:Nat) (dst:Option Nat) (op:Op) (K:V->List (Nat×Blk)->Prop):Prop:=match op with
 | .alloc t=>evN tb ev G base dst (.alloc t) fun id v b=>K v ((id,b)::pre)
 | .box t x=>evN tb ev G base dst (.box t x) fun id v b=>K v ((id,b)::pre)
 | .buildSlice t len J=>evN tb ev G base dst (.buildSlice t len J) fun id v b=>K v ((id,b)::pre)
 | .makeSlice t l c=>evN tb ev G base dst (.makeSlice t l c) fun id v b=>K v ((id,b)::pre)
 | .call c=>(match c.callee with
  | .builtin .append=>(match c.args.toList,c.argTypes.toList with
   |[s,x],[t,t']=>(match tb.find t,tb.find t',dst with
    |some ⟨.slice e,_,_,_,_⟩,some ⟨.slice _,_,_,_,_⟩,some dst=>(match tb.find e with
     |some ⟨_,sz,byt,_,_⟩=>(match J6 (Qi pre) sz (ev s),J6 G sz (ev x) with
      |some (n,r),some (m,r')=>(match ev s with
       | .d .nil=>evN tb ev G base (some dst) (.call c) fun id v b=>K v ((id,b)::pre)
       | .osl id _ _=>(n+m)*(byt+1)<=70368744177664∧∃O I,O=n+m∧(∀i,i<O->I i=Qey n r r' i)∧St.idK base dst fun nid=>K (.osl nid 0 O) ((nid,.arr e sz O I)::QpV pre id)
       | _ => Stuck "append not to a row that is hidden")
      | _, _ => Stuck "append contents")
     | none => Stuck "append element type")
    | _, _, _ => Stuck "append type")
   | _, _ => Stuck "append arguments")
  | _ => Stuck "hidden call")
 | .store t a x=>(match tb.find t,ev a,ev x with
  |some ti,.ref id row off,v=>(match (v.storable&&Nat.beq v.cells.length ti.size),Qi pre id with
   |true,some (.box t' cs)=>(match row,Nat.ble (off+ti.size) cs.length with
    |0,true=>Qaq (QcO cs off v.cells) fun U=>K .any (QfQ pre id (.box t' U))
    | _, _ => Stuck "hidden store out of the variable")
   |true,some (.arr t' sz n rw)=>(match Nat.ble (off+ti.size) sz,QrI v.cells with
    |true,some ds=>∃I,(∀i,i<n->I i=if i=row then QcO (rw row) off ds else rw i)∧K .any (QfQ pre id (.arr t' sz n I))
    | _, _ => Stuck "hidden store into the element")
   | _, _ => Stuck "hidden store size or no such block")
  | _, _, _ => Stuck "hidden store")
 | _ => Stuck "hidden op"
def bty (n e:Nat):Nat:=n*1000000+e
def evB (tb:Tb) (ev:Operand->V) (pre:List (Nat×Blk)) (op:Op):Option (Nat×Nat×List V×Option Nat):=match op with
 | .buildSlice t len G=>(match len,tb.find t,G.toList with
  |1,some ⟨.slice e,_,_,_,_⟩,[(0,x)]=>(match tb.find e,QrI (ev x).cells with
   |some ⟨_,sz,_,_,_⟩,none=>(match (ev x).storable&&(Nat.beq (ev x).cells.length sz&&(Nat.blt e 1000000&&Nat.ble sz 1000000)) with
    |true=>some (e,1,(ev x).cells,none)
    |false=>none)
   |_,_=>none)
  |_,_,_=>none)
 | .call c=>(match c.callee with
  | .builtin .append=>(match c.args.toList,c.argTypes.toList with
   |[s,x],[t,t']=>(match tb.find t,tb.find t' with
    |some ⟨.slice e,_,_,_,_⟩,some ⟨.slice _,_,_,_,_⟩=>(match tb.find e,ev x with
     |some ⟨_,sz,byt,_,_⟩,.osl ix o m=>(match Qi pre ix,o with
      |some (.box tx cx),0=>(match Nat.beq tx (bty m e)&&(Nat.ble 1 m&&(Nat.blt e 1000000&&Nat.beq cx.length (m*sz))),ev s with
       |true,.d .nil=>(match Nat.ble (m*(byt+1)) 70368744177664 with
        |true=>some (e,m,cx,none)
        |false=>none)
       |true,.osl is 0 n=>(match Qi pre is with
        |some (.box ts cs)=>(match Nat.beq ts (bty n e)&&(Nat.ble 1 n&&(Nat.beq cs.length (n*sz)&&Nat.ble ((n+m)*(byt+1)) 70368744177664)) with
         |true=>some (e,n+m,cs++cx,some is)
         |false=>none)
        |_=>none)
       |_,_=>none)
      |_,_=>none)
     |_,_=>none)
    |_,_=>none)
   |_,_=>none)
  |_=>none)
 |_=>none
def QuJ (pre:List (Nat×Blk)):Option Nat->List (Nat×Blk)
 |none=>pre
 |some g=>QpV pre g
def evA (tb:Tb) (ev:Operand->V) (G:Nat->Option Blk) (pre:List (Nat×Blk)) (base:Nat) (dst:Option Nat) (op:Op) (K:V->List (Nat×Blk)->Prop):Prop:=match Qy5 op with
 |true=>evP tb (fun _ x=>ev x) (fun i=>(Qi pre i).or (G i)) id op fun v=>K v pre
 |false=>(match evB tb ev pre op,dst with
  |some (e,n,cs,gone),some dst=>St.idK base dst fun nid=>K (.osl nid 0 n) ((nid,.box (bty n e) cs)::QuJ pre gone)
  |_,_=>QuW tb ev G pre base dst op K)
def Qmt (P:Program) (tb:Tb) (cs:Nat->Option CS) (ops:List Oper) (j:Nat) (o:Oper) (S:St) (K:Option (Nat×Bool)->V->List (Nat×Blk)->Prop):Prop:=match o.guard with
 |none=>(match o.op with
  | .call ⟨.value f,args,_⟩=>(match S.ev [] f,cs j with
   | .fn g cap,some (.pure k res nb)=>CallD P id g (Qi S.blks) (args.toList.map (S.ev [])++cap) res nb∧Qal (res.shift k) fun v=>K none v (nb.map (Nb.ent k))
   | .fn g cap,some (.eff res nb _ p _)=>p g (args.toList.map (S.ev [])++cap)∧Qal res fun v=>K none v nb
   | _, _ => Stuck "drawn region a call without a contract")
  |op=>(match isN op with
   |true=>evN tb (S.ev []) (Qi S.blks) S.base o.dst op fun id v blk=>K none v [(id,blk)]
   |false=>evP tb S.ev (Qi S.blks) id op fun v=>K none v []))
 |some (jg,want)=>(match ops[jg]? with
  |some ⟨some key,_,_,_,_,_⟩=>(match o.op with
   | .call ⟨.value f,args,_⟩=>(match S.ev (closure S.gds 9 key want) f,cs j with
    | .fn g cap,some (.pure _ res [])=>CallD P (Qaz S (closure S.gds 9 key want) (closure S.gds 9 key want)) g (Qi S.blks) (args.toList.map (S.ev (closure S.gds 9 key want))++cap) res []∧Qal res fun v=>K (some (key,want)) v []
    | .fn g cap,some (.eff res [] _ p q)=>(Callable P g∧Qaz S (closure S.gds 9 key want) (closure S.gds 9 key want) (p g (args.toList.map (S.ev (closure S.gds 9 key want))++cap))∧QiX S key want q)∧Qal res fun v=>K (some (key,want)) v []
    | _, _ => Stuck "drawn region a guarded call without a contract")
   |op=>evP tb (fun G x=>S.ev (G++closure S.gds 9 key want) x) (Qi S.blks) (Qaz S (closure S.gds 9 key want) (closure S.gds 9 key want)) op fun v=>K (some (key,want)) v [])
  | _ => Stuck "drawn region guard")
def Qwm:Op->Bool
 | .call ⟨.value _,_,_⟩=>true
 |_=>false
theorem Qno {op:Op} (h:Qwm op=true):∃f args G,op=.call ⟨.value f,args,G⟩:=by
 unfold Qwm at h;split at h
 ·exact⟨_,_,_,rfl⟩
 ·cases h
theorem Qe0 {P:Program} {tb:Tb} {cs:Nat->Option CS} {ops:List Oper} {j:Nat} {S:St} {K:Option (Nat×Bool)->V->List (Nat×Blk)->Prop} {dst:Option Nat} {op:Op} {ty pos after} (h:Qwm op=false):
  Qmt P tb cs ops j ⟨dst,op,ty,pos,after,none⟩ S K=match isN op with
   |true=>evN tb (S.ev []) (Qi S.blks) S.base dst op fun id v blk=>K none v [(id,blk)]
   |false=>evP tb S.ev (Qi S.blks) id op fun v=>K none v []:=by
 cases op<;>first|rfl|skip
 case call c=>
  have⟨G,args,tys⟩:=c
  cases G<;>first|rfl|(simp[Qwm] at h)
def evD (P:Program) (tb:Tb) (cs:Nat->Option CS) (ops:List Oper) (j:Nat) (o:Oper) (S:St) (K:Option (Nat×Bool)->V->List (Nat×Blk)->Prop):Prop:=match cs j with
 |some (.app pre res post)=>(match o.guard with
  |none=>evA tb (S.ev []) (Qi S.blks) pre S.base o.dst o.op (fun v G=>v=res∧G=post)∧Qal res fun v=>K none v []
  | some _ => Stuck "drawn region a row grown under a guard")
 |_=>Qmt P tb cs ops j o S K
theorem Qoy {P:Program} {tb:Tb} {cs:Nat->Option CS} {ops:List Oper} {j:Nat} {o:Oper} {S:St} (h:Qgu (cs j)=false):evD P tb cs ops j o S=Qmt P tb cs ops j o S:=by
 funext K
 unfold evD;split
 ·rename_i hc;rw[hc] at h;cases h
 ·rfl
theorem Qnp {P:Program} {tb:Tb} {cs:Nat->Option CS} {ops:List Oper} {j:Nat} {o:Oper} {S:St} {K:Option (Nat×Bool)->V->List (Nat×Blk)->Prop} (h:Qgu (cs j)=true) (G:evD P tb cs ops j o S K):
  ∃pre res post,cs j=some (.app pre res post)∧o.guard=none∧evA tb (S.ev []) (Qi S.blks) pre S.base o.dst o.op (fun v I=>v=res∧I=post)∧K none res []:=by
 unfold evD at G;split at G
 ·rename_i pre res post hc;split at G
  ·rename_i O;rw[QC] at G;exact⟨pre,res,post,hc,O,G.1,G.2⟩
  ·exact G.no.elim
 ·rename_i J;unfold Qgu at h;split at h
  ·rename_i hc;exact absurd hc (J _ _ _)
  ·cases h
noncomputable def Qs6 {α:Type} (l:List α):α->(List α->Prop)->Prop:=List.rec (motive:=fun _=>α->(List α->Prop)->Prop) (fun x K=>K [x]) (fun a _ G x K=>G x fun l=>K (a::l)) l
noncomputable def Qs7 (l:List Nat):(List Nat->Prop)->Prop:=List.rec (motive:=fun _=>(List Nat->Prop)->Prop) (fun K=>K []) (fun x _ G K=>G fun r=>K (x::r)) l
theorem Qmu (l:List Nat):∀K:List Nat->Prop,Qs7 l K=K l:=by
 induction l with
 |nil=>intro K;rfl
 |cons x r G=>intro K;exact G _
def stK (S:St) (K:St->Prop):Prop:=match S with
 |⟨base,nt,ts,gs,bs,fs⟩=>QeW ts fun ts=>QfR gs fun gs=>Qay bs fun bs=>K ⟨base,nt,ts,gs,bs,fs⟩
theorem QfS (S:St) (K:St->Prop):stK S K=K S:=by
 have⟨base,nt,ts,gs,bs,fs⟩:=S;simp[stK,QbX,QcN,ZV]
def evM (P:Program) (tb:Tb) (cs:Nat->Option CS) (ops:List Oper) (dsts:List (Option Nat)) (S0:St):List Oper->Nat->List (List Nat)->List Rs->(List (List Nat)->List Rs->Prop)->Prop
 |[],_,ancs,R,K=>K ancs R
 |o::rest,j,ancs,R,K=>Qs7 (Qcd ancs o) fun anc=>match o.op.operands.toList.all (Qik dsts anc),(match o.guard with
   |none=>true
   |some (jg,_)=>(match ops[jg]? with
    |some ⟨some key,_,_,_,_,_⟩=>ZZ anc jg&&okT anc key 0 dsts
    |_=>false)) with
  |true,true=>evD P tb cs ops j o (stOf S0 R (ZZ anc)) fun g v nb=>Qs6 R ⟨o.dst,g,v,nb⟩ fun G=>evM P tb cs ops dsts S0 rest (j+1) (ancs++[anc]) G K
  | _, _ => Stuck "drawn region an operand that no forerunner gives"
variable {P:Program} {tb:Tb} {w:World} {ρ:Env} {a:Act} {B:Bd} {w0:World} {F:List (Array Value)} {S:St}
theorem Qkj {α:Type}:∀(l:List α) (x:α) (K:List α->Prop),Qs6 l x K=K (l++[x])
 |[],x,K=>rfl
 |a::r,x,K=>by show Qs6 r x (fun l=>K (a::l))=_;rw[Qkj r x];rfl
theorem ZO:∀ {l:List Nat} {i:Nat},ZZ l i=true↔i∈l
 |[],i=>by simp[ZZ]
 |x::r,i=>by
  simp only[ZZ];split
  ·rename_i h;simp[Y5 h]
  ·rename_i h;have:x≠i:=fun e=>by subst e;simp at h
   rw[ZO (l:=r)];simp[YU this]
theorem Qh {α:Type}:∀(l r:List (Nat×α)) (t:Nat),Qi (l++r) t=(Qi l t).or (Qi r t)
 |[],r,t=>rfl
 |(u,v)::l,r,t=>by
  simp only[XA,Qi];split
  ·rfl
  ·exact Qh l r t
theorem QeD {E:Nat->Bool}:∀ {R:List Rs} {i0 t:Nat} {v:V},Qi (QdE E i0 R) t=some v->∃j r,R[j]? =some r∧E (i0+j)=true∧r.dst=some t∧v=r.shown
 |r::R,i0,t,v,h=>by
  simp only[QdE] at h;have G:Qi (QdE E (i0+1) R) t=some v->∃j q,(r::R)[j]? =some q∧E (i0+j)=true∧q.dst=some t∧v=q.shown:=fun h=>by
   have⟨j,q,h1,h2,h3,h4⟩:=QeD h;exact⟨j+1,q,by simpa using h1,by rw[show i0+(j+1)=i0+1+j by omega];exact h2,h3,h4⟩
  split at h
  ·rename_i u hE I;rcases QZ h with ⟨rfl,rfl⟩|⟨_,h⟩
   ·exact⟨0,r,rfl,by simpa using hE,I,rfl⟩
   ·exact G h
  ·exact G h
 |[],_,_,_,h=>by simp[QdE,Qi] at h
theorem QhD {E:Nat->Bool}:∀ {R:List Rs} {i0 j t:Nat} {r:Rs},R.Pairwise (fun x y=>∀t,x.dst=some t->y.dst≠some t)->R[j]? =some r->E (i0+j)=true->r.dst=some t->Qi (QdE E i0 R) t=some r.shown
 |q::R,i0,0,t,r,hp,hj,hE,hd=>by
  simp at hj;subst hj;have J:E i0=true:=by simpa using hE
  simp only[QdE,J,hd];exact Zk
 |q::R,i0,j+1,t,r,hp,hj,hE,hd=>by
  have I:=YS.1 hp;have G:R[j]? =some r:=by simpa using hj
  have O:=QhD (E:=E) (i0:=i0+1) I.2 G (by rw[show i0+1+j=i0+(j+1) by omega];exact hE) hd;simp only[QdE];split
  ·rename_i u _ U;have:u≠t:=fun e=>by subst e;exact I.1 r (X1 G) u U hd
   rw[QQ this];exact O
  ·exact O
 |[],_,_,_,_,_,hj,_,_=>by simp at hj
theorem QaR {E:Nat->Bool}:∀ {R:List Rs} {i0:Nat} {g:Gd},g∈QdO E i0 R↔ ∃j r,R[j]? =some r∧E (i0+j)=true∧r.dst=some g.t∧r.g=some (g.key,g.want)∧g.v=r.v
 |[],i0,g=>by simp[QdO]
 |r::R,i0,g=>by
  have O:=QaR (E:=E) (R:=R) (i0:=i0+1) (g:=g);have step:(∃j q,(r::R)[j]? =some q∧E (i0+j)=true∧q.dst=some g.t∧q.g=some (g.key,g.want)∧g.v=q.v)↔
    (E i0=true∧r.dst=some g.t∧r.g=some (g.key,g.want)∧g.v=r.v)∨g∈QdO E (i0+1) R:=by
   rw[O]
   constructor
   ·rintro⟨j,q,h1,h2⟩
    cases j with
    |zero=>simp at h1;subst h1;exact .inl (by simpa using h2)
    |succ j=>exact .inr ⟨j,q,by simpa using h1,by rw[show i0+1+j=i0+(j+1) by omega];exact h2⟩
   ·rintro(h|⟨j,q,h1,h2⟩)
    ·exact⟨0,r,rfl,by simpa using h⟩
    ·exact⟨j+1,q,by simpa using h1,by rw[show i0+(j+1)=i0+1+j by omega];exact h2⟩
  rw[step];simp only[QdO];split
  ·rename_i t key want hE I J;rw[Yh];refine or_congr ⟨fun h=>?_,fun h=>?_⟩ Iff.rfl
   ·subst h;exact⟨hE,I,J,rfl⟩
   ·have⟨_,h2,h3,h4⟩:=h;rw[I] at h2;rw[J] at h3
    cases h2;cases h3
    cases g;simp at h4;subst h4;rfl
  ·rename_i G
   constructor
   ·intro h;exact .inr h
   ·rintro(⟨h1,h2,h3,_⟩|h)
    ·exact absurd h3 (fun h3=>G _ _ _ h1 h2 h3)
    ·exact h
theorem Qmv:∀ {gs:List Gd} {t:Nat},Qht gs t=none->∀g∈gs,g.t≠t
 |x::r,t,h,g,G=>by
  simp only[Qht] at h;split at h
  ·cases h
  ·rename_i hb;rcases Yh.1 G with G|G
   ·subst G;exact fun e=>by rw[e] at hb;simp at hb
   ·exact Qmv h g G
 |[],_,_,_,G=>by simp at G
theorem JB {E:Nat->Bool}:∀ {R:List Rs} {i0:Nat} {p:Nat×Blk},p∈JN E i0 R↔ ∃j r,R[j]? =some r∧E (i0+j)=true∧p∈r.nb
 |[],i0,p=>by simp[JN]
 |r::R,i0,p=>by
  have G:=JB (E:=E) (R:=R) (i0:=i0+1) (p:=p);have step:(∃j q,(r::R)[j]? =some q∧E (i0+j)=true∧p∈q.nb)↔(E i0=true∧p∈r.nb)∨p∈JN E (i0+1) R:=by
   rw[G]
   constructor
   ·rintro⟨j,q,h1,h2⟩
    cases j with
    |zero=>simp at h1;subst h1;exact .inl (by simpa using h2)
    |succ j=>exact .inr ⟨j,q,by simpa using h1,by rw[show i0+1+j=i0+(j+1) by omega];exact h2⟩
   ·rintro(h|⟨j,q,h1,h2⟩)
    ·exact⟨0,r,rfl,by simpa using h⟩
    ·exact⟨j+1,q,by simpa using h1,by rw[show i0+(j+1)=i0+1+j by omega];exact h2⟩
  rw[step];simp only[JN];split
  ·rename_i hE;simp[hE]
  ·rename_i hE;simp[hE]
theorem QeE {α:Type}:∀ {l:List (Nat×α)} {t:Nat} {v:α},Qi l t=some v->(t,v)∈l
 |(u,x)::r,t,v,h=>by
  rcases QZ h with ⟨rfl,rfl⟩|⟨_,h⟩
  ·simp
  ·exact Yp _ (QeE h)
 |[],_,_,h=>by simp[Qi] at h
theorem Qce {α:Type}:∀ {l:List (Nat×α)} {t:Nat} {v:α},l.Pairwise (fun x y=>x.1≠y.1)->(t,v)∈l->Qi l t=some v
 |(u,x)::r,t,v,hp,h=>by
  have G:=YS.1 hp;rcases Yh.1 h with h|h
  ·cases h;exact Zk
  ·rw[QQ (G.1 (t,v) h)];exact Qce G.2 h
 |[],_,_,_,h=>by simp at h
theorem Sim.congr {base I nt:Nat} {ts J:List (Nat×V)} {gs O:List Gd} {bs bs':List (Nat×Blk)} {fs:List Fr} (h:Sim P B w0 F ρ ⟨base,nt,ts,gs,bs,fs⟩ a w)
  (ht:∀t v,Qi J t=some v->Qi ts t=some v) (hg:∀g∈O,g∈gs) (hb:∀id b,Qi bs' id=some b↔Qi bs id=some b):Sim P B w0 F ρ ⟨I,nt,J,O,bs',fs⟩ a w:=by
 have G:ZL B bs' ρ=ZL B bs ρ:=by
  funext b
  simp only[ZL,own];refine congrArg (· ∨B.frn b) ?_;exact propext ⟨fun⟨i,k,h1,h2⟩=>⟨i,k,(hb i k).1 h1,h2⟩,fun⟨i,k,h1,h2⟩=>⟨i,k,(hb i k).2 h1,h2⟩⟩
 refine⟨h.below,h.tab,h.hB,h.defers,h.nt,?_,?_,fun i j x y Y hy=>h.sep i j x y ((hb _ _).1 Y) ((hb _ _).1 hy),fun i x Y=>h.ge i x ((hb _ _).1 Y),?_⟩
 ·dsimp only;rw[G];exact⟨fun t v hv=>h.top.tmps t v (ht t v hv),fun g U=>h.top.gds g (hg g U)⟩
 ·intro id b a2;dsimp only;rw[G];exact h.blks id b ((hb _ _).1 a2)
 ·refine⟨h.frames.1,fun i f tm hf a1=>?_⟩;dsimp only;rw[G];exact h.frames.2 i f tm hf a1
end Go.Ab
namespace Go.Ab
open Go.RowKit
variable {P:Program} {tb:Tb} {ev ev':List (Nat×Bool)→Operand→V} {blk blk':Nat→Option Blk} {sc:Prop→Prop} {K:V→Prop}
theorem Qoz {ti:TI} {p:V} (hb:∀id b,blk id=some b->blk' id=some b) (h:QdN ti blk p K):QdN ti blk' p K:=by
 unfold QdN at h|-;split at h
 ·rename_i id row off;split at h
  ·rename_i t cs G;simp only[hb _ _ G];exact h
  ·rename_i t sz n rw' G;simp only[hb _ _ G];exact h
  ·exact h.no.elim
 ·exact h
 ·exact h.no.elim
theorem QrZ {ti:TI} {p:V} (h:QdN ti blk p K):∃v,K v∧QdN ti blk p (fun u=>u=v):=by
 unfold QdN at h|-;split at h
 ·rename_i id row off;split at h
  ·split at h
   ·rw[QC] at h;exact⟨_,h,by simp[QC]⟩
   ·exact h.no.elim
  ·split at h
   ·rw[QC] at h;exact⟨_,h,by simp[QC]⟩
   ·exact h.no.elim
  ·exact h.no.elim
 ·split at h
  ·rw[QC] at h;exact⟨_,h,by simp[QC]⟩
  ·exact h.no.elim
 ·exact h.no.elim
theorem Qs8 {op k x y} (h:QkU sc op k x y K):∃v,K v∧QkU sc op k x y (fun u=>u=v):=by
 cases op<;>simp only[QkU] at h|- <;>first|exact h.no.elim|exact⟨_,h.2,h.1,rfl⟩|exact⟨_,h,rfl⟩
theorem Qe1 {op:Op} (I:∀x∈op.operands.toList,∀al,ev al x=ev' al x) (hb:∀id b,blk id=some b->blk' id=some b) (h:evP tb ev blk sc op K):evP tb ev' blk' sc op K:=by
 cases op<;>simp only[Op.operands] at I<;>simp only[evP] at h|- <;>first|exact h.no.elim|skip
 case move x=>rw[<-I x (by simp)];exact h
 case assign x=>rw[<-I x (by simp)];exact h
 case pick c x y=>
  rw[<-I c (by simp)];split at h
  ·rename_i p hp;split at h
   ·rename_i tc;rw[<-I x (by simp)];exact h
   ·rename_i tc hno;rw[I y (by simp)] at h;exact h
   ·exact h.no.elim
  ·exact h.no.elim
 case build t parts=>
  have e:(parts.toList.map fun p=>(p.1,ev [] p.2))=(parts.toList.map fun p=>(p.1,ev' [] p.2)):=YK fun p hp=>by
   rw[I p.2 (by simpa using ⟨p.1,by simpa using hp⟩)]
  rw[<-e];exact h
 case buildSlice t len parts=>
  have e:(parts.toList.map fun p=>(p.1,ev [] p.2))=(parts.toList.map fun p=>(p.1,ev' [] p.2)):=YK fun p hp=>by
   rw[I p.2 (by simpa using ⟨p.1,by simpa using hp⟩)]
  rw[<-e];exact h
 case load t x=>
  rw[<-I x (by simp)];split at h
  ·exact Qoz hb h
  ·exact h.no.elim
 case nilCheck x=>rw[<-I x (by simp)];exact h
 case binOp op t x y ty=>rw[<-I x (by simp),<-I y (by simp)];exact h
 case unOp op t x=>rw[<-I x (by simp)];exact h
 case convert s t x=>
  rw[<-I x (by simp)]
  revert h
  split
  ·exact id
  ·exact id
  ·split
   ·rename_i U;rw[hb _ _ U];exact id
   ·exact fun h=>h.no.elim
  ·exact id
 case makeFunc f first captured=>
  have e:captured.toList.map (ev [])=captured.toList.map (ev' []):=YK fun p hp=>by
   rw[I p (by simp;exact .inr (by simpa using hp))]
  rw[<-e];exact h
 case index t x i=>rw[<-I x (by simp),<-I i (by simp)];exact h
 case fieldAddr s x f=>rw[<-I x (by simp)];exact h
 case field s x f=>rw[<-I x (by simp)];exact h
 case indexAddr t x i=>
  rw[<-I x (by simp),<-I i (by simp)];split at h
  ·split at h
   ·split at h
    ·rename_i O;simp only[hb _ _ O];exact h
    ·rename_i O;simp only[hb _ _ O];exact h
    ·exact h.no.elim
   ·exact h
   ·exact h.no.elim
  ·exact h.no.elim
 case slice t x lo hi mx=>
  have Y:lo.map (ev [])=lo.map (ev' []):=by
   cases lo with
   |none=>rfl
   |some y=>simp only[Xq];rw[I y (by simp)]
  have a1:hi.map (ev [])=hi.map (ev' []):=by
   cases hi with
   |none=>rfl
   |some y=>simp only[Xq];rw[I y (by simp)]
  rw[<-I x (by simp),<-Y,<-a1];split at h
  ·split at h
   ·split at h
    ·split at h
     ·rename_i O _ _;simp only[hb _ _ O];rename_i h1 h2;simp only[h1,h2];exact h
     ·exact h.no.elim
    all_goals exact h
   ·exact h
   ·exact h.no.elim
  ·exact h.no.elim
 case extract x i=>rw[<-I x (by simp)];exact h
 case call c=>
  split at h
  ·rename_i J;split at h
   ·rename_i x t G htys;rw[<-I x (by simp[Call.operands,J,G])];exact h
   ·exact h.no.elim
  ·rename_i J;split at h
   ·rename_i x y G;rw[<-I x (by simp[Call.operands,J,G]),<-I y (by simp[Call.operands,J,G])];exact h
   ·exact h.no.elim
  ·rename_i J;split at h
   ·rename_i x y G;rw[<-I x (by simp[Call.operands,J,G]),<-I y (by simp[Call.operands,J,G])];exact h
   ·exact h.no.elim
  ·exact h.no.elim
theorem Qw8 {op:Op} (h:evP tb ev blk sc op K):∃v,K v∧evP tb ev blk sc op (fun u=>u=v):=by
 cases op<;>simp only[evP,QC,Za,Qd9] at h|- <;>first|exact h.no.elim|skip
 case load t x=>
  split at h
  ·exact QrZ h
  ·exact h.no.elim
 case binOp op t x y ty=>
  split at h
  ·split at h
   ·exact Qs8 h
   ·exact h.no.elim
  all_goals (repeat' split at h)
  all_goals first
   |exact h.no.elim
   |exact⟨_,h.2,h.1,rfl⟩
   |exact⟨_,h,by simp_all⟩
 case call c=>
  split at h
  ·repeat' split at h
   all_goals first
    |exact h.no.elim
    |exact⟨_,h,by simp_all⟩
  ·rename_i hc;split at h
   ·rename_i x y ha;split at h
    ·rename_i G I;exact⟨_,h,by simp only[hc,ha,G,I]⟩
    ·exact h.no.elim
   ·exact h.no.elim
  ·rename_i hc;split at h
   ·rename_i x y ha;split at h
    ·rename_i G I;exact⟨_,h,by simp only[hc,ha,G,I]⟩
    ·exact h.no.elim
   ·exact h.no.elim
  ·exact h.no.elim
 all_goals (repeat' split at h)
 all_goals first
  |exact h.no.elim
  |exact h.2.no.elim
  |exact⟨_,h,by simp_all⟩
  |exact⟨_,h.2,by simp_all⟩
  |exact⟨_,h,rfl⟩
end Go.Ab
namespace Go.Ab
open Go.RowKit
def QlM (f:Nat->Rs->Bool):Nat->List Rs->Bool
 |_,[]=>true
 |i,r::rs=>match f i r with
  |true=>QlM f (i+1) rs
  |false=>false
theorem QaA {f:Nat->Rs->Bool}:∀ {R:List Rs} {i0:Nat},QlM f i0 R=true->∀(j:Nat) (r:Rs),R[j]? =some r->f (i0+j) r=true
 |q::R,i0,h,j,r,hj=>by
  simp only[QlM] at h;split at h
  ·rename_i G
   cases j with
   |zero=>simp at hj;subst hj;simpa using G
   |succ j=>rw[show i0+(j+1)=i0+1+j by omega];exact QaA h j r (by simpa using hj)
  ·cases h
 |[],_,_,_,_,hj=>by simp at hj
def Qmw:List Nat->Bool
 |[]=>true
 |x::r=>!ZZ r x&&Qmw r
theorem Qk5:∀ {l:List Nat},Qmw l=true->l.Pairwise (fun x y=>x≠y)
 |[],_=>.nil
 |x::r,h=>by
  simp only[Qmw,Y4,YF] at h;refine YS.2 ⟨fun y G e=>?_,Qk5 h.2⟩;subst e;rw[ZO.2 G] at h;cases h.1
def QuX:Option Nat->Option Nat->Bool
 |some a,some b=>!Nat.beq a b
 |_,_=>true
def Qhf (S0:St) (ancs:List (List Nat)) (R:List Rs):Bool:=
 QlM (fun i ri=>QlM (fun j rj=>Nat.beq i j||QuX ri.dst rj.dst) 0 R) 0 R&&
 (Qmw ((JN (fun _=>true) 0 R).map (·.1))&&
 (QlM (fun _ ri=>ri.nb.all fun p=>!S0.mentions p.1) 0 R&&
 (QlM (fun i ri=>QlM (fun j rj=>Nat.beq i j||(ZZ (nth ancs i) j||rj.nb.all fun p=>!ri.v.mentions p.1&&ri.nb.all fun q=>!q.2.mentions p.1)) 0 R) 0 R&&
 QlM (fun _ ri=>match ri.dst with|some t=>Nat.blt t S0.nt&&(match ri.g with|some (k,_)=>!Nat.beq k t|none=>true)|none=>(match ri.nb with|[]=>true|_=>false)) 0 R)))
def QuY (j:Nat):List Nat->Bool
 |[]=>true
 |i::r=>Nat.blt i j&&QuY j r
def forced (m:Nat):Nat->List Oper->Bool
 |_,[]=>true
 |k,o::r=>(Nat.blt k m||(List.range k).all (ZZ (Zl o.after.toList)))&&forced m (k+1) r
def Qc3:Nat->List Oper->Bool
 |_,[]=>true
 |k,o::r=>QuY k (Zl o.after.toList)&&Qc3 (k+1) r
def QpW (dsts:List (Option Nat)) (S:St):St:=match S with
 |⟨base,nt,ts,_,bs,fs⟩=>⟨base,nt,Qnn dsts ts,[],bs,fs⟩
variable {P:Program} {tb:Tb} {w:World} {ρ:Env} {a:Act} {B:Bd} {w0:World} {F:List (Array Value)} {S:St}
theorem QpX {ev:Operand->V} {blk:Nat->Option Blk} {base:Nat} {dst:Option Nat} {op:Op} {K:Nat->V->Blk->Prop} (h:evN tb ev blk base dst op K):∃i v b,K i v b∧evN tb ev blk base dst op (fun J v' b'=>J=i∧v'=v∧b'=b):=by
 cases op<;>simp only[evN,Za,St.idK_eq] at h|- <;>first|exact h.no.elim|skip
 case makeSlice t l c=>
  split at h
  ·split at h
   ·have⟨hc,I,G,h1,h2,h3⟩:=h;exact⟨_,_,_,h3,hc,I,G,h1,h2,rfl,rfl,rfl⟩
   ·exact h.no.elim
  ·exact h.no.elim
 case buildSlice t len parts=>
  split at h
  ·split at h
   ·split at h
    ·split at h
     ·have⟨I,G,h1,h2,h3⟩:=h;exact⟨_,_,_,h3,I,G,h1,h2,rfl,rfl,rfl⟩
     ·exact h.no.elim
    ·exact h.no.elim
   ·exact h.no.elim
  ·exact h.no.elim
 case call c=>
  split at h
  ·split at h
   ·split at h
    ·split at h
     ·split at h
      ·have⟨hb,I,G,h1,h2,h3⟩:=h;exact⟨_,_,_,h3,hb,I,G,h1,h2,rfl,rfl,rfl⟩
      ·exact h.no.elim
     ·exact h.no.elim
    ·exact h.no.elim
   ·exact h.no.elim
  ·exact h.no.elim
 all_goals (repeat' split at h)
 all_goals first
  |exact h.no.elim
  |exact⟨_,_,_,h,by simp_all⟩
theorem QuZ {ev:Operand->V} {blk:Nat->Option Blk} {base:Nat} {dst:Option Nat} {op:Op} {K K':Nat->V->Blk->Prop} (h:evN tb ev blk base dst op K) (hk:∀i v b,K i v b->K' i v b):evN tb ev blk base dst op K':=by
 cases op<;>simp only[evN,Za,St.idK_eq] at h|- <;>first|exact h.no.elim|skip
 case makeSlice t l c=>
  split at h
  ·split at h
   ·have⟨hc,I,G,h1,h2,h3⟩:=h;exact⟨hc,I,G,h1,h2,hk _ _ _ h3⟩
   ·exact h.no.elim
  ·exact h.no.elim
 case buildSlice t len parts=>
  split at h
  ·split at h
   ·split at h
    ·split at h
     ·have⟨I,G,h1,h2,h3⟩:=h;exact⟨I,G,h1,h2,hk _ _ _ h3⟩
     ·exact h.no.elim
    ·exact h.no.elim
   ·exact h.no.elim
  ·exact h.no.elim
 case call c=>
  split at h
  ·split at h
   ·split at h
    ·split at h
     ·split at h
      ·have⟨hb,I,G,h1,h2,h3⟩:=h;exact⟨hb,I,G,h1,h2,hk _ _ _ h3⟩
      ·exact h.no.elim
     ·exact h.no.elim
    ·exact h.no.elim
   ·exact h.no.elim
  ·exact h.no.elim
 all_goals (repeat' split at h)
 all_goals first
  |exact h.no.elim
  |exact hk _ _ _ h
theorem QpY {ti:TI} {blk:Nat->Option Blk} {p:V} {K K':V->Prop} (h:QdN ti blk p K) (hk:∀v,K v->K' v):QdN ti blk p K':=by
 unfold QdN at h|-
 repeat' split at h
 all_goals first|exact h.no.elim|(rw[QC] at h;simp_all [QC])
theorem Qr0 {sc:Prop->Prop} {op k x y} {K K':V->Prop} (h:QkU sc op k x y K) (hk:∀v,K v->K' v):QkU sc op k x y K':=by
 cases op<;>simp only[QkU] at h|- <;>first|exact h.no.elim|exact⟨h.1,hk _ h.2⟩|exact hk _ h
theorem Qu0 {ev:List (Nat×Bool)->Operand->V} {blk:Nat->Option Blk} {sc:Prop->Prop} {op:Op} {K K':V->Prop} (h:evP tb ev blk sc op K) (hk:∀v,K v->K' v):evP tb ev blk sc op K':=by
 cases op<;>simp only[evP,QC,Za,Qd9] at h|- <;>first|exact h.no.elim|skip
 case load t x=>
  split at h
  ·exact QpY h hk
  ·exact h.no.elim
 case binOp op t x y ty=>
  split at h
  ·split at h
   ·exact Qr0 h hk
   ·exact h.no.elim
  all_goals (repeat' split at h)
  all_goals first
   |exact h.no.elim
   |exact⟨h.1,hk _ h.2⟩
   |(have:=hk _ h;simp_all)
 case call c=>
  split at h
  ·repeat' split at h
   all_goals first
    |exact h.no.elim
    |exact hk _ h
    |(have:=hk _ h;simp_all)
  ·split at h
   ·split at h
    ·exact hk _ h
    ·exact h.no.elim
   ·exact h.no.elim
  ·split at h
   ·split at h
    ·exact hk _ h
    ·exact h.no.elim
   ·exact h.no.elim
  ·exact h.no.elim
 all_goals (repeat' split at h)
 all_goals first
  |exact h.no.elim
  |exact h.2.no.elim
  |exact hk _ h
  |(have:=hk _ h;simp_all)
  |(have:=hk _ h.2;simp_all)
theorem Qd5 {blk blk':Nat->Option Blk} {sz:Nat} {v:V} {x:Nat×(Nat->List D)} (hb:∀i b,blk i=some b->blk' i=some b) (h:J6 blk sz v=some x):J6 blk' sz v=some x:=by
 cases v with
 |osl i o l=>
  simp only[J6] at h|-;split at h
  ·rename_i hl;rw[hb _ _ hl];exact h
  ·cases h
 |d x=>cases x<;>exact h
 |_=>exact h
theorem QgU {c:Call} {x:Operand} (h:x∈c.args.toList):x∈(Op.operands (.call c)).toList:=by
 have h':x∈c.args:=by simpa using h
 have⟨f,args,tys⟩:=c
 cases f<;>simp_all [Op.operands,Call.operands]
theorem Qgv {ev ev':Operand->V} {blk blk':Nat->Option Blk} {base:Nat} {dst:Option Nat} {op:Op} {K:Nat->V->Blk->Prop} (I:∀x∈op.operands.toList,ev x=ev' x) (hb:∀i b,blk i=some b->blk' i=some b) (h:evN tb ev blk base dst op K):evN tb ev' blk' base dst op K:=by
 cases op<;>simp only[evN] at h|- <;>first|exact h.no.elim|skip
 case alloc t=>exact h
 case box t x=>rw[<-I x (by simp[Op.operands])];exact h
 case makeSlice t l c=>rw[<-I l (by simp[Op.operands]),<-I c (by simp[Op.operands])];exact h
 case call c=>
  split at h
  ·split at h
   ·rename_i s x t t' G htys;have e1:ev s=ev' s:=I s (QgU (by rw[G];simp));have J:ev x=ev' x:=I x (QgU (by rw[G];simp));rw[e1,J] at h;split at h
    ·split at h
     ·split at h
      ·rename_i h1 h2;rw[h1,Qd5 hb h2];exact h
      ·exact h.no.elim
     ·exact h.no.elim
    ·exact h.no.elim
   ·exact h.no.elim
  ·exact h.no.elim
 case buildSlice t len parts=>
  have e:(parts.toList.map fun p=>(p.1,ev p.2))=(parts.toList.map fun p=>(p.1,ev' p.2)):=YK fun p hp=>by
   rw[I p.2 (by simpa[Op.operands] using ⟨p.1,by simpa using hp⟩)]
  rw[<-e];exact h
theorem Qs9 {dst:Option Nat} {op:Op} {K:Nat->V->Blk->Prop} (hm:∀t,dst=some t->S.mentions (St.idOf S.base t)=false) (h:evN tb (S.ev []) (Qi S.blks) S.base dst op K):
  evE tb dst op S (fun v S'=>∃i b,K i v b∧S'=⟨S.base,S.nt,S.tmps,S.gds,(i,b)::S.blks,S.frames⟩):=by
 have⟨base,nt,ts,gs,bs,fs⟩:=S
 cases op<;>simp only[evN,St.idK_eq,Za] at h<;>first|exact h.no.elim|skip
 all_goals simp only[evE,St.idK_eq,Za]
 all_goals dsimp only at hm
 case alloc t=>
  split at h
  ·rename_i ti d G J;simp only[G,J,hm d rfl];exact⟨_,_,h,rfl⟩
  ·exact h.no.elim
 case box t x=>
  split at h
  ·rename_i d a3 J;simp only[hm d rfl,a3,J,Y09,Bool.or_self];exact⟨_,_,h,rfl⟩
  ·exact h.no.elim
 case call c=>
  split at h
  case h_2=>exact h.no.elim
  rename_i a1;split at h
  case h_2=>exact h.no.elim
  rename_i s x t t' O Y;split at h
  case h_2=>exact h.no.elim
  rename_i e s1 s2 s3 s4 e' q1 q2 q3 q4 d G U;split at h
  case h_2=>exact h.no.elim
  rename_i kk sz byt zz qq a2;split at h
  case h_2=>exact h.no.elim
  rename_i m r' hs hx;have⟨hb,n1,I,g1,g2,g3⟩:=h;simp only[a1,O,Y,G,U,a2,hx];rw[hs];simp only[J6,hm d rfl];exact⟨hb,n1,I,g1,g2,_,_,g3,rfl⟩
 case makeSlice t l c=>
  split at h
  ·rename_i e s1 s2 s3 s4 d G;split at h
   ·rename_i h1 h2 h3;simp only[G,h1,h2,h3,hm d rfl];have⟨hc,n1,I,g1,g2,g3⟩:=h;exact⟨hc,n1,I,g1,g2,_,_,g3,rfl⟩
   ·exact h.no.elim
  ·exact h.no.elim
 case buildSlice t len parts=>
  split at h
  ·rename_i e s1 s2 s3 s4 d G;split at h
   ·rename_i h1;split at h
    ·rename_i h2 h3;split at h
     ·rename_i h4;simp only[G,h1,h2,h3,h4,hm d rfl];have⟨n1,I,g1,g2,g3⟩:=h;exact⟨n1,I,g1,g2,_,_,g3,rfl⟩
     ·exact h.no.elim
    ·exact h.no.elim
   ·exact h.no.elim
  ·exact h.no.elim
theorem Qu1 {cs:Nat->Option CS} {ops:List Oper} {j:Nat} {o:Oper} {K:Option (Nat×Bool)->V->List (Nat×Blk)->Prop} (h:Qmt P tb cs ops j o S K):
  ∃g v nb,K g v nb∧Qmt P tb cs ops j o S (fun Y v' O=>Y=g∧v'=v∧O=nb):=by
 have I:∀ {ev blk sc op} {K:V->Prop} {K':V->V->Prop},evP tb ev blk sc op K->(∀v,K' v v)->∃v,K v∧evP tb ev blk sc op (K' v):=by
  intro ev blk sc op K K' h U;have⟨v,h1,h2⟩:=Qw8 h;exact⟨v,h1,Qu0 h2 fun u hu=>by subst hu;exact U _⟩
 have⟨dst,op,ty,pos,after,guard⟩:=o
 cases guard with
 |none=>
  cases hv:Qwm op
  ·rw[Qe0 hv] at h;simp only[Qe0 hv]
   cases hN:isN op<;>simp only[hN] at h|-
   ·have⟨v,h1,h2⟩:=I (K':=fun v u=>(none:Option (Nat×Bool))=none∧u=v∧([]:List (Nat×Blk))=[]) h (fun v=>⟨rfl,rfl,rfl⟩);exact⟨_,_,_,h1,h2⟩
   ·have⟨i,v,b,h1,h2⟩:=QpX h;exact⟨_,_,_,h1,QuZ h2 fun i' v' b' ⟨e1,e2,e3⟩=>by subst e1 e2 e3;exact⟨rfl,rfl,rfl⟩⟩
  ·obtain⟨f,args,J,rfl⟩:=Qno hv;simp only[Qmt] at h|-;split at h
   ·rename_i h1 h2;rw[QC] at h;exact⟨_,_,_,h.2,h.1,by simp[QC]⟩
   ·rename_i h1 h2;rw[QC] at h;exact⟨_,_,_,h.2,h.1,by simp[QC]⟩
   ·exact h.no.elim
 |some gd=>
  have⟨jg,want⟩:=gd;simp only[Qmt] at h|-;split at h
  ·rename_i key _ _ _ _ _ hjg
   cases op<;>try simp only at h|-
   case call c=>
    have⟨G,args,J⟩:=c
    cases G<;>try simp only at h|-
    case value f=>
     split at h
     ·rename_i h1 h2;rw[QC] at h;exact⟨_,_,_,h.2,h.1,by simp[QC]⟩
     ·rename_i h1 h2;rw[QC] at h;exact⟨_,_,_,h.2,h.1,by simp[QC]⟩
     ·exact h.no.elim
    all_goals (have⟨v,h1,h2⟩:=I (K':=fun v u=>some (key,want)=some (key,want)∧u=v∧([]:List (Nat×Blk))=[]) h (fun v=>⟨rfl,rfl,rfl⟩);exact⟨_,_,_,h1,h2⟩)
   all_goals (have⟨v,h1,h2⟩:=I (K':=fun v u=>some (key,want)=some (key,want)∧u=v∧([]:List (Nat×Blk))=[]) h (fun v=>⟨rfl,rfl,rfl⟩);exact⟨_,_,_,h1,h2⟩)
  ·exact h.no.elim
theorem Qw9 {cs:Nat->Option CS} {ops:List Oper} {j:Nat} {o:Oper} {K:Option (Nat×Bool)->V->List (Nat×Blk)->Prop} (h:evD P tb cs ops j o S K):
  ∃g v nb,K g v nb∧evD P tb cs ops j o S (fun J v' G=>J=g∧v'=v∧G=nb):=by
 cases ha:Qgu (cs j)
 ·rw[Qoy ha] at h|-;exact Qu1 h
 ·have⟨pre,res,post,hc,I,h1,h2⟩:=Qnp ha h;refine⟨none,res,[],h2,?_⟩;unfold evD;rw[hc,I];simp only[QC];exact⟨h1,trivial,trivial,trivial⟩
end Go.Ab
namespace Go.Ab
open Go.RowKit
variable {P:Program} {tb:Tb} {w:World} {ρ:Env} {a:Act} {B:Bd} {w0:World} {F:List (Array Value)} {S:St}
theorem Qmx:∀(A:List (List Nat)) (j:Nat),nth A j=(A[j]?).getD []
 |[],j=>by simp[nth]
 |a::r,0=>by simp[nth]
 |a::r,j+1=>by simpa[nth] using Qmx r j
theorem Qim {A:List (List Nat)} {j i:Nat} (h:i<j):nth (A.take j) i=nth A i:=by
 rw[Qmx,Qmx,YQ,Y2 h]
theorem Qk6 {A:List (List Nat)} {i:Nat}:∀ {es:List Nat},i∈ancIn A es↔ ∃e∈es,i=e∨i∈nth A e
 |[]=>by simp[ancIn]
 |e::r=>by
  have I:=Qk6 (A:=A) (i:=i) (es:=r);simp only[ancIn,Yh,Yo,I]
  constructor
  ·rintro(h|h|⟨G,h1,h2⟩)
   ·exact⟨e,.inl rfl,.inl h⟩
   ·exact⟨e,.inl rfl,.inr h⟩
   ·exact⟨G,.inr h1,h2⟩
  ·rintro⟨G,h1|h1,h2⟩
   ·subst h1;rcases h2 with h2|h2
    ·exact .inl h2
    ·exact .inr (.inl h2)
   ·exact .inr (.inr ⟨G,h1,h2⟩)
theorem Qmy {j:Nat}:∀ {l:List Nat},QuY j l=true->∀i∈l,i<j
 |x::r,h,i,hi=>by
  simp only[QuY,Y4] at h;rcases Yh.1 hi with hi|hi
  ·subst hi;simpa[XQ] using h.1
  ·exact Qmy h.2 i hi
 |[],_,_,hi=>by simp at hi
theorem Qby:∀ {os:List Oper} {k:Nat},Qc3 k os=true->∀(i:Nat) (o:Oper),os[i]? =some o->∀e∈Zl o.after.toList,e<k+i
 |q::os,k,h,i,o,hi,e,he=>by
  simp only[Qc3,Y4] at h
  cases i with
  |zero=>simp at hi;subst hi;simpa using Qmy h.1 e he
  |succ i=>
   have:=Qby h.2 i o (by simpa using hi) e he;omega
 |[],_,_,_,_,hi,_,_=>by simp at hi
theorem Qar:∀ {es:List Edge} {i:Nat},i∈Zl es↔ ∃e∈es,Region.binds .any e=true∧e.on=i
 |[],i=>by simp[Zl]
 |e::r,i=>by
  have I:=Qar (es:=r) (i:=i);simp only[Zl];split
  ·rename_i hb;simp only[Yh,I]
   constructor
   ·rintro(h|⟨G,h1,h2⟩)
    ·exact⟨e,.inl rfl,hb,h.symm⟩
    ·exact⟨G,.inr h1,h2⟩
   ·rintro⟨G,h1|h1,h2⟩
    ·subst h1;exact .inl h2.2.symm
    ·exact .inr ⟨G,h1,h2⟩
  ·rename_i hb;simp only[Yh,I]
   constructor
   ·rintro⟨G,h1,h2⟩;exact⟨G,.inr h1,h2⟩
   ·rintro⟨G,h1|h1,h2⟩
    ·subst h1;rw[hb] at h2;cases h2.1
    ·exact⟨G,h1,h2⟩
def QzS (P:Program) (tb:Tb) (cs:Nat->Option CS) (ops:List Oper) (dsts:List (Option Nat)) (S0:St) (A:List (List Nat)) (R:List Rs) (j:Nat) (o:Oper):Prop:=
 ∃r,R[j]? =some r∧nth A j=Qcd (A.take j) o∧r.dst=o.dst∧(∀x∈o.op.operands.toList,Qik dsts (nth A j) x=true)∧
  (∀jg want,o.guard=some (jg,want)->∃G key,ops[jg]? =some G∧G.dst=some key∧jg∈nth A j∧okT (nth A j) key 0 dsts=true)∧
  evD P tb cs ops j o (stOf S0 (R.take j) (ZZ (nth A j))) (fun g v nb=>g=r.g∧v=r.v∧nb=r.nb)
theorem Qk7 {cs:Nat->Option CS} {ops:List Oper} {dsts:List (Option Nat)} {S0:St}:∀(rest:List Oper) (j:Nat) (A:List (List Nat)) (R:List Rs) (K:List (List Nat)->List Rs->Prop),A.length=j->R.length=j->
  evM P tb cs ops dsts S0 rest j A R K->∃I G,I.length=j+rest.length∧G.length=j+rest.length∧I.take j=A∧G.take j=R∧K I G∧∀(i:Nat) (o:Oper),rest[i]? =some o->QzS P tb cs ops dsts S0 I G (j+i) o
 |[],j,A,R,K,hA,hR,h=>⟨A,R,by simpa using hA,by simpa using hR,by rw[<-hA];simp,by rw[<-hR];simp,h,fun i o hi=>by simp at hi⟩
 |o::rest,j,A,R,K,hA,hR,h=>by
  simp only[evM,Qmu,QfS] at h;split at h
  case h_2=>exact h.no.elim
  rename_i h1 h2;have⟨g,v,nb,h3,h4⟩:=Qw9 h;rw[Qkj] at h3;have⟨I,G,e1,e2,e3,e4,e5,e6⟩:=Qk7 rest (j+1) (A++[Qcd A o]) (R++[⟨o.dst,g,v,nb⟩]) K (by simp[hA]) (by simp[hR]) h3;have U:I.take j=A:=by
   have:(I.take (j+1)).take j=A:=by rw[e3,<-hA];simp
   rwa[Y00,Xh (by omega)] at this
  have O:G.take j=R:=by
   have:(G.take (j+1)).take j=R:=by rw[e4,<-hR];simp
   rwa[Y00,Xh (by omega)] at this
  have J:nth I j=Qcd A o:=by
   rw[<-Qim (A:=I) (j:=j+1) (by omega),e3,Qmx,<-hA];simp
  have a1:G[j]? =some ⟨o.dst,g,v,nb⟩:=by
   have:(G.take (j+1))[j]? =some ⟨o.dst,g,v,nb⟩:=by rw[e4,<-hR];simp
   rwa[YQ,Y2 (by omega)] at this
  refine⟨I,G,by rw[e1];simp;omega,by rw[e2];simp;omega,U,O,e5,fun i o' hi=>?_⟩
  cases i with
  |succ i=>rw[show j+(i+1)=j+1+i by omega];exact e6 i o' (by simpa using hi)
  |zero=>
   simp at hi;subst hi;refine⟨⟨o.dst,g,v,nb⟩,a1,by rw[X0,U];exact J,rfl,fun x hx=>?_,fun jg want hg=>?_,?_⟩
   ·rw[X0,J];exact Yb.1 h1 x hx
   ·rw[X0,J];rw[hg] at h2;dsimp only at h2;split at h2
    ·rename_i key q1 q2 q3 q4 q5 Y;simp only[Y4] at h2;exact⟨_,key,Y,rfl,ZO.1 h2.1,h2.2⟩
    ·cases h2
   ·rw[X0,J,O];exact h4
structure Walked (P:Program) (tb:Tb) (cs:Nat→Option CS) (m:Nat) (ops:List Oper) (S0:St) (A:List (List Nat)) (R:List Rs):Prop where
 hm:R.length=m
 facts:∀(j:Nat) (o:Oper),j<m→ops[j]? =some o→QzS P tb cs ops ((ops.take m).map (·.dst)) S0 A R j o
 lt:∀(j:Nat) (o:Oper),ops[j]? =some o→∀e∈Zl o.after.toList,e<j
 dsts:R.map (·.dst)=(ops.take m).map (·.dst)
 ne:∀(i j:Nat) (ri rj:Rs),R[i]? =some ri→R[j]? =some rj→i≠j→∀t,ri.dst=some t→rj.dst≠some t
 ids:(JN (fun _=>true) 0 R).Pairwise fun x y=>x.1≠y.1
 new:∀(i:Nat) (ri:Rs),R[i]? =some ri→∀p∈ri.nb,S0.mentions p.1=false
 ment:∀(i j:Nat) (ri rj:Rs),R[i]? =some ri→R[j]? =some rj→i≠j→j∉nth A i→∀p∈rj.nb,ri.v.mentions p.1=false∧∀q∈ri.nb,q.2.mentions p.1=false
 slots:∀(i:Nat) (ri:Rs),R[i]? =some ri→(ri.dst=none∧ri.nb=[])∨ ∃t,ri.dst=some t∧t<S0.nt∧∀k b,ri.g=some (k,b)→k≠t
 mask:∀(i:Nat) (ri:Rs) (t:Nat),R[i]? =some ri→ri.dst=some t→Qi S0.tmps t=none
 len:m≤ops.length
theorem QgV {ds:List (Option Nat)} {t:Nat} (ht:some t∈ds):∀(ts:List (Nat×V)),Qi (Qnn ds ts) t=none
 |[]=>rfl
 |(u,v)::r=>by
  simp only[Qnn];split
  ·exact QgV ht r
  ·rename_i G;rw[QQ fun e=>?_]
   ·exact QgV ht r
   ·subst e;rw[XP] at G;have:=G _ ht;simp at this
theorem QoA {cs:Nat->Option CS} {m:Nat} {ops:List Oper} {S:St} {A:List (List Nat)} {R:List Rs} (U:R.length=(ops.take m).length) (a3:m<=ops.length)
  (hf:∀(i:Nat) (o:Oper),(ops.take m)[i]? =some o->QzS P tb cs ops ((ops.take m).map (·.dst)) (QpW ((ops.take m).map (·.dst)) S) A R (0+i) o) (he:Qc3 0 ops=true) (hc:Qhf (QpW ((ops.take m).map (·.dst)) S) A R=true):
  Walked P tb cs m ops (QpW ((ops.take m).map (·.dst)) S) A R:=by
 simp only[Qhf,Y4] at hc;have⟨c1,c2,c3,c4,c5⟩:=hc;have I:R.length=m:=by rw[U];simp;omega
 have G:R.map (·.dst)=(ops.take m).map (·.dst):=by
  apply Y0d
  intro i;simp only[Yz]
  cases ho:(ops.take m)[i]? with
  |none=>
   have:R[i]? =none:=by
    rw[List.getElem?_eq_none_iff] at ho|-;omega
   simp[this]
  |some o=>
   have⟨r,h1,_,h3,_⟩:=hf i o ho;rw[Yg] at h1;simp[h1,h3]
 refine⟨I,fun j o hj ho=>?_,fun j o ho e a1=>?_,G,fun i j ri rj hi hj J t ht Y=>?_,?_,fun i ri hi p hp=>?_,fun i j ri rj hi hj J O p hp=>?_,fun i ri hi=>?_,fun i ri t hi ht=>?_,a3⟩
 ·have:=hf j o (by rw[YQ,Y2 hj];exact ho);rwa[Yg] at this
 ·have:=Qby he j o ho e a1;omega
 ·have:=QaA (QaA c1 i ri hi) j rj hj;rw[Yg,Yg] at this;simp only[YJ] at this;rcases this with h|h
  ·exact J (Y5 h)
  ·rw[ht,Y] at h;simp[QuX] at h
 ·have:=Qk5 c2;rw[X5] at this;exact this
 ·have:=QaA c3 i ri hi;have:=Yb.1 this p hp;simpa using this
 ·have:=QaA (QaA c4 i ri hi) j rj hj;rw[Yg,Yg] at this;simp only[YJ] at this;rcases this with h|h|h
  ·exact absurd (Y5 h) J
  ·exact absurd (ZO.1 h) O
  ·have:=Yb.1 h p hp;simp only[Y4,YF] at this;refine⟨this.1,fun q hq=>?_⟩;have:=Yb.1 this.2 q hq;simpa using this
 ·have:=QaA c5 i ri hi;split at this
  ·rename_i t ht;simp only[Y4] at this;refine .inr ⟨t,ht,by simpa[XQ] using this.1,fun k b hg e=>?_⟩;rw[hg] at this;subst e;simp at this
  ·rename_i ht;split at this
   ·rename_i a2;exact .inl ⟨ht,a2⟩
   ·cases this
 ·have:some t∈(ops.take m).map (·.dst):=by
   rw[<-G,<-ht];exact YI.2 ⟨ri,X1 hi,rfl⟩
  have⟨base,nt,ts,gs,bs,fs⟩:=S;exact QgV this ts
end Go.Ab
namespace Go.Ab
open Go.RowKit
variable {P:Program} {tb:Tb} {w:World} {ρ:Env} {a:Act} {B:Bd} {w0:World} {F:List (Array Value)}
 {cs:Nat→Option CS} {m:Nat} {ops:List Oper} {S0:St} {A:List (List Nat)} {R:List Rs}
theorem QqO {anc:List Nat} {t:Nat}:∀ {ds:List (Option Nat)} {i0:Nat},okT anc t i0 ds=true->∀i,ds[i]? =some (some t)->i0+i∈anc
 |d::r,i0,h,i,hi=>by
  simp only[okT] at h
  cases i with
  |zero=>
   simp at hi;subst hi;split at h
   ·cases h
   ·rename_i G
    cases hm:ZZ anc i0
    ·exact absurd hm (G (by simp))
    ·simpa using ZO.1 hm
  |succ i=>
   rw[show i0+(i+1)=i0+1+i by omega];split at h
   ·cases h
   ·exact QqO h i (by simpa using hi)
 |[],_,_,_,hi=>by simp at hi
theorem Walked.anc (W:Walked P tb cs m ops S0 A R) {j:Nat} {o:Oper} (hj:j<m) (ho:ops[j]? =some o) {i:Nat}:i∈nth A j↔ ∃e∈Zl o.after.toList,i=e∨i∈nth A e:=by
 have⟨r,h1,h2,_⟩:=W.facts j o hj ho;rw[h2,Qcd,Qk6]
 constructor
 ·rintro⟨e,G,h⟩;rw[Qim (W.lt j o ho e G)] at h;exact⟨e,G,h⟩
 ·rintro⟨e,G,h⟩;refine⟨e,G,?_⟩;rw[Qim (W.lt j o ho e G)];exact h
theorem Walked.op (W:Walked P tb cs m ops S0 A R) {j:Nat} (hj:j<m):∃o,ops[j]? =some o:=⟨_,Y7 (YH hj W.len)⟩
theorem Walked.ancLt (W:Walked P tb cs m ops S0 A R):∀(n j:Nat),j<n->j<m->∀i∈nth A j,i<j
 |0,j,hn,_,_,_=>by omega
 |n+1,j,hn,hj,i,hi=>by
  have⟨o,ho⟩:=W.op hj;have⟨e,G,h⟩:=(W.anc hj ho).1 hi;have hlt:=W.lt j o ho e G;rcases h with h|h
  ·omega
  ·have:=W.ancLt n e (by omega) (by omega) i h;omega
def Qgw (m:Nat) (A:List (List Nat)) (E:Nat->Bool):Prop:=∀i,i<m->E i=true->∀k∈nth A i,E k=true
theorem Walked.ancIn (W:Walked P tb cs m ops S0 A R) {E:Nat->Bool} (hE:Qgw m A E) {j:Nat} {o:Oper} (hj:j<m) (ho:ops[j]? =some o) (I:∀e∈Zl o.after.toList,E e=true):∀i∈nth A j,E i=true:=by
 intro i hi;have⟨e,G,h⟩:=(W.anc hj ho).1 hi;rcases h with h|h
 ·subst h;exact I _ G
 ·exact hE e (by have:=W.lt j o ho e G;omega) (I e G) i h
theorem pw_of (W:Walked P tb cs m ops S0 A R) (G:List Rs) (h:∀(i:Nat) (r:Rs),G[i]? =some r->R[i]? =some r):G.Pairwise (fun x y=>∀t,x.dst=some t->y.dst≠some t):=by
 rw[X8];intro i j hi hj hij t h1 h2;have e1:=h i _ (Y7 hi);have I:=h j _ (Y7 hj);exact W.ne i j _ _ e1 I (by omega) t h1 h2
theorem Qd6 {j i:Nat} {r:Rs} (h:(R.take j)[i]? =some r):i<j∧R[i]? =some r:=by
 rw[YQ] at h;split at h
 ·rename_i G;exact⟨G,h⟩
 ·cases h
theorem Qu2 (W:Walked P tb cs m ops S0 A R) {E:Nat->Bool} {j t:Nat} {anc:List Nat} (a3:∀i∈anc,i<j) (hE:∀i∈anc,E i=true) (a4:okT anc t 0 ((ops.take m).map (·.dst))=true) (ts:List (Nat×V)):
  Qi (QdE E 0 R++ts) t=Qi (QdE (ZZ anc) 0 (R.take j)++ts) t∧Qht (QdO E 0 R) t=Qht (QdO (ZZ anc) 0 (R.take j)) t:=by
 have pw:=pw_of W R fun _ _ h=>h;have a6:=pw_of W (R.take j) fun _ _ h=>(Qd6 h).2;have a7:∀(i:Nat) (r:Rs),R[i]? =some r->r.dst=some t->i∈anc:=fun i r hi hd=>by
  have:((ops.take m).map (·.dst))[i]? =some (some t):=by rw[<-W.dsts,Yz,hi];simp[hd]
  simpa using QqO a4 i this
 have a2:∀(i:Nat) (r:Rs) (i':Nat) (r':Rs),R[i]? =some r->R[i']? =some r'->r.dst=some t->r'.dst=some t->i=i':=fun i r i' r' h1 h2 h3 h4=>by
  rcases Nat.lt_trichotomy i i' with h|h|h
  ·exact absurd h4 (W.ne i i' r r' h1 h2 (by omega) t h3)
  ·exact h
  ·exact absurd h4 (W.ne i i' r r' h1 h2 (by omega) t h3)
 by_cases a1:∃(i:Nat) (r:Rs),R[i]? =some r∧r.dst=some t
 ·have⟨i,r,hi,hd⟩:=a1;have J:=a7 i r hi hd;have a5:=a3 i J;have O:(R.take j)[i]? =some r:=by rw[YQ,Y2 a5];exact hi
  refine⟨?_,?_⟩
  ·rw[Qh,Qh,QhD pw hi (by simpa using hE i J) hd,QhD a6 O (by simpa using ZO.2 J) hd]
  ·have side:∀(E':Nat->Bool) (I:List Rs),(∀(i:Nat) (r:Rs),I[i]? =some r->R[i]? =some r)->I[i]? =some r->E' i=true->Qht (QdO E' 0 I) t=r.g.map fun p=>⟨t,p.1,p.2,r.v⟩:=by
    intro E' I G O a8
    cases hl:Qht (QdO E' 0 I) t with
    |none=>
     cases hg:r.g with
     |none=>rfl
     |some p=>
      have:(⟨t,p.1,p.2,r.v⟩:Gd)∈QdO E' 0 I:=QaR.2 ⟨i,r,O,by simpa using a8,hd,hg,rfl⟩;exact absurd rfl (Qmv hl _ this)
    |some g=>
     have⟨hm,ht⟩:=Qel hl;have⟨i2,r2,h1,h2,h3,h4,h5⟩:=QaR.1 hm;rw[ht] at h3;have e:=a2 i r i2 r2 hi (G _ _ h1) hd h3;subst e;rw[O] at h1;cases h1;rw[h4]
     cases g;simp at h5 ht|-;exact⟨ht,h5⟩
   rw[side E R (fun _ _ h=>h) hi (hE i J),side (ZZ anc) (R.take j) (fun _ _ h=>(Qd6 h).2) O (ZO.2 J)]
 ·have U:∀(E':Nat->Bool) (I:List Rs),(∀(i:Nat) (r:Rs),I[i]? =some r->R[i]? =some r)->Qi (QdE E' 0 I) t=none:=by
   intro E' I G
   cases hl:Qi (QdE E' 0 I) t with
   |none=>rfl
   |some v=>have⟨i,r,h1,_,h3,_⟩:=QeD hl;exact absurd ⟨i,r,G _ _ h1,h3⟩ a1
  have Y:∀(E':Nat->Bool) (I:List Rs),(∀(i:Nat) (r:Rs),I[i]? =some r->R[i]? =some r)->Qht (QdO E' 0 I) t=none:=by
   intro E' I G
   cases hl:Qht (QdO E' 0 I) t with
   |none=>rfl
   |some g=>
    have⟨hm,ht⟩:=Qel hl;have⟨i,r,h1,_,h3,_⟩:=QaR.1 hm;rw[ht] at h3;exact absurd ⟨i,r,G _ _ h1,h3⟩ a1
  refine⟨?_,?_⟩
  ·rw[Qh,Qh,U E R fun _ _ h=>h,U (ZZ anc) (R.take j) fun _ _ h=>(Qd6 h).2]
  ·rw[Y E R fun _ _ h=>h,Y (ZZ anc) (R.take j) fun _ _ h=>(Qd6 h).2]
theorem Qta (W:Walked P tb cs m ops S0 A R) {E:Nat->Bool} {j:Nat} {anc:List Nat} (G:∀i∈anc,i<j) (hE:∀i∈anc,E i=true) {x:Operand} (I:Qik ((ops.take m).map (·.dst)) anc x=true) (al:List (Nat×Bool)):
  (stOf S0 (R.take j) (ZZ anc)).ev al x=(stOf S0 R E).ev al x:=by
 have⟨base,nt,ts,gs,bs,fs⟩:=S0
 cases x with
 |tmp t=>
  have⟨h1,h2⟩:=Qu2 W G hE I ts;simp only[stOf,St.ev,Qwj];rw[h1,h2]
 |_=>rfl
theorem Qtb (W:Walked P tb cs m ops S0 A R) {E:Nat->Bool} {j:Nat} {anc:List Nat} (hE:∀i∈anc,E i=true) {id:Nat} {b:Blk} (h:Qi (stOf S0 (R.take j) (ZZ anc)).blks id=some b):Qi (stOf S0 R E).blks id=some b:=by
 have W':=W;have⟨base,nt,ts,gs,bs,fs⟩:=S0;simp only[stOf] at h|-;rw[Qh] at h|-;have sub:∀(E':Nat->Bool) (p:Nat×Blk),p∈JN E' 0 R->p∈JN (fun _=>true) 0 R:=fun E' p hp=>by
  have⟨i,r,h1,_,h3⟩:=JB.1 hp;exact JB.2 ⟨i,r,h1,rfl,h3⟩
 have U:(JN E 0 R).Pairwise fun x y=>x.1≠y.1:=by
  have:∀(E':Nat->Bool) (i0:Nat) (G:List Rs),(JN E' i0 G).Sublist (JN (fun _=>true) i0 G):=by
   intro E' i0 G
   induction G generalizing i0 with
   |nil=>exact Y0e _
   |cons r G ih=>
    simp only[JN];split
    ·exact(Y0e _).append (ih _)
    ·exact(ih _).trans (List.sublist_append_right _ _)
  exact W.ids.sublist (this E 0 R)
 cases h1:Qi (JN (ZZ anc) 0 (R.take j)) id with
 |some b'=>
  rw[h1] at h;simp at h;subst h;have⟨i,r,O,Y,J⟩:=JB.1 (QeE h1);rw[Yg] at Y;have:(id,b')∈JN E 0 R:=JB.2 ⟨i,r,(Qd6 O).2,by rw[Yg];exact hE i (ZO.1 Y),J⟩;rw[Qce U this];rfl
 |none=>
  rw[h1] at h;simp at h
  cases h2:Qi (JN E 0 R) id with
  |none=>simpa using h
  |some b'=>
   have⟨i,r,O,_,J⟩:=JB.1 (QeE h2);have I:=W.new i r O _ J;have⟨_,_,m3,_⟩:=St.mentions_parts I;have:=ZW (id:=id) h (.inl rfl);dsimp only at m3;rw[m3] at this;cases this
def QfT (E:Nat->Bool) (j:Nat):Nat->Bool:=fun i=>E i||Nat.beq i j
theorem QaS {E:Nat->Bool} {j i:Nat}:QfT E j i=true↔E i=true∨i=j:=by
 simp only[QfT,YJ];exact or_congr Iff.rfl ⟨Y5,fun h=>by subst h;simp⟩
theorem Qmz {E:Nat->Bool} (hE:Qgw m A E) {j:Nat} (ha:∀i∈nth A j,E i=true):Qgw m A (QfT E j):=by
 intro i hi G k hk;rcases QaS.1 G with h|h
 ·exact QaS.2 (.inl (hE i hi h k hk))
 ·subst h;exact QaS.2 (.inl (ha k hk))
theorem QhE (W:Walked P tb cs m ops S0 A R) {E:Nat->Bool} {j t:Nat} {r:Rs} (U:R[j]? =some r) (hd:r.dst=some t) (hj:E j=false) {x:Value}
  (h:Sim P B w0 F ρ ⟨S0.base,S0.nt,QdE E 0 R++S0.tmps,QdO E 0 R,r.nb++(JN E 0 R++S0.blks),S0.frames⟩ a w)
  (hv:match r.g with
   |none=>VR w (ZL B (r.nb++(JN E 0 R++S0.blks)) ρ) ρ r.v x
   |some (key,want)=>(a.tmps.getD key undef=.bool want∧VR w (ZL B (r.nb++(JN E 0 R++S0.blks)) ρ) ρ r.v x)∨(a.tmps.getD key undef≠ .bool want∧x=undef))
  (Y:∀g∈QdO E 0 R,g.t≠t∧g.key≠t):Sim P B w0 F ρ (stOf S0 R (QfT E j)) (a.put (some t) x) w:=by
 have hS:stOf S0 R (QfT E j)=⟨S0.base,S0.nt,QdE (QfT E j) 0 R++S0.tmps,QdO (QfT E j) 0 R,JN (QfT E j) 0 R++S0.blks,S0.frames⟩:=by
  have⟨base,nt,ts,gs,bs,fs⟩:=S0;rfl
 rw[hS];have⟨t',a5,a4,a7⟩:=(W.slots j r U).resolve_left (fun h=>by rw[hd] at h;cases h.1);rw[hd] at a5;cases a5;have h1:Sim P B w0 F ρ ⟨S0.base,S0.nt,(t,r.shown)::(QdE E 0 R++S0.tmps),(match r.g with|some (key,want)=>[⟨t,key,want,r.v⟩]|none=>[])++QdO E 0 R,r.nb++(JN E 0 R++S0.blks),S0.frames⟩ (a.put (some t) x) w:=by
  cases hg:r.g with
  |none=>
   rw[hg] at hv;simp only[Rs.shown,hg,YA];exact QpR h hv Y a4
  |some p=>
   have⟨key,want⟩:=p;rw[hg] at hv;simp only[Rs.shown,hg,List.singleton_append];exact QqI h hv Y (a7 key want hg) a4
 have pw:=pw_of W R fun _ _ h=>h;refine h1.congr (fun u v O=>?_) (fun g hg=>?_) (fun id b=>?_)
 ·rw[Qh] at O
  cases hl:Qi (QdE (QfT E j) 0 R) u with
  |some v'=>
   rw[hl] at O;simp at O;subst O;have⟨i,q,G,J,I,g4⟩:=QeD hl;rw[Yg] at J;rcases QaS.1 J with h2|h2
   ·have a1:t≠u:=fun e=>by
     subst e;have:i≠j:=fun e=>by subst e;rw[hj] at h2;cases h2
     exact W.ne j i r q U G (YU this) t hd I
    rw[QQ a1,Qh,QhD pw G (by simpa using h2) I,g4];rfl
   ·subst h2;rw[U] at G;cases G;rw[hd] at I;cases I;rw[Zk,g4]
  |none=>
   rw[hl] at O;simp at O;have a1:t≠u:=fun e=>by
    subst e;have:=W.mask j r t U hd;rw[this] at O;cases O
   rw[QQ a1,Qh]
   cases a9:Qi (QdE E 0 R) u with
   |none=>simpa using O
   |some v'=>
    have⟨i,q,G,J,I,g4⟩:=QeD a9;rw[Yg] at J;have:=QhD pw G (E:=QfT E j) (i0:=0) (by rw[Yg];exact QaS.2 (.inl J)) I;rw[hl] at this;cases this
 ·have⟨i,q,G,J,I,g4,g5⟩:=QaR.1 hg;rw[Yg] at J;rcases QaS.1 J with h2|h2
  ·exact XX _ (QaR.2 ⟨i,q,G,by simpa using h2,I,g4,g5⟩)
  ·subst h2;rw[U] at G;cases G;refine Y03 _ ?_;rw[g4];rw[hd] at I
   cases g;simp at I g5|-;exact⟨I.symm,g5⟩
 ·have sub:∀(E':Nat->Bool) (i0:Nat) (R':List Rs),(JN E' i0 R').Sublist (JN (fun _=>true) i0 R'):=by
   intro E' i0 R'
   induction R' generalizing i0 with
   |nil=>exact Y0e _
   |cons r R' ih=>
    simp only[JN];split
    ·exact(Y0e _).append (ih _)
    ·exact(ih _).trans (List.sublist_append_right _ _)
  have a6:(JN (QfT E j) 0 R).Pairwise fun x y=>x.1≠y.1:=W.ids.sublist (sub _ 0 R);have a8:(JN E 0 R).Pairwise fun x y=>x.1≠y.1:=W.ids.sublist (sub _ 0 R);have same:∀(i:Nat) (q:Rs) (p p':Nat×Blk),R[i]? =some q->p∈q.nb->(p'∈JN (fun _=>true) 0 R)->p.1=p'.1->p=p':=by
   intro i q p p' G J I e;have g4:p∈JN (fun _=>true) 0 R:=JB.2 ⟨i,q,G,rfl,J⟩;have l1:=Qce W.ids (t:=p.1) (v:=p.2) (by simpa using g4);have l2:=Qce W.ids (t:=p'.1) (v:=p'.2) (by simpa using I);rw[e,l2] at l1
   cases p;cases p';simp at e l1|-;exact⟨e,l1.symm⟩
  have a3:∀E' (p:Nat×Blk),p∈JN E' 0 R->p∈JN (fun _=>true) 0 R:=fun E' p hp=>(sub E' 0 R).subset hp;have fresh:∀(p:Nat×Blk),p∈JN (fun _=>true) 0 R->∀b,Qi S0.blks p.1=some b->False:=fun p hp b hb=>by
   have⟨i,q,G,_,I⟩:=JB.1 hp;have⟨_,_,m3,_⟩:=St.mentions_parts (W.new i q G _ I);have:=ZW (id:=p.1) hb (.inl rfl);rw[m3] at this;cases this
  rw[Qh,Qh,Qh];have key:∀b,Qi (JN (QfT E j) 0 R) id=some b↔(Qi r.nb id=some b∨(Qi r.nb id=none∧Qi (JN E 0 R) id=some b)):=by
   intro b
   constructor
   ·intro hl;have hm:=QeE hl;have⟨i,q,G,J,I⟩:=JB.1 hm;rw[Yg] at J;have a2:(id,b)∈r.nb∨(id,b)∈JN E 0 R:=by
     rcases QaS.1 J with h2|h2
     ·exact .inr (JB.2 ⟨i,q,G,by simpa using h2,I⟩)
     ·subst h2;rw[U] at G;cases G;exact .inl I
    cases hn:Qi r.nb id with
    |some b'=>
     have:=same j r (id,b') (id,b) U (QeE hn) (a3 _ _ hm) rfl
     cases this;exact .inl rfl
    |none=>
     rcases a2 with h2|h2
     ·exfalso;have:∀(l:List (Nat×Blk)),(id,b)∈l->Qi l id≠none:=by
       intro l
       induction l with
       |nil=>intro h;simp at h
       |cons p l ih=>
        intro h hl;simp only[Qi] at hl;split at hl
        ·cases hl
        ·rename_i hb;rcases Yh.1 h with h|h
         ·subst h;simp at hb
         ·exact ih h hl
      exact this _ h2 hn
     ·exact .inr ⟨rfl,Qce a8 h2⟩
   ·rintro(h2|⟨_,h2⟩)
    ·exact Qce a6 (JB.2 ⟨j,r,U,by rw[Yg];exact QaS.2 (.inr rfl),QeE h2⟩)
    ·have⟨i,q,G,J,I⟩:=JB.1 (QeE h2);rw[Yg] at J;exact Qce a6 (JB.2 ⟨i,q,G,by rw[Yg];exact QaS.2 (.inl J),I⟩)
  cases hA:Qi (JN (QfT E j) 0 R) id with
  |some b'=>
   rcases(key b').1 hA with h2|⟨h2,h3⟩
   ·simp[h2]
   ·simp[h2,h3]
  |none=>
   have n1:Qi r.nb id=none:=by
    cases hn:Qi r.nb id with
    |none=>rfl
    |some b'=>have:=(key b').2 (.inl hn);rw[hA] at this;cases this
   have n2:Qi (JN E 0 R) id=none:=by
    cases hn:Qi (JN E 0 R) id with
    |none=>rfl
    |some b'=>have:=(key b').2 (.inr ⟨n1,hn⟩);rw[hA] at this;cases this
   simp[n1,n2]
theorem Qtc {E:Nat->Bool} {j:Nat} {r:Rs} (Y:R[j]? =some r) (hd:r.dst=none) (U:r.nb=[]):stOf S0 R (QfT E j)=stOf S0 R E:=by
 have key:∀(G:List Rs) (i0:Nat),(∀i q,G[i]? =some q->i0+i=j->q.dst=none∧q.nb=[])->QdE (QfT E j) i0 G=QdE E i0 G∧QdO (QfT E j) i0 G=QdO E i0 G∧JN (QfT E j) i0 G=JN E i0 G:=by
  intro G
  induction G with
  |nil=>intro i0 _;exact⟨rfl,rfl,rfl⟩
  |cons q G ih=>
   intro i0 h;have⟨J,O,I⟩:=ih (i0+1) fun i q hi e=>h (i+1) q (by simpa using hi) (by omega)
   by_cases e:i0=j
   ·have⟨h1,h2⟩:=h 0 q rfl e;simp only[QdE,QdO,JN,h1,h2,J,O,I,YA];refine⟨?_,?_,?_⟩
    ·cases QfT E j i0<;>cases E i0<;>rfl
    ·cases QfT E j i0<;>cases E i0<;>rfl
    ·cases QfT E j i0<;>cases E i0<;>rfl
   ·have:QfT E j i0=E i0:=by
     cases hb:E i0
     ·cases hc:QfT E j i0
      ·rfl
      ·rcases QaS.1 hc with h|h
       ·rw[hb] at h;cases h
       ·exact absurd h e
     ·exact QaS.2 (.inl hb)
    simp only[QdE,QdO,JN,this,J,O,I,and_self]
 have⟨h1,h2,h3⟩:=key R 0 fun i q hi e=>by
  have:i=j:=by omega
  subst this;rw[Y] at hi;cases hi;exact⟨hd,U⟩
 have⟨base,nt,ts,gs,bs,fs⟩:=S0;simp only[stOf,h1,h2,h3]
end Go.Ab
namespace Go.Ab
open Go.RowKit
variable {P:Program} {tb:Tb} {w:World} {ρ:Env} {a:Act} {B:Bd} {w0:World} {F:List (Array Value)}
 {cs:Nat→Option CS} {m:Nat} {ops:List Oper} {S0:St} {A:List (List Nat)} {R:List Rs}
theorem QoB {ops:List Oper} {j:Nat} {o:Oper} {S:St} {K:Option (Nat×Bool)->V->List (Nat×Blk)->Prop} (h:Qmt P tb cs ops j o S K):
  ∃g v nb,K g v nb∧((o.guard=none∧g=none)∨ ∃jg want O key,o.guard=some (jg,want)∧ops[jg]? =some O∧O.dst=some key∧g=some (key,want)):=by
 have⟨dst,op,ty,pos,after,guard⟩:=o
 cases guard with
 |none=>
  refine(?_:∃g v nb,K g v nb∧g=none).elim fun g ⟨v,nb,h1,h2⟩=>⟨g,v,nb,h1,.inl ⟨rfl,h2⟩⟩
  cases hv:Qwm op
  ·rw[Qe0 hv] at h
   cases U:isN op<;>simp only[U] at h
   ·have⟨v,h1⟩:=QgR h;exact⟨_,_,_,h1,rfl⟩
   ·have⟨i,v,b,h1,h2⟩:=QpX h;exact⟨_,_,_,h1,rfl⟩
  ·obtain⟨f,args,I,rfl⟩:=Qno hv;simp only[Qmt] at h;split at h
   ·rw[QC] at h;exact⟨_,_,_,h.2,rfl⟩
   ·rw[QC] at h;exact⟨_,_,_,h.2,rfl⟩
   ·exact h.no.elim
 |some gd=>
  have⟨jg,want⟩:=gd;simp only[Qmt] at h;split at h
  ·rename_i key _ _ _ _ _ J;refine(?_:∃g v nb,K g v nb∧g=some (key,want)).elim fun g ⟨v,nb,h1,h2⟩=>⟨g,v,nb,h1,.inr ⟨jg,want,_,key,rfl,J,rfl,h2⟩⟩
   cases op<;>try simp only at h
   case call c=>
    have⟨G,args,I⟩:=c
    cases G<;>try simp only at h
    case value f=>
     split at h
     ·rw[QC] at h;exact⟨_,_,_,h.2,rfl⟩
     ·rw[QC] at h;exact⟨_,_,_,h.2,rfl⟩
     ·exact h.no.elim
    all_goals (have⟨v,h1⟩:=QgR h;exact⟨_,_,_,h1,rfl⟩)
   all_goals (have⟨v,h1⟩:=QgR h;exact⟨_,_,_,h1,rfl⟩)
  ·exact h.no.elim
theorem Qnq {ops:List Oper} {j:Nat} {o:Oper} {S:St} {K:Option (Nat×Bool)->V->List (Nat×Blk)->Prop} (h:evD P tb cs ops j o S K):
  ∃g v nb,K g v nb∧((o.guard=none∧g=none)∨ ∃jg want G key,o.guard=some (jg,want)∧ops[jg]? =some G∧G.dst=some key∧g=some (key,want)):=by
 cases ha:Qgu (cs j)
 ·rw[Qoy ha] at h;exact QoB h
 ·have⟨pre,res,post,hc,I,h1,h2⟩:=Qnp ha h;exact⟨none,res,[],h2,.inl ⟨I,rfl⟩⟩
theorem Qwn {ev:Operand->V} {blk:Nat->Option Blk} {base t:Nat} {op:Op} {K:Nat->V->Blk->Prop} (h:evN tb ev blk base (some t) op K):evN tb ev blk base (some t) op (fun i v b=>i=St.idOf base t∧K i v b):=by
 cases op<;>simp only[evN,Za,St.idK_eq] at h|- <;>first|exact h.no.elim|skip
 case makeSlice t l c=>
  split at h
  ·split at h
   ·rename_i hd;rename_i h1;have⟨hc,I,G,h1,h2,h3⟩:=h;exact⟨hc,I,G,h1,h2,by simp_all,h3⟩
   ·exact h.no.elim
  ·exact h.no.elim
 case call c=>
  split at h
  ·split at h
   ·split at h
    ·rename_i hd1 hd2;split at h
     ·split at h
      ·have⟨hb,I,G,h1,h2,h3⟩:=h;exact⟨hb,I,G,h1,h2,by simp_all,h3⟩
      ·exact h.no.elim
     ·exact h.no.elim
    ·exact h.no.elim
   ·exact h.no.elim
  ·exact h.no.elim
 case buildSlice t len parts=>
  split at h
  ·split at h
   ·split at h
    ·split at h
     ·have⟨I,G,h1,h2,h3⟩:=h;exact⟨I,G,h1,h2,by simp_all,h3⟩
     ·exact h.no.elim
    ·exact h.no.elim
   ·exact h.no.elim
  ·exact h.no.elim
 all_goals (repeat' split at h)
 all_goals first
  |exact h.no.elim
  |(simp_all;done)
  |skip
theorem Qnr {ops:List Oper} {j:Nat} {S:St} {g:Option (Nat×Bool)} {v:V} {nb:List (Nat×Blk)} {jg:Nat} {want:Bool} {dst op ty pos after} (h:Qmt P tb cs ops j ⟨dst,op,ty,pos,after,some (jg,want)⟩ S (fun J v' I=>J=g∧v'=v∧I=nb)):nb=[]:=by
 simp only[Qmt] at h;split at h
 ·cases op<;>try simp only at h
  case call c=>
   have⟨G,args,tys⟩:=c
   cases G<;>try simp only at h
   case value f=>
    split at h
    ·rw[QC] at h;exact h.2.2.2.symm
    ·rw[QC] at h;exact h.2.2.2.symm
    ·exact h.no.elim
   all_goals (have⟨v,h1⟩:=QgR h;exact h1.2.2.symm)
  all_goals (have⟨v,h1⟩:=QgR h;exact h1.2.2.symm)
 ·exact h.no.elim
theorem QcQ {id:Nat}:∀ {ts:List (Nat×V)},Jv id ts=false↔ ∀p∈ts,p.2.mentions id=false
 |[]=>by simp[Jv]
 |(u,v)::r=>by
  have G:=QcQ (id:=id) (ts:=r);simp only[Jv];split
  ·rename_i h;simp[h]
  ·rename_i h;simp[h,G]
theorem Qfv {id:Nat}:∀ {gs:List Gd},Jw id gs=false↔ ∀g∈gs,g.v.mentions id=false
 |[]=>by simp[Jw]
 |g::r=>by
  have G:=Qfv (id:=id) (gs:=r);simp only[Jw];split
  ·rename_i h;simp[h]
  ·rename_i h;simp[h,G]
theorem QE {id:Nat}:∀ {bs:List (Nat×Blk)},Q4 id bs=false↔ ∀p∈bs,p.1≠id∧p.2.mentions id=false
 |[]=>by simp[Q4]
 |(i,b)::r=>by
  have I:=QE (id:=id) (bs:=r);simp only[Q4];split
  ·rename_i h;simp[Y5 h]
  ·rename_i h;have G:i≠id:=fun e=>by subst e;simp at h
   split
   ·rename_i h2;simp[h2]
   ·rename_i h2;simp[h2,I,G]
theorem St.mentions_mk {S:St} {id:Nat} (h1:Jv id S.tmps=false) (h2:Jw id S.gds=false) (h3:Q4 id S.blks=false) (h4:QcM id S.frames=false):S.mentions id=false:=by
 simp[St.mentions,h1,h2,h3,h4]
theorem Qns {E:Nat->Bool}:∀ {R:List Rs} {i0:Nat} {p:Nat×V},p∈QdE E i0 R->∃(j:Nat) (r:Rs),R[j]? =some r∧E (i0+j)=true∧p.2=r.shown
 |[],_,_,h=>by simp[QdE] at h
 |r::R,i0,p,h=>by
  have G:p∈QdE E (i0+1) R->∃(j:Nat) (q:Rs),(r::R)[j]? =some q∧E (i0+j)=true∧p.2=q.shown:=fun h=>by
   have⟨j,q,h1,h2,h3⟩:=Qns h;exact⟨j+1,q,by simpa using h1,by rw[show i0+(j+1)=i0+1+j by omega];exact h2,h3⟩
  simp only[QdE] at h;split at h
  ·rename_i t hE hd;rcases Yh.1 h with h|h
   ·subst h;exact⟨0,r,rfl,by simpa using hE,rfl⟩
   ·exact G h
  ·exact G h
theorem Qwo (W:Walked P tb cs m ops S0 A R) {E:Nat->Bool} (hE:Qgw m A E) {j:Nat} {r:Rs} (Y:R[j]? =some r) (hj:E j=false) {p:Nat×Blk} (hp:p∈r.nb):(stOf S0 R E).mentions p.1=false:=by
 have a3:=W.new j r Y p hp;have⟨m1,m2,m3,m4⟩:=St.mentions_parts a3;have G:∀(i:Nat) (q:Rs),R[i]? =some q->E i=true->q.v.mentions p.1=false∧(∀x∈q.nb,x.2.mentions p.1=false)∧∀x∈q.nb,x.1≠p.1:=fun i q hi J=>by
  have a2:i≠j:=fun e=>by subst e;rw[hj] at J;cases J
  have a5:i<m:=by rw[<-W.hm];exact(Y8.1 hi).1
  have U:j∉nth A i:=fun h=>by have:=hE i a5 J j h;rw[hj] at this;cases this
  have⟨h1,h2⟩:=W.ment i j q r hi Y a2 U p hp;refine⟨h1,h2,fun x I e=>?_⟩;have l1:x∈JN (fun _=>true) 0 R:=JB.2 ⟨i,q,hi,rfl,I⟩;have l2:p∈JN (fun _=>true) 0 R:=JB.2 ⟨j,r,Y,rfl,hp⟩
  --two entries of one number:they are one entry,of one operation
  have key:∀(i0:Nat) (O:List Rs),(JN (fun _=>true) i0 O).Pairwise (fun x y=>x.1≠y.1)->∀(i j:Nat) (q r:Rs),O[i]? =some q->O[j]? =some r->i<j->∀x∈q.nb,∀p∈r.nb,x.1≠p.1:=by
   intro i0 O
   induction O generalizing i0 with
   |nil=>intro _ i j q r h;simp at h
   |cons y O ih=>
    intro a1 i j q r hi hj hij x I p hp;simp only[JN] at a1;have⟨w1,w2,w3⟩:=XE.1 a1
    cases j with
    |zero=>omega
    |succ j=>
     cases i with
     |zero=>
      simp at hi;subst hi;exact w3 x I p (JB.2 ⟨j,r,by simpa using hj,rfl,hp⟩)
     |succ i=>exact ih _ w2 i j q r (by simpa using hi) (by simpa using hj) (by omega) x I p hp
  rcases Nat.lt_or_gt_of_ne a2 with a4|a6
  ·exact key 0 R W.ids i j q r hi Y a4 x I p hp e
  ·exact key 0 R W.ids j i r q Y hi a6 p hp x I e.symm
 have⟨base,nt,ts,gs,bs,fs⟩:=S0;dsimp only at m1 m2 m3 m4;refine St.mentions_mk ?_ ?_ ?_ m4
 ·refine QcQ.2 fun x I=>?_;rcases Yo.1 I with I|I
  ·have⟨i,q,h1,h2,h3⟩:=Qns I;rw[Yg] at h2;rw[h3];simp only[Rs.shown];split
   ·exact(G i q h1 h2).1
   ·rfl
  ·exact QcQ.1 m1 x I
 ·refine Qfv.2 fun g hg=>?_;have⟨i,q,h1,h2,_,_,h5⟩:=QaR.1 hg;rw[Yg] at h2;rw[h5];exact(G i q h1 h2).1
 ·refine QE.2 fun x I=>?_;rcases Yo.1 I with I|I
  ·have⟨i,q,h1,h2,h3⟩:=JB.1 I;rw[Yg] at h2;exact⟨(G i q h1 h2).2.2 x h3,(G i q h1 h2).2.1 x h3⟩
  ·exact QE.1 m3 x I
theorem Qi2 {blk blk':Nat->Option Blk} (hb:∀id b,blk id=some b->blk' id=some b):∀ {cs:List V} {ds:List D},Qnl blk cs=some ds->Qnl blk' cs=some ds
 |[],ds,h=>h
 |u::r,ds,h=>by
  cases u<;>simp only[Qnl] at h|- <;>first|cases h|skip
  ·split at h
   ·rename_i xs G;rw[Qi2 hb G];exact h
   ·cases h
  ·split at h
   ·rename_i h1 h2;rw[hb _ _ h1,Qi2 hb h2];exact h
   ·cases h
theorem QqP {blk blk':Nat->Option Blk} (hb:∀id b,blk id=some b->blk' id=some b) {id off len:Nat} {d:D} (h:slV blk id off len=some d):slV blk' id off len=some d:=by
 unfold slV at h|-;split at h
 ·rename_i h1;rw[hb _ _ h1];exact h
 ·rename_i h1;rw[hb _ _ h1];split at h
  ·rename_i h2 h3;simp only[h2,Qi2 hb h3];exact h
  ·cases h
 ·cases h
theorem Qi3 {blk blk':Nat->Option Blk} (hb:∀id b,blk id=some b->blk' id=some b):∀ {cs:List V} {ds:List D},Qnm blk cs=some ds->Qnm blk' cs=some ds
 |[],ds,h=>h
 |u::r,ds,h=>by
  cases u<;>simp only[Qnm] at h|- <;>first|cases h|skip
  ·split at h
   ·rename_i xs G;rw[Qi3 hb G];exact h
   ·cases h
  ·split at h
   ·rename_i h1 h2;rw[QqP hb h1,Qi3 hb h2];exact h
   ·cases h
mutual
theorem Qr1 {blk blk':Nat->Option Blk} (hb:∀id b,blk id=some b->blk' id=some b) (v:V) (u:V) (h:QeZ blk v=some u):QeZ blk' v=some u:=by
 cases v with
 |any=>exact h
 |d=>exact h
 |rp=>exact h
 |osl id off len=>
  simp only[QeZ] at h|-
  split at h
  ·rename_i h1;rw[QqP hb h1];exact h
  ·cases h
 |ref id row off=>
  simp only[QeZ] at h|-
  split at h
  ·rename_i h1
   split at h
   ·rename_i h2;rw[hb _ _ h1];simp only[Qi3 hb h2];exact h
   ·cases h
  ·rename_i h1;rw[hb _ _ h1];exact h
  ·cases h
 |agg vs=>
  simp only[QeZ] at h|-
  split at h
  ·rename_i G h1;rw[Qci hb vs G h1];exact h
  ·cases h
 |tup vs=>
  simp only[QeZ] at h|-
  split at h
  ·rename_i G h1;rw[Qci hb vs G h1];exact h
  ·cases h
 |fn f vs=>
  simp only[QeZ] at h|-
  split at h
  ·rename_i G h1;rw[Qci hb vs G h1];exact h
  ·cases h
theorem Qci {blk blk':Nat->Option Blk} (hb:∀id b,blk id=some b->blk' id=some b) (vs I:List V) (h:QbZ blk vs=some I):QbZ blk' vs=some I:=by
 cases vs with
 |nil=>exact h
 |cons v r=>
  simp only[QbZ] at h|-
  split at h
  ·rename_i u G h1 h2
   rw[Qr1 hb v u h1,Qci hb r G h2];exact h
  ·cases h
end
theorem ZY {f:Operand} {args:Array Operand} {G:Array TypeId} {x:Operand}:x∈(Op.operands (.call ⟨.value f,args,G⟩)).toList↔x=f∨x∈args:=by
 simp[Op.operands,Call.operands]
end Go.Ab
namespace Go.Ab
open Go.RowKit
variable {P:Program} {tb:Tb} {w:World} {ρ:Env} {a:Act} {B:Bd} {w0:World} {F:List (Array Value)}
 {cs:Nat→Option CS} {m:Nat} {ops:List Oper} {S0:St} {A:List (List Nat)} {R:List Rs}
theorem Qfw {S S':St} {al:List (Nat×Bool)} (h:∀al x,S.ev al x=S'.ev al x):∀ {l:List (Nat×Bool)} {p:Prop},Qaz S al l p=Qaz S' al l p
 |[],p=>rfl
 |(k,w)::r,p=>by simp only[Qaz,h,Qfw h (l:=r) (p:=p)]
theorem Qin {G:Array Oper} {Q:Exit->Act->World->Prop} {j:Nat} {o:Oper} {next:Act->World->Prop} (ho:G[j]? =some o) (I:Region.wanted o (yielded G a.tmps)=true) (h:o.wp P a w next Q):wpOp P G Q j next a w:=by
 unfold wpOp;simp only[ho,I,YG];exact .inl h
theorem QoC (hT:TOk P tb) (W:Walked P tb cs m ops S0 A R) {I:Array Oper} (c5:I.toList=ops) {E:Nat->Bool} (hE:Qgw m A E) {j:Nat} {o:Oper} (hj:j<m) (a3:E j=false) (ho:ops[j]? =some o)
  (b8:Qil (cs j)=false) (e0:o.dst≠none) (hr:∀e∈Zl o.after.toList,E e=true) (h:Sim P B w0 F ρ (stOf S0 R E) a w) {next:Act->World->Prop} (hn:∀ρ' a' w',Sim P B w0 F ρ' (stOf S0 R (QfT E j)) a' w'->next a' w') (Q:Exit->Act->World->Prop):
  wpOp P I Q j next a w:=by
 have d0:I[j]? =some o:=by rw[<-c5] at ho;simpa using ho
 have c2:∀res nb post p q,cs j≠some (.eff res nb post p q):=fun _ _ _ _ _ e=>by rw[e] at b8;cases b8
 have g0:Qgu (cs j)=false:=by
  cases hx:Qgu (cs j)
  ·rfl
  ·unfold Qgu at hx;split at hx
   ·rename_i hc;rw[hc] at b8;cases b8
   ·cases hx
 have⟨r,Y,hanc,e4,c6,d6,G⟩:=W.facts j o hj ho;rw[Qoy g0] at G;have c0:=W.ancIn hE hj ho hr;have f2:∀i∈nth A j,i<j:=W.ancLt (j+1) j (by omega) hj;have⟨t,a5,htn,hkt⟩:=(W.slots j r Y).resolve_left (fun h=>e0 (by rw[<-e4];exact h.1));have d7:o.dst=some t:=by rw[<-e4];exact a5
 have O:∀x∈o.op.operands.toList,∀al,(stOf S0 (R.take j) (ZZ (nth A j))).ev al x=(stOf S0 R E).ev al x:=fun x hx al=>Qta W f2 c0 (c6 x hx) al;have a2:∀id b,Qi (stOf S0 (R.take j) (ZZ (nth A j))).blks id=some b->Qi (stOf S0 R E).blks id=some b:=fun id b hb=>Qtb W c0 hb;have a6:∀g∈QdO E 0 R,g.t≠t∧g.key≠t:=fun g hg=>by
  have⟨i,q,g1,g2,g3,g4,g5⟩:=QaR.1 hg;rw[Yg] at g2;have c2:i≠j:=fun e=>by subst e;rw[a3] at g2;cases g2
  refine⟨fun e=>W.ne j i r q Y g1 (YU c2) t a5 (by rw[<-e];exact g3),fun e=>?_⟩;have c3:i<m:=by rw[<-W.hm];exact(Y8.1 g1).1
  have⟨oi,f4⟩:=W.op c3;have⟨q',f1,_,_,_,f5,f6⟩:=W.facts i oi c3 f4;rw[g1] at f1;cases f1;have⟨gg,vv,nn,⟨k1,_,_⟩,k4⟩:=Qnq f6;rcases k4 with ⟨_,k5⟩|⟨jg,want,oj,key,k5,k6,k7,k8⟩
  ·rw[<-k1,k5] at g4;cases g4
  ·rw[<-k1,k8] at g4;simp only[Y9,YY] at g4;have⟨g8,e7,l1,l2,l3,_⟩:=f5 jg want k5;rw[k6] at l1;cases l1;have c4:=hE i c3 g2 jg l3;have d5:jg≠j:=fun e=>by subst e;rw[a3] at c4;cases c4
   have e3:jg<m:=by have:=W.ancLt (i+1) i (by omega) c3 jg l3;omega
   have⟨rj,r1,_,r3,_⟩:=W.facts jg oj e3 k6;refine W.ne jg j rj r r1 Y d5 key (by rw[r3];exact k7) ?_;rw[g4.1,e];exact a5
 --the state as it stands
 have U:stOf S0 R E=⟨S0.base,S0.nt,QdE E 0 R++S0.tmps,QdO E 0 R,JN E 0 R++S0.blks,S0.frames⟩:=by
  have⟨base,nt,ts,gs,bs,fs⟩:=S0;rfl
 have b4:∀p∈r.nb,(stOf S0 R E).mentions p.1=false:=fun p hp=>Qwo W hE Y a3 hp;have a9:∀(R':List Rs) (E':Nat->Bool),(stOf S0 R' E').base=S0.base:=fun R' E'=>by have⟨base,nt,ts,gs,bs,fs⟩:=S0;rfl
 have⟨dst,op,ty,pos,after,guard⟩:=o;dsimp only at d7 c6 O d6;subst d7
 cases guard with
 |none=>
  have b9:Region.wanted ⟨some t,op,ty,pos,after,none⟩ (yielded I a.tmps)=true:=by simp[Region.wanted]
  refine Qin d0 b9 ?_;have done:∀ {n v w' ρ' S'},(execOp a.eval ⟨some t,op,ty,pos,after,none⟩).run P w=.ok n w'->(n=.value v∨(n=.skip∧v=undef))->
    Sim P B w0 F ρ' S' a w'->S'=⟨S0.base,S0.nt,QdE E 0 R++S0.tmps,QdO E 0 R,r.nb++(JN E 0 R++S0.blks),S0.frames⟩->VR w' (ZL B S'.blks ρ') ρ' r.v v->r.g=none->
    Oper.wp P ⟨some t,op,ty,pos,after,none⟩ a w next Q:=by
   intro n v w' ρ' S' h1 h2 h3 h4 h5 h6;subst h4;have:=QhE W Y a5 a3 h3 (x:=v) (by rw[h6];exact h5) a6;unfold Oper.wp;rw[h1];rcases h2 with rfl|⟨rfl,rfl⟩
   ·exact hn ρ' _ w' this
   ·exact hn ρ' _ w' this
  have J:∀ {K:V->Prop},evP tb (stOf S0 (R.take j) (ZZ (nth A j))).ev (Qi (stOf S0 (R.take j) (ZZ (nth A j))).blks) id op K->(∀v,K v->none=r.g∧v=r.v∧[]=r.nb)->
    Oper.wp P ⟨some t,op,ty,pos,after,none⟩ a w next Q:=by
   intro K hk hK;have h1:=Qe1 (ev':=(stOf S0 R E).ev) (blk':=Qi (stOf S0 R E).blks) (fun x hx al=>O x hx al) a2 hk;have⟨v,w',x,h2,h3,h4,h5⟩:=Qgo hT h.evR h.blks (fun _ ho=>QdK h ho) (fun p hp=>hp) ⟨some t,op,ty,pos,after,none⟩ h1;have⟨k1,k2,k3⟩:=hK x h5;subst k2;refine done h2 (.inl rfl) (h.pure h3) (by rw[<-k3];exact U) h4 k1.symm
  have b3:evN tb ((stOf S0 (R.take j) (ZZ (nth A j))).ev []) (Qi (stOf S0 (R.take j) (ZZ (nth A j))).blks) (stOf S0 (R.take j) (ZZ (nth A j))).base (some t) op (fun id v b=>none=r.g∧v=r.v∧[(id,b)]=r.nb)->Oper.wp P ⟨some t,op,ty,pos,after,none⟩ a w next Q:=by
   intro hk;have h1:=Qgv (ev':=(stOf S0 R E).ev []) (blk':=Qi (stOf S0 R E).blks) (fun x hx=>O x hx []) a2 hk;rw[a9,<-a9 R E] at h1;have⟨i,v,b,⟨hi,k1,k2,k3⟩,_⟩:=QpX (Qwn h1);have hid:∀t',some t=some t'->(stOf S0 R E).mentions (St.idOf (stOf S0 R E).base t')=false:=fun t' f9=>by
    cases f9
    rw[<-hi];exact b4 (i,b) (by rw[<-k3];simp)
   have h2:=Qs9 hid h1;have⟨n,v',w',ρ',x,S',g1,g2,g3,g4,g5⟩:=Qep hT h ⟨some t,op,ty,pos,after,none⟩ h2;obtain⟨i',b',⟨l1,l2,l3⟩,rfl⟩:=g5;subst l2;refine done g1 g2 g3 ?_ g4 l1.symm;rw[<-l3,U];rfl
  cases hv:Qwm op
  ·rw[Qe0 hv] at G
   cases hN:isN op<;>simp only[hN] at G
   ·exact J G fun v hv=>hv
   ·exact b3 G
  ·obtain⟨f,args,f3,rfl⟩:=Qno hv;simp only[Qmt] at G;split at G
   ·rename_i g cap k res nb hf b5;rw[QC] at G;have⟨d2,k1,k2,k3⟩:=G;have⟨args',b2,a4⟩:=d2.out;have d1:(stOf S0 R E).ev [] f=.fn g cap:=by rw[<-O f (ZY.2 (.inl rfl)) []];exact hf
    have a1:args.toList.map ((stOf S0 (R.take j) (ZZ (nth A j))).ev [])=args.toList.map ((stOf S0 R E).ev []):=YK fun x hx=>O x (ZY.2 (.inr (by simpa using hx))) [];rw[a1] at b2;have b6:=Qci a2 _ _ b2;have⟨g9,c9,d3,c7⟩:=Qk2 (h.evR.eq d1);have a7:=Qc2 (ev:=(stOf S0 R E).ev) (al:=[]) h.evR.at args d3 c7;have g7:CallP P g (args.toList.map ((stOf S0 R E).ev [])++cap) (stOf S0 R E) (fun v S'=>v=r.v∧S'=⟨S0.base,S0.nt,QdE E 0 R++S0.tmps,QdO E 0 R,r.nb++(JN E 0 R++S0.blks),S0.frames⟩):=by
     refine QqM k a4 b6 (fun b hb=>?_) ⟨k2,?_⟩
     ·have:Nb.ent k b∈r.nb:=by rw[<-k3];exact YI.2 ⟨b,hb,rfl⟩
      exact b4 _ this
     ·rw[<-k3,U]
    have a8:=g7.out B w0 F ρ a w _ h a7;unfold Oper.wp;rw[Qfs c9 a4.can,Oper.upon_enter];refine Calls.mono a8 ?_;rintro e w' ⟨v,ρ',x,S',rfl,h1,h2,rfl,rfl⟩;exact hn ρ' _ w' (QhE W Y a5 a3 h1 (x:=v) (by rw[<-k1];exact h2) a6)
   ·rename_i b5;exact absurd b5 (c2 _ _ _ _ _)
   ·exact G.no.elim
 |some f8=>
  have⟨jg,want⟩:=f8;have⟨oj,key,l1,l2,l3,l4⟩:=d6 jg want rfl;have e2:I[jg]? =some oj:=by rw[<-c5] at l1;simpa using l1
  have hy:=Qhz (tmps:=a.tmps) (want:=want) e2 l2;have b9:Region.wanted ⟨some t,op,ty,pos,after,some (jg,want)⟩ (yielded I a.tmps)=(yielded I a.tmps jg==some want):=by simp[Region.wanted]
  --what the forerunners alone say is true of the state as it stands
  have hL:Sim P B w0 F ρ ⟨S0.base,S0.nt,QdE (ZZ (nth A j)) 0 (R.take j)++S0.tmps,QdO (ZZ (nth A j)) 0 (R.take j),JN E 0 R++S0.blks,S0.frames⟩ a w:=by
   rw[U] at h;refine h.congr (fun t v hv=>?_) (fun g hg=>?_) (fun _ _=>Iff.rfl)
   ·rw[Qh] at hv|-
    cases hl:Qi (QdE (ZZ (nth A j)) 0 (R.take j)) t with
    |some v'=>
     rw[hl] at hv;simp at hv;subst hv;have⟨i,q,g1,g2,g3,g4⟩:=QeD hl;rw[Yg] at g2;rw[QhD (pw_of W R fun _ _ h=>h) (Qd6 g1).2 (by rw[Yg];exact c0 i (ZO.1 g2)) g3,g4];rfl
    |none=>
     rw[hl] at hv;simp at hv
     cases f7:Qi (QdE E 0 R) t with
     |none=>simpa using hv
     |some v'=>
      have⟨i,q,g1,g2,g3,g4⟩:=QeD f7;rw[W.mask i q t g1 g3] at hv;cases hv
   ·have⟨i,q,g1,g2,g3,g4,g5⟩:=QaR.1 hg;rw[Yg] at g2;exact QaR.2 ⟨i,q,(Qd6 g1).2,by rw[Yg];exact c0 i (ZO.1 g2),g3,g4,g5⟩
  have e5:stOf S0 (R.take j) (ZZ (nth A j))=⟨S0.base,S0.nt,QdE (ZZ (nth A j)) 0 (R.take j)++S0.tmps,QdO (ZZ (nth A j)) 0 (R.take j),JN (ZZ (nth A j)) 0 (R.take j)++S0.blks,S0.frames⟩:=by
   have⟨base,nt,ts,gs,bs,fs⟩:=S0;rfl
  have⟨odst,oop,oty,opos,oaft,ogd⟩:=oj;dsimp only at l2;subst l2;have skip:∀ {gg:Option (Nat×Bool)} {v:V} {nb:List (Nat×Blk)},gg=r.g∧v=r.v∧nb=r.nb->gg=some (key,want)->nb=[]->a.tmps.getD key undef≠ .bool want->
    wpOp P I Q j next a w:=by
   intro gg v nb ⟨k1,k2,k3⟩ hgg c8 hw;have e9:Region.wanted ⟨some t,op,ty,pos,after,some (jg,want)⟩ (yielded I a.tmps)=false:=by
    rw[b9]
    cases hb:(yielded I a.tmps jg==some want)
    ·rfl
    ·exact absurd (hy.1 hb) hw
   unfold wpOp;simp only[d0,e9,Yu,X6];refine hn ρ _ w (QhE W Y a5 a3 ?_ (x:=undef) (by rw[<-k1,hgg];exact .inr ⟨hw,rfl⟩) a6);rw[<-k3,c8];rw[U] at h;exact h
  by_cases hw:a.tmps.getD key undef=.bool want
  ·have h0:Region.wanted ⟨some t,op,ty,pos,after,some (jg,want)⟩ (yielded I a.tmps)=true:=by rw[b9];exact hy.2 hw
   refine Qin d0 h0 ?_;have b7:∀k g,(k,g)∈closure (stOf S0 (R.take j) (ZZ (nth A j))).gds 9 key want->a.tmps.getD k undef=.bool g:=fun k g hm=>by
    rw[e5] at hm;exact Qd4 hL 9 key want hw k g hm
   have d4:∀p,Qaz (stOf S0 (R.take j) (ZZ (nth A j))) (closure (stOf S0 (R.take j) (ZZ (nth A j))).gds 9 key want) (closure (stOf S0 (R.take j) (ZZ (nth A j))).gds 9 key want) p->p:=fun p hp=>by
    refine Qer hL _ b7 _ p (fun _ hx=>hx) ?_;rw[Qfw (S':=stOf S0 (R.take j) (ZZ (nth A j)))]
    ·exact hp
    ·intro al x;rw[e5]
     cases x<;>rfl
   generalize d8:closure (stOf S0 (R.take j) (ZZ (nth A j))).gds 9 key want=al at b7 d4;have d9:EvR w (ZL B (stOf S0 R E).blks ρ) ρ a (fun ex x=>(stOf S0 R E).ev (ex++al) x):=⟨fun al x hx=>h.evR.h _ x fun k g hm=>by
    rcases Yo.1 hm with hm|hm
    ·exact hx k g hm
    ·exact b7 k g hm⟩
   have J:∀ {K:V->Prop},evP tb (fun ex x=>(stOf S0 (R.take j) (ZZ (nth A j))).ev (ex++al) x) (Qi (stOf S0 (R.take j) (ZZ (nth A j))).blks) (Qaz (stOf S0 (R.take j) (ZZ (nth A j))) al al) op K->
     (∀v,K v->some (key,want)=r.g∧v=r.v∧[]=r.nb)->Oper.wp P ⟨some t,op,ty,pos,after,some (jg,want)⟩ a w next Q:=by
    intro K hk hK;have h1:=Qe1 (ev':=fun ex x=>(stOf S0 R E).ev (ex++al) x) (blk':=Qi (stOf S0 R E).blks) (fun x hx al=>O x hx _) a2 hk;have⟨v,w',x,h2,h3,h4,h5⟩:=Qgo hT d9 h.blks (fun _ ho=>QdK h ho) d4 ⟨some t,op,ty,pos,after,some (jg,want)⟩ h1;have⟨k1,k2,k3⟩:=hK x h5;subst k2;unfold Oper.wp;rw[h2];refine hn ρ _ w' (QhE W Y a5 a3 ?_ (x:=v) ?_ a6)
    ·rw[<-k3];have:=h.pure h3;rw[U] at this;exact this
    ·rw[<-k1,<-k3];rw[U] at h4;exact .inl ⟨hw,h4⟩
   simp only[Qmt] at G;rw[l1] at G;dsimp only at G;rw[d8] at G
   cases op<;>try simp only at G
   case call c=>
    have⟨c1,args,f3⟩:=c
    cases c1<;>try simp only at G
    case value f=>
     split at G
     ·rename_i g cap k0 res hf b5;rw[QC] at G;have⟨d2,k1,k2,k3⟩:=G;have⟨args',b2,a4⟩:=d4 _ d2.out;have d1:(stOf S0 R E).ev al f=.fn g cap:=by rw[<-O f (ZY.2 (.inl rfl)) _];exact hf
      have a1:args.toList.map ((stOf S0 (R.take j) (ZZ (nth A j))).ev al)=args.toList.map ((stOf S0 R E).ev al):=YK fun x hx=>O x (ZY.2 (.inr (by simpa using hx))) _;rw[a1] at b2;have b6:=Qci a2 _ _ b2;have e6:=h.evR.h al f b7;rw[d1] at e6;have⟨g9,c9,d3,c7⟩:=Qk2 e6;have a7:=Qc2 (ev:=(stOf S0 R E).ev) (al:=al) (fun x=>h.evR.h _ x b7) args d3 c7;have e8:CallG P id id g (args.toList.map ((stOf S0 R E).ev al)++cap) (stOf S0 R E) (fun v S1=>v=res∧S1=stOf S0 R E):=
       Qox (res:=res) a4.can a4 (fun p q f0=>f0) (fun p hp=>hp) a4.flat (fun id=>by
        cases g6:res.mentions id
        ·rfl
        ·have⟨b,hb,_⟩:=a4.ids id g6;simp at hb) b6 ⟨rfl,rfl⟩
      obtain⟨x,S1,⟨rfl,rfl⟩,hc,_⟩:=e8.out;have a8:=hc B w0 F ρ a w _ h a7;unfold Oper.wp;rw[Qfs c9 a4.can,Oper.upon_enter];refine Calls.mono a8 ?_;rintro e w' ⟨v,ρ',rfl,h1,h2⟩;refine hn ρ' _ w' (QhE W Y a5 a3 ?_ (x:=v) ?_ a6)
      ·rw[<-k3];rw[U] at h1;exact h1
      ·rw[<-k1,<-k2,<-k3];rw[U] at h2;exact .inl ⟨hw,h2⟩
     ·rename_i b5;exact absurd b5 (c2 _ _ _ _ _)
     ·exact G.no.elim
    all_goals exact J G fun v hv=>hv
   all_goals exact J G fun v hv=>hv
  ·have⟨gg,vv,nn,k1,k4⟩:=QoB G;have c8:r.nb=[]:=Qnr G;rcases k4 with ⟨k5,_⟩|⟨jg',want',g8,e7,k5,k6,k7,k8⟩
   ·cases k5
   ·cases k5
    rw[l1] at k6;cases k6
    cases k7
    exact skip k1 k8 (by rw[k1.2.2];exact c8) hw
end Go.Ab
namespace Go.Ab
open Go.RowKit
variable {P:Program} {tb:Tb} {w:World} {ρ:Env} {a:Act} {B:Bd} {w0:World} {F:List (Array Value)}
 {cs:Nat→Option CS} {m:Nat} {ops:List Oper} {S0:St} {A:List (List Nat)} {R:List Rs}
theorem QgW {ds:List (Option Nat)} {t:Nat} {v:V}:∀ {ts:List (Nat×V)},Qi (Qnn ds ts) t=some v->Qi ts t=some v
 |[],h=>by simp[Qnn,Qi] at h
 |(u,x)::r,h=>by
  simp only[Qnn] at h;split at h
  ·rename_i hb
   by_cases e:u=t
   ·subst e;have hm:some u∈ds:=by
     have⟨d,J,G⟩:=YN.1 hb
     cases d with
     |none=>cases G
     |some y=>have:=Y5 G;subst this;exact J
    rw[QgV hm] at h;cases h
   ·rw[QQ e];exact QgW h
  ·rcases QZ h with ⟨rfl,rfl⟩|⟨I,h⟩
   ·exact Zk
   ·rw[QQ I];exact QgW h
theorem QmA {E E':Nat->Bool}:∀ {R:List Rs} {i0:Nat},(∀i,i<R.length->E (i0+i)=E' (i0+i))->QdE E i0 R=QdE E' i0 R∧QdO E i0 R=QdO E' i0 R∧JN E i0 R=JN E' i0 R
 |[],_,_=>⟨rfl,rfl,rfl⟩
 |r::R,i0,h=>by
  have G:E i0=E' i0:=by simpa using h 0 (by simp)
  have⟨h1,h2,h3⟩:=QmA (E:=E) (E':=E') (R:=R) (i0:=i0+1) fun i hi=>by
   have:=h (i+1) (by simp;omega);rwa[show i0+1+i=i0+(i+1) by omega]
  simp only[QdE,QdO,JN,G,h1,h2,h3,and_self]
theorem QmB {E E':Nat->Bool} (h:∀i,i<R.length->E i=E' i):stOf S0 R E=stOf S0 R E':=by
 have⟨base,nt,ts,gs,bs,fs⟩:=S0;have⟨h1,h2,h3⟩:=QmA (E:=E) (E':=E') (R:=R) (i0:=0) fun i hi=>by rw[Yg];exact h i hi
 simp only[stOf,h1,h2,h3]
def unl (listed:Array Bool):Nat:=listed.toList.countP (· ==false)
theorem Qnt {listed:Array Bool} {i:Nat} (hi:listed.getD i true=false):unl listed=unl (listed.setIfInBounds i true)+1:=by
 have G:i<listed.size:=by
  by_cases h:i<listed.size
  ·exact h
  ·rw[Y6,XJ (by omega)] at hi;cases hi
 have hv:listed[i]=false:=by rw[Y6,Xm G] at hi;exact hi
 have I:listed.toList[i]'(by simpa using G)=false:=by simpa using hv
 unfold unl;rw[Array.toList_setIfInBounds,List.countP_set (by simpa using G)];have hpos:0<listed.toList.countP (· ==false):=List.countP_pos_iff.2 ⟨false,by rw[<-I];exact Xk _,rfl⟩;have J:(listed.toList[i]'(by simpa using G)==false)=true:=by rw[I];rfl
 rw[Y2 J,Y0 (by decide)];omega
theorem QpZ {listed:Array Bool} {i:Nat} (hi:listed.getD i true=false):0<unl listed:=by rw[Qnt hi];omega
theorem Qfx {listed:Array Bool} {i:Nat} (hi:i<listed.size):listed.getD i true=listed.getD i false:=by
 simp[Y6,Xm hi]
theorem Qfy {listed:Array Bool} {j:Nat} (hj:j<listed.size):(fun i=>(listed.setIfInBounds j true).getD i false)=QfT (fun i=>listed.getD i false) j:=by
 funext i
 simp only[QfT,Y6,YO]
 by_cases h:j=i
 ·subst h;simp[hj]
 ·simp[h,YU h]
end Go.Ab
