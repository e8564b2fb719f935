/-
  Regions whose order Go leaves open: a part of the frame in which a given row's proof walks the program; no condition.
-/
import Derived.Test.YtmnnglbioibmfaaGreatDoorAbz3
set_option linter.all false
namespace Go.Ab
open Go.RowKit
structure Rs where
 dst:Option Nat
 g:Option (Nat×Bool)
 v:V
 nb:List (Nat×Blk)
def Z3:List Nat→Nat→Bool
 |[],_=>false
 |x::r,i=>match Nat.beq x i with
  |true=>true
  |false=>Z3 r i
def Rs.shown (r:Rs):V:=match r.g with
 |none=>r.v
 |some _=>.any
def Qc6 (E:Nat→Bool):Nat→List Rs→List (Nat×V)
 |_,[]=>[]
 |i,r::rs=>match E i,r.dst with
  |true,some t=>(t,r.shown)::Qc6 E (i+1) rs
  |_,_=>Qc6 E (i+1) rs
def Qdi (E:Nat→Bool):Nat→List Rs→List Gd
 |_,[]=>[]
 |i,r::rs=>match E i,r.dst,r.g with
  |true,some t,some (key,want)=>⟨t,key,want,r.v⟩::Qdi E (i+1) rs
  |_,_,_=>Qdi E (i+1) rs
def JO (E:Nat→Bool):Nat→List Rs→List (Nat×Blk)
 |_,[]=>[]
 |i,r::rs=>match E i with
  |true=>r.nb++JO E (i+1) rs
  |false=>JO E (i+1) rs
def Qmb (dsts:List (Option Nat)):List (Nat×V)→List (Nat×V)
 |[]=>[]
 |(t,v)::r=>match dsts.any fun d=>match d with|some u=>Nat.beq u t|none=>false with
  |true=>Qmb dsts r
  |false=>(t,v)::Qmb dsts r
def stOf (S0:St) (R:List Rs) (E:Nat→Bool):St:=match S0 with
 |⟨base,nt,ts,_,bs,fs⟩=>⟨base,nt,Qc6 E 0 R++ts,Qdi E 0 R,JO E 0 R++bs,fs⟩
def nth:List (List Nat)→Nat→List Nat
 |[],_=>[]
 |a::_,0=>a
 |_::r,n+1=>nth r n
def Zq:List Edge→List Nat
 |[]=>[]
 |e::r=>match Region.binds .any e with
  |true=>e.on::Zq r
  |false=>Zq r
def ancIn (ancs:List (List Nat)):List Nat→List Nat
 |[]=>[]
 |i::r=>i::(nth ancs i++ancIn ancs r)
def QbK (ancs:List (List Nat)) (o:Oper):List Nat:=ancIn ancs (Zq o.after.toList)
def okT (anc:List Nat) (t:Nat):Nat→List (Option Nat)→Bool
 |_,[]=>true
 |i,d::r=>match (match d with|some u=>Nat.beq u t|none=>false),Z3 anc i with
  |true,false=>false
  |_,_=>okT anc t (i+1) r
def Qhl (dsts:List (Option Nat)) (anc:List Nat):Operand→Bool
 | .tmp t=>okT anc t 0 dsts
 |_=>true
def isN:Op→Bool
 | .alloc _=>true
 | .box ..=>true
 | .makeSlice ..=>true
 | .buildSlice _ len _=>!Nat.beq len 0
 | .call c=>(match c.callee with
  | .builtin .append=>true
  |_=>false)
 |_=>false
def evN (tb:Tb) (ev:Operand→V) (blk:Nat→Option Blk) (base:Nat) (dst:Option Nat) (op:Op) (K:Nat→V→Blk→Prop):Prop:=match op with
 | .alloc t=>(match tb.find t,dst,Nat.blt t 1000000 with
  |some ti,some dst,true=>St.idK base dst fun id=>Qap (ti.zero.map .d) fun cs=>K id (.ref id 0 0) (.box t cs)
  | _, _, _ => Stuck "alloc")
 | .box t x=>(match dst,(ev x).storable,Nat.blt t 1000000 with
  |some dst,true,true=>St.idK base dst fun id=>Qap (ev x).cells fun cs=>K id (.ref id 0 0) (.box t cs)
  | _, _, _ => Stuck "box")
 | .makeSlice t l c=>(match tb.find t,dst with
  |some ⟨.slice e,_,_,_,_⟩,some dst=>(match tb.find e,ev l,ev c with
   |some ⟨_,sz,byt,z,_⟩,.d (.int .i64 n),.d (.int .i64 m)=>St.idK base dst fun id=>
    (0≤n∧n≤m∧m*byt≤140737488355328∧m≤140737488355328)∧∃n' rw',n'=n.toNat∧(∀i,i<n'→rw' i=z)∧K id (.osl id 0 n') (.arr e sz n' rw')
   | _, _, _ => Stuck "makeSlice")
  | _, _ => Stuck "makeSlice type")
 | .buildSlice t len parts=>(match tb.find t,dst with
  |some ⟨.slice e,_,_,_,_⟩,some dst=>(match tb.find e with
   |some ⟨_,sz,_,_,_⟩=>St.idK base dst fun id=>(match Qm3 sz 0 (parts.toList.map fun p=>(p.1,ev p.2)),Nat.ble (len*sz) 1000000 with
    |some rs,true=>(match Nat.beq rs.length len with
     |true=>∃n' rw',n'=len∧(∀i,i<n'→rw' i=rowAt rs i)∧K id (.osl id 0 n') (.arr e sz n' rw')
     | false => Stuck "buildSlice parts left out")
    | _, _ => Stuck "buildSlice")
   | none => Stuck "buildSlice element type")
  | _, _ => Stuck "buildSlice type")
 | .call c=>(match c.callee with
  | .builtin .append=>(match c.args.toList,c.argTypes.toList with
   |[s,x],[t,t']=>(match tb.find t,tb.find t',dst with
    |some ⟨.slice e,_,_,_,_⟩,some ⟨.slice _,_,_,_,_⟩,some dst=>(match tb.find e with
     |some ⟨_,sz,byt,_,_⟩=>(match ev s,J7 blk sz (ev x) with
      | .d .nil,some (m,r')=>St.idK base dst fun id=>(0+m)*(byt+1)≤70368744177664∧∃n' rw',n'=m∧(∀i,i<n'→rw' i=r' i)∧K id (.osl id 0 n') (.arr e sz n' rw')
      | _, _ => Stuck "append not to an empty slice")
     | none => Stuck "append element type")
    | _, _, _ => Stuck "append type")
   | _, _ => Stuck "append arguments")
  | _ => Stuck "new call")
 | _ => Stuck "new"
structure CallD (P:Program) (sc:Prop→Prop) (g:FuncId) (blk:Nat→Option Blk) (vs:List V) (res:V) (nb:List Nb):Prop where
 can:Callable P g
 out:sc (∃args',Qbx blk vs=some args'∧PureC P g args' res nb)
inductive CS where
 |pure (k:Nat) (res:V) (nb:List Nb)
 |eff (res:V) (nb post:List (Nat×Blk)) (p:FuncId→List V→Prop) (q:Prop)
 |app (pre:List (Nat×Blk)) (res:V) (post:List (Nat×Blk))
def Qhm:Option CS→Bool
 |some (.eff ..)=>true
 |some (.app ..)=>true
 |_=>false
def QfB:Option CS→Bool
 |some (.app ..)=>true
 |_=>false
def Qoo:List (Nat×Blk)→Nat→List (Nat×Blk)
 |[],_=>[]
 |(i,b)::r,j=>match Nat.beq i j with
  |true=>Qoo r j
  |false=>(i,b)::Qoo r j
def QwM:Op→Bool
 | .alloc _=>false
 | .box ..=>false
 | .makeSlice ..=>false
 | .buildSlice ..=>false
 | .store ..=>false
 | .call c=>(match c.callee with
  | .builtin .append=>false
  | .builtin _=>true
  |_=>false)
 |_=>true
def Qtm (tb:Tb) (ev:Operand→V) (vis:Nat→Option Blk) (pre:List (Nat×Blk)) (base:Nat) (dst:Option Nat) (op:Op) (K:V→List (Nat×Blk)→Prop):Prop:=match op with
 | .alloc t=>evN tb ev vis base dst (.alloc t) fun id v b=>K v ((id,b)::pre)
 | .box t x=>evN tb ev vis base dst (.box t x) fun id v b=>K v ((id,b)::pre)
 | .buildSlice t len parts=>evN tb ev vis base dst (.buildSlice t len parts) fun id v b=>K v ((id,b)::pre)
 | .makeSlice t l c=>evN tb ev vis base dst (.makeSlice t l c) fun id v b=>K v ((id,b)::pre)
 | .call c=>(match c.callee with
  | .builtin .append=>(match c.args.toList,c.argTypes.toList with
   |[s,x],[t,t']=>(match tb.find t,tb.find t',dst with
    |some ⟨.slice e,_,_,_,_⟩,some ⟨.slice _,_,_,_,_⟩,some dst=>(match tb.find e with
     |some ⟨_,sz,byt,_,_⟩=>(match J7 (Qh pre) sz (ev s),J7 vis sz (ev x) with
      |some (n,r),some (m,r')=>(match ev s with
       | .d .nil=>evN tb ev vis base (some dst) (.call c) fun id v b=>K v ((id,b)::pre)
       | .osl id _ _=>(n+m)*(byt+1)≤70368744177664∧∃n' rw',n'=n+m∧(∀i,i<n'→rw' i=QdY n r r' i)∧St.idK base dst fun nid=>K (.osl nid 0 n') ((nid,.arr e sz n' rw')::Qoo pre id)
       | _ => Stuck "append not to a row that is hidden")
      | _, _ => Stuck "append contents")
     | none => Stuck "append element type")
    | _, _, _ => Stuck "append type")
   | _, _ => Stuck "append arguments")
  | _ => Stuck "hidden call")
 | .store t a x=>(match tb.find t,ev a,ev x with
  |some ti,.ref id row off,v=>(match (v.storable&&Nat.beq v.cells.length ti.size),Qh pre id with
   |true,some (.box t' cs)=>(match row,Nat.ble (off+ti.size) cs.length with
    |0,true=>Qap (Qcf cs off v.cells) fun cs'=>K .any (Qe5 pre id (.box t' cs'))
    | _, _ => Stuck "hidden store out of the variable")
   |true,some (.arr t' sz n rw)=>(match Nat.ble (off+ti.size) sz,Qqb v.cells with
    |true,some ds=>∃rw',(∀i,i<n→rw' i=if i=row then Qcf (rw row) off ds else rw i)∧K .any (Qe5 pre id (.arr t' sz n rw'))
    | _, _ => Stuck "hidden store into the element")
   | _, _ => Stuck "hidden store size or no such block")
  | _, _, _ => Stuck "hidden store")
 | _ => Stuck "hidden op"
def bty (n e:Nat):Nat:=n*1000000+e
def evB (tb:Tb) (ev:Operand→V) (pre:List (Nat×Blk)) (op:Op):Option (Nat×Nat×List V×Option Nat):=match op with
 | .buildSlice t len parts=>(match len,tb.find t,parts.toList with
  |1,some ⟨.slice e,_,_,_,_⟩,[(0,x)]=>(match tb.find e,Qqb (ev x).cells with
   |some ⟨_,sz,_,_,_⟩,none=>(match (ev x).storable&&(Nat.beq (ev x).cells.length sz&&(Nat.blt e 1000000&&Nat.ble sz 1000000)) with
    |true=>some (e,1,(ev x).cells,none)
    |false=>none)
   |_,_=>none)
  |_,_,_=>none)
 | .call c=>(match c.callee with
  | .builtin .append=>(match c.args.toList,c.argTypes.toList with
   |[s,x],[t,t']=>(match tb.find t,tb.find t' with
    |some ⟨.slice e,_,_,_,_⟩,some ⟨.slice _,_,_,_,_⟩=>(match tb.find e,ev x with
     |some ⟨_,sz,byt,_,_⟩,.osl ix o m=>(match Qh pre ix,o with
      |some (.box tx cx),0=>(match Nat.beq tx (bty m e)&&(Nat.ble 1 m&&(Nat.blt e 1000000&&Nat.beq cx.length (m*sz))),ev s with
       |true,.d .nil=>(match Nat.ble (m*(byt+1)) 70368744177664 with
        |true=>some (e,m,cx,none)
        |false=>none)
       |true,.osl is 0 n=>(match Qh pre is with
        |some (.box ts cs)=>(match Nat.beq ts (bty n e)&&(Nat.ble 1 n&&(Nat.beq cs.length (n*sz)&&Nat.ble ((n+m)*(byt+1)) 70368744177664)) with
         |true=>some (e,n+m,cs++cx,some is)
         |false=>none)
        |_=>none)
       |_,_=>none)
      |_,_=>none)
     |_,_=>none)
    |_,_=>none)
   |_,_=>none)
  |_=>none)
 |_=>none
def Qs8 (pre:List (Nat×Blk)):Option Nat→List (Nat×Blk)
 |none=>pre
 |some g=>Qoo pre g
def evA (tb:Tb) (ev:Operand→V) (vis:Nat→Option Blk) (pre:List (Nat×Blk)) (base:Nat) (dst:Option Nat) (op:Op) (K:V→List (Nat×Blk)→Prop):Prop:=match QwM op with
 |true=>evP tb (fun _ x=>ev x) (fun i=>(Qh pre i).or (vis i)) id op fun v=>K v pre
 |false=>(match evB tb ev pre op,dst with
  |some (e,n,cs,gone),some dst=>St.idK base dst fun nid=>K (.osl nid 0 n) ((nid,.box (bty n e) cs)::Qs8 pre gone)
  |_,_=>Qtm tb ev vis pre base dst op K)
def Qlj (P:Program) (tb:Tb) (cs:Nat→Option CS) (ops:List Oper) (j:Nat) (o:Oper) (S:St) (K:Option (Nat×Bool)→V→List (Nat×Blk)→Prop):Prop:=match o.guard with
 |none=>(match o.op with
  | .call ⟨.value f,args,_⟩=>(match S.ev [] f,cs j with
   | .fn g cap,some (.pure k res nb)=>CallD P id g (Qh S.blks) (args.toList.map (S.ev [])++cap) res nb∧Qar (res.shift k) fun v=>K none v (nb.map (Nb.ent k))
   | .fn g cap,some (.eff res nb _ p _)=>p g (args.toList.map (S.ev [])++cap)∧Qar res fun v=>K none v nb
   | _, _ => Stuck "drawn region a call without a contract")
  |op=>(match isN op with
   |true=>evN tb (S.ev []) (Qh S.blks) S.base o.dst op fun id v blk=>K none v [(id,blk)]
   |false=>evP tb S.ev (Qh S.blks) id op fun v=>K none v []))
 |some (jg,want)=>(match ops[jg]? with
  |some ⟨some key,_,_,_,_,_⟩=>(match o.op with
   | .call ⟨.value f,args,_⟩=>(match S.ev (closure S.gds 9 key want) f,cs j with
    | .fn g cap,some (.pure _ res [])=>CallD P (Qa1 S (closure S.gds 9 key want) (closure S.gds 9 key want)) g (Qh S.blks) (args.toList.map (S.ev (closure S.gds 9 key want))++cap) res []∧Qar res fun v=>K (some (key,want)) v []
    | .fn g cap,some (.eff res [] _ p q)=>(Callable P g∧Qa1 S (closure S.gds 9 key want) (closure S.gds 9 key want) (p g (args.toList.map (S.ev (closure S.gds 9 key want))++cap))∧QhT S key want q)∧Qar res fun v=>K (some (key,want)) v []
    | _, _ => Stuck "drawn region a guarded call without a contract")
   |op=>evP tb (fun ex x=>S.ev (ex++closure S.gds 9 key want) x) (Qh S.blks) (Qa1 S (closure S.gds 9 key want) (closure S.gds 9 key want)) op fun v=>K (some (key,want)) v [])
  | _ => Stuck "drawn region guard")
def QuB:Op→Bool
 | .call ⟨.value _,_,_⟩=>true
 |_=>false
theorem Qmc {op:Op} (h:QuB op=true):∃f args tys,op=.call ⟨.value f,args,tys⟩:=by
 unfold QuB at h;split at h
 ·exact⟨_,_,_,rfl⟩
 ·cases h
theorem Qer {P:Program} {tb:Tb} {cs:Nat→Option CS} {ops:List Oper} {j:Nat} {S:St} {K:Option (Nat×Bool)→V→List (Nat×Blk)→Prop} {dst:Option Nat} {op:Op} {ty pos after} (h:QuB op=false):
  Qlj P tb cs ops j ⟨dst,op,ty,pos,after,none⟩ S K=match isN op with
   |true=>evN tb (S.ev []) (Qh S.blks) S.base dst op fun id v blk=>K none v [(id,blk)]
   |false=>evP tb S.ev (Qh S.blks) id op fun v=>K none v []:=by
 cases op<;>first|rfl|skip
 case call c=>
  obtain⟨callee,args,tys⟩:=c
  cases callee<;>first|rfl|(simp[QuB] at h)
def evD (P:Program) (tb:Tb) (cs:Nat→Option CS) (ops:List Oper) (j:Nat) (o:Oper) (S:St) (K:Option (Nat×Bool)→V→List (Nat×Blk)→Prop):Prop:=match cs j with
 |some (.app pre res post)=>(match o.guard with
  |none=>evA tb (S.ev []) (Qh S.blks) pre S.base o.dst o.op (fun v post'=>v=res∧post'=post)∧Qar res fun v=>K none v []
  | some _ => Stuck "drawn region a row grown under a guard")
 |_=>Qlj P tb cs ops j o S K
theorem Qnc {P:Program} {tb:Tb} {cs:Nat→Option CS} {ops:List Oper} {j:Nat} {o:Oper} {S:St} (h:QfB (cs j)=false):evD P tb cs ops j o S=Qlj P tb cs ops j o S:=by
 funext K
 unfold evD;split
 ·rename_i hc;rw[hc] at h;cases h
 ·rfl
theorem Qmd {P:Program} {tb:Tb} {cs:Nat→Option CS} {ops:List Oper} {j:Nat} {o:Oper} {S:St} {K:Option (Nat×Bool)→V→List (Nat×Blk)→Prop} (h:QfB (cs j)=true) (he:evD P tb cs ops j o S K):
  ∃pre res post,cs j=some (.app pre res post)∧o.guard=none∧evA tb (S.ev []) (Qh S.blks) pre S.base o.dst o.op (fun v post'=>v=res∧post'=post)∧K none res []:=by
 unfold evD at he;split at he
 ·rename_i pre res post hc;split at he
  ·rename_i hg;rw[Qw] at he;exact⟨pre,res,post,hc,hg,he.1,he.2⟩
  ·exact he.no.elim
 ·rename_i hno;unfold QfB at h;split at h
  ·rename_i hc;exact absurd hc (hno _ _ _)
  ·cases h
noncomputable def QrE {α:Type} (l:List α):α→(List α→Prop)→Prop:=List.rec (motive:=fun _=>α→(List α→Prop)→Prop) (fun x K=>K [x]) (fun a _ ih x K=>ih x fun l=>K (a::l)) l
noncomputable def QrF (l:List Nat):(List Nat→Prop)→Prop:=List.rec (motive:=fun _=>(List Nat→Prop)→Prop) (fun K=>K []) (fun x _ ih K=>ih fun r=>K (x::r)) l
theorem Qlk (l:List Nat):∀K:List Nat→Prop,QrF l K=K l:=by
 induction l with
 |nil=>intro K;rfl
 |cons x r ih=>intro K;exact ih _
def stK (S:St) (K:St→Prop):Prop:=match S with
 |⟨base,nt,ts,gs,bs,fs⟩=>Qen ts fun ts=>Qe6 gs fun gs=>QaC bs fun bs=>K ⟨base,nt,ts,gs,bs,fs⟩
theorem Qes (S:St) (K:St→Prop):stK S K=K S:=by
 obtain⟨base,nt,ts,gs,bs,fs⟩:=S;simp[stK,QaP,Qbv,ZD]
def evM (P:Program) (tb:Tb) (cs:Nat→Option CS) (ops:List Oper) (dsts:List (Option Nat)) (S0:St):List Oper→Nat→List (List Nat)→List Rs→(List (List Nat)→List Rs→Prop)→Prop
 |[],_,ancs,R,K=>K ancs R
 |o::rest,j,ancs,R,K=>QrF (QbK ancs o) fun anc=>match o.op.operands.toList.all (Qhl dsts anc),(match o.guard with
   |none=>true
   |some (jg,_)=>(match ops[jg]? with
    |some ⟨some key,_,_,_,_,_⟩=>Z3 anc jg&&okT anc key 0 dsts
    |_=>false)) with
  |true,true=>evD P tb cs ops j o (stOf S0 R (Z3 anc)) fun g v nb=>QrE R ⟨o.dst,g,v,nb⟩ fun R'=>evM P tb cs ops dsts S0 rest (j+1) (ancs++[anc]) R' K
  | _, _ => Stuck "drawn region an operand that no forerunner gives"
variable {P:Program} {tb:Tb} {w:World} {ρ:Env} {a:Act} {B:Bd} {w0:World} {F:List (Array Value)} {S:St}
theorem Qjd {α:Type}:∀(l:List α) (x:α) (K:List α→Prop),QrE l x K=K (l++[x])
 |[],x,K=>rfl
 |a::r,x,K=>by show QrE r x (fun l=>K (a::l))=_;rw[Qjd r x];rfl
theorem ZQ:∀ {l:List Nat} {i:Nat},Z3 l i=true↔i∈l
 |[],i=>by simp[Z3]
 |x::r,i=>by
  simp only[Z3];split
  ·rename_i h;simp[Nat.eq_of_beq_eq_true h]
  ·rename_i h;have:x≠i:=fun e=>by subst e;simp at h
   rw[ZQ (l:=r)];simp[Ne.symm this]
theorem Qg {α:Type}:∀(l r:List (Nat×α)) (t:Nat),Qh (l++r) t=(Qh l t).or (Qh r t)
 |[],r,t=>rfl
 |(u,v)::l,r,t=>by
  simp only[List.cons_append,Qh];split
  ·rfl
  ·exact Qg l r t
theorem Qd3 {E:Nat→Bool}:∀ {R:List Rs} {i0 t:Nat} {v:V},Qh (Qc6 E i0 R) t=some v→∃j r,R[j]? =some r∧E (i0+j)=true∧r.dst=some t∧v=r.shown
 |r::R,i0,t,v,h=>by
  simp only[Qc6] at h;have rec_:Qh (Qc6 E (i0+1) R) t=some v→∃j q,(r::R)[j]? =some q∧E (i0+j)=true∧q.dst=some t∧v=q.shown:=fun h=>by
   obtain⟨j,q,h1,h2,h3,h4⟩:=Qd3 h;exact⟨j+1,q,by simpa using h1,by rw[show i0+(j+1)=i0+1+j by omega];exact h2,h3,h4⟩
  split at h
  ·rename_i u hE hd;rcases QT h with ⟨rfl,rfl⟩|⟨_,h⟩
   ·exact⟨0,r,rfl,by simpa using hE,hd,rfl⟩
   ·exact rec_ h
  ·exact rec_ h
 |[],_,_,_,h=>by simp[Qc6,Qh] at h
theorem QgG {E:Nat→Bool}:∀ {R:List Rs} {i0 j t:Nat} {r:Rs},R.Pairwise (fun x y=>∀t,x.dst=some t→y.dst≠some t)→R[j]? =some r→E (i0+j)=true→r.dst=some t→Qh (Qc6 E i0 R) t=some r.shown
 |q::R,i0,0,t,r,hp,hj,hE,hd=>by
  simp at hj;subst hj;have hE':E i0=true:=by simpa using hE
  simp only[Qc6,hE',hd];exact Zk
 |q::R,i0,j+1,t,r,hp,hj,hE,hd=>by
  have hp':=List.pairwise_cons.1 hp;have hj':R[j]? =some r:=by simpa using hj
  have ih:=QgG (E:=E) (i0:=i0+1) hp'.2 hj' (by rw[show i0+1+j=i0+(j+1) by omega];exact hE) hd;simp only[Qc6];split
  ·rename_i u _ hq;have:u≠t:=fun e=>by subst e;exact hp'.1 r (List.mem_of_getElem? hj') u hq hd
   rw[QI this];exact ih
  ·exact ih
 |[],_,_,_,_,_,hj,_,_=>by simp at hj
theorem QaK {E:Nat→Bool}:∀ {R:List Rs} {i0:Nat} {g:Gd},g∈Qdi E i0 R↔ ∃j r,R[j]? =some r∧E (i0+j)=true∧r.dst=some g.t∧r.g=some (g.key,g.want)∧g.v=r.v
 |[],i0,g=>by simp[Qdi]
 |r::R,i0,g=>by
  have ih:=QaK (E:=E) (R:=R) (i0:=i0+1) (g:=g);have step:(∃j q,(r::R)[j]? =some q∧E (i0+j)=true∧q.dst=some g.t∧q.g=some (g.key,g.want)∧g.v=q.v)↔
    (E i0=true∧r.dst=some g.t∧r.g=some (g.key,g.want)∧g.v=r.v)∨g∈Qdi E (i0+1) R:=by
   rw[ih]
   constructor
   ·rintro⟨j,q,h1,h2⟩
    cases j with
    |zero=>simp at h1;subst h1;exact .inl (by simpa using h2)
    |succ j=>exact .inr ⟨j,q,by simpa using h1,by rw[show i0+1+j=i0+(j+1) by omega];exact h2⟩
   ·rintro(h|⟨j,q,h1,h2⟩)
    ·exact⟨0,r,rfl,by simpa using h⟩
    ·exact⟨j+1,q,by simpa using h1,by rw[show i0+(j+1)=i0+1+j by omega];exact h2⟩
  rw[step];simp only[Qdi];split
  ·rename_i t key want hE hd hg;rw[List.mem_cons];refine or_congr ⟨fun h=>?_,fun h=>?_⟩ Iff.rfl
   ·subst h;exact⟨hE,hd,hg,rfl⟩
   ·obtain⟨_,h2,h3,h4⟩:=h;rw[hd] at h2;rw[hg] at h3
    cases h2;cases h3
    cases g;simp at h4;subst h4;rfl
  ·rename_i hno
   constructor
   ·intro h;exact .inr h
   ·rintro(⟨h1,h2,h3,_⟩|h)
    ·exact absurd h3 (fun h3=>hno _ _ _ h1 h2 h3)
    ·exact h
theorem Qll:∀ {gs:List Gd} {t:Nat},Qgw gs t=none→∀g∈gs,g.t≠t
 |x::r,t,h,g,hg=>by
  simp only[Qgw] at h;split at h
  ·cases h
  ·rename_i hb;rcases List.mem_cons.1 hg with hg|hg
   ·subst hg;exact fun e=>by rw[e] at hb;simp at hb
   ·exact Qll h g hg
 |[],_,_,_,hg=>by simp at hg
theorem Jz {E:Nat→Bool}:∀ {R:List Rs} {i0:Nat} {p:Nat×Blk},p∈JO E i0 R↔ ∃j r,R[j]? =some r∧E (i0+j)=true∧p∈r.nb
 |[],i0,p=>by simp[JO]
 |r::R,i0,p=>by
  have ih:=Jz (E:=E) (R:=R) (i0:=i0+1) (p:=p);have step:(∃j q,(r::R)[j]? =some q∧E (i0+j)=true∧p∈q.nb)↔(E i0=true∧p∈r.nb)∨p∈JO E (i0+1) R:=by
   rw[ih]
   constructor
   ·rintro⟨j,q,h1,h2⟩
    cases j with
    |zero=>simp at h1;subst h1;exact .inl (by simpa using h2)
    |succ j=>exact .inr ⟨j,q,by simpa using h1,by rw[show i0+1+j=i0+(j+1) by omega];exact h2⟩
   ·rintro(h|⟨j,q,h1,h2⟩)
    ·exact⟨0,r,rfl,by simpa using h⟩
    ·exact⟨j+1,q,by simpa using h1,by rw[show i0+(j+1)=i0+1+j by omega];exact h2⟩
  rw[step];simp only[JO];split
  ·rename_i hE;simp[hE]
  ·rename_i hE;simp[hE]
theorem Qd4 {α:Type}:∀ {l:List (Nat×α)} {t:Nat} {v:α},Qh l t=some v→(t,v)∈l
 |(u,x)::r,t,v,h=>by
  rcases QT h with ⟨rfl,rfl⟩|⟨_,h⟩
  ·simp
  ·exact List.mem_cons_of_mem _ (Qd4 h)
 |[],_,_,h=>by simp[Qh] at h
theorem QbL {α:Type}:∀ {l:List (Nat×α)} {t:Nat} {v:α},l.Pairwise (fun x y=>x.1≠y.1)→(t,v)∈l→Qh l t=some v
 |(u,x)::r,t,v,hp,h=>by
  have hp':=List.pairwise_cons.1 hp;rcases List.mem_cons.1 h with h|h
  ·cases h;exact Zk
  ·rw[QI (hp'.1 (t,v) h)];exact QbL hp'.2 h
 |[],_,_,_,h=>by simp at h
theorem Sim.congr {base base' nt:Nat} {ts ts':List (Nat×V)} {gs gs':List Gd} {bs bs':List (Nat×Blk)} {fs:List Fr} (h:Sim P B w0 F ρ ⟨base,nt,ts,gs,bs,fs⟩ a w)
  (ht:∀t v,Qh ts' t=some v→Qh ts t=some v) (hg:∀g∈gs',g∈gs) (hb:∀id b,Qh bs' id=some b↔Qh bs id=some b):Sim P B w0 F ρ ⟨base',nt,ts',gs',bs',fs⟩ a w:=by
 have hown:ZM B bs' ρ=ZM B bs ρ:=by
  funext b
  simp only[ZM,own];refine congrArg (· ∨B.frn b) ?_;exact propext ⟨fun⟨i,k,h1,h2⟩=>⟨i,k,(hb i k).1 h1,h2⟩,fun⟨i,k,h1,h2⟩=>⟨i,k,(hb i k).2 h1,h2⟩⟩
 refine⟨h.below,h.tab,h.hB,h.defers,h.nt,?_,?_,fun i j x y hx hy=>h.sep i j x y ((hb _ _).1 hx) ((hb _ _).1 hy),fun i x hx=>h.ge i x ((hb _ _).1 hx),?_⟩
 ·dsimp only;rw[hown];exact⟨fun t v hv=>h.top.tmps t v (ht t v hv),fun g hgm=>h.top.gds g (hg g hgm)⟩
 ·intro id b hbk;dsimp only;rw[hown];exact h.blks id b ((hb _ _).1 hbk)
 ·refine⟨h.frames.1,fun i f tm hf htm=>?_⟩;dsimp only;rw[hown];exact h.frames.2 i f tm hf htm
end Go.Ab
namespace Go.Ab
open Go.RowKit
variable {P:Program} {tb:Tb} {ev ev':List (Nat×Bool)→Operand→V} {blk blk':Nat→Option Blk} {sc:Prop→Prop} {K:V→Prop}
theorem Qnd {ti:TI} {p:V} (hb:∀id b,blk id=some b→blk' id=some b) (h:Qdh ti blk p K):Qdh ti blk' p K:=by
 unfold Qdh at h⊢;split at h
 ·rename_i id row off;split at h
  ·rename_i t cs hbk;simp only[hb _ _ hbk];exact h
  ·rename_i t sz n rw' hbk;simp only[hb _ _ hbk];exact h
  ·exact h.no.elim
 ·exact h
 ·exact h.no.elim
theorem Qqt {ti:TI} {p:V} (h:Qdh ti blk p K):∃v,K v∧Qdh ti blk p (fun u=>u=v):=by
 unfold Qdh at h⊢;split at h
 ·rename_i id row off;split at h
  ·split at h
   ·rw[Qw] at h;exact⟨_,h,by simp[Qw]⟩
   ·exact h.no.elim
  ·split at h
   ·rw[Qw] at h;exact⟨_,h,by simp[Qw]⟩
   ·exact h.no.elim
  ·exact h.no.elim
 ·split at h
  ·rw[Qw] at h;exact⟨_,h,by simp[Qw]⟩
  ·exact h.no.elim
 ·exact h.no.elim
theorem QrG {op k x y} (h:QjO sc op k x y K):∃v,K v∧QjO sc op k x y (fun u=>u=v):=by
 cases op<;>simp only[QjO] at h⊢ <;>first|exact h.no.elim|exact⟨_,h.2,h.1,rfl⟩|exact⟨_,h,rfl⟩
theorem Qet {op:Op} (hx:∀x∈op.operands.toList,∀al,ev al x=ev' al x) (hb:∀id b,blk id=some b→blk' id=some b) (h:evP tb ev blk sc op K):evP tb ev' blk' sc op K:=by
 cases op<;>simp only[Op.operands] at hx<;>simp only[evP] at h⊢ <;>first|exact h.no.elim|skip
 case move x=>rw[←hx x (by simp)];exact h
 case assign x=>rw[←hx x (by simp)];exact h
 case pick c x y=>
  rw[←hx c (by simp)];split at h
  ·rename_i p hp;split at h
   ·rename_i tc;rw[←hx x (by simp)];exact h
   ·rename_i tc hno;rw[hx y (by simp)] at h;exact h
   ·exact h.no.elim
  ·exact h.no.elim
 case build t parts=>
  have e:(parts.toList.map fun p=>(p.1,ev [] p.2))=(parts.toList.map fun p=>(p.1,ev' [] p.2)):=List.map_congr_left fun p hp=>by
   rw[hx p.2 (by simpa using ⟨p.1,by simpa using hp⟩)]
  rw[←e];exact h
 case buildSlice t len parts=>
  have e:(parts.toList.map fun p=>(p.1,ev [] p.2))=(parts.toList.map fun p=>(p.1,ev' [] p.2)):=List.map_congr_left fun p hp=>by
   rw[hx p.2 (by simpa using ⟨p.1,by simpa using hp⟩)]
  rw[←e];exact h
 case load t x=>
  rw[←hx x (by simp)];split at h
  ·exact Qnd hb h
  ·exact h.no.elim
 case nilCheck x=>rw[←hx x (by simp)];exact h
 case binOp op t x y ty=>rw[←hx x (by simp),←hx y (by simp)];exact h
 case unOp op t x=>rw[←hx x (by simp)];exact h
 case convert s t x=>
  rw[←hx x (by simp)]
  revert h
  split
  ·exact id
  ·exact id
  ·split
   ·rename_i hblk;rw[hb _ _ hblk];exact id
   ·exact fun h=>h.no.elim
  ·exact id
 case makeFunc f first captured=>
  have e:captured.toList.map (ev [])=captured.toList.map (ev' []):=List.map_congr_left fun p hp=>by
   rw[hx p (by simp;exact .inr (by simpa using hp))]
  rw[←e];exact h
 case index t x i=>rw[←hx x (by simp),←hx i (by simp)];exact h
 case fieldAddr s x f=>rw[←hx x (by simp)];exact h
 case field s x f=>rw[←hx x (by simp)];exact h
 case indexAddr t x i=>
  rw[←hx x (by simp),←hx i (by simp)];split at h
  ·split at h
   ·split at h
    ·rename_i hbk;simp only[hb _ _ hbk];exact h
    ·rename_i hbk;simp only[hb _ _ hbk];exact h
    ·exact h.no.elim
   ·exact h
   ·exact h.no.elim
  ·exact h.no.elim
 case slice t x lo hi mx=>
  have hlo:lo.map (ev [])=lo.map (ev' []):=by
   cases lo with
   |none=>rfl
   |some y=>simp only[Option.map_some];rw[hx y (by simp)]
  have hhi:hi.map (ev [])=hi.map (ev' []):=by
   cases hi with
   |none=>rfl
   |some y=>simp only[Option.map_some];rw[hx y (by simp)]
  rw[←hx x (by simp),←hlo,←hhi];split at h
  ·split at h
   ·split at h
    ·split at h
     ·rename_i hbk _ _;simp only[hb _ _ hbk];rename_i h1 h2;simp only[h1,h2];exact h
     ·exact h.no.elim
    all_goals exact h
   ·exact h
   ·exact h.no.elim
  ·exact h.no.elim
 case extract x i=>rw[←hx x (by simp)];exact h
 case call c=>
  split at h
  ·rename_i hcal;split at h
   ·rename_i x t hargs htys;rw[←hx x (by simp[Call.operands,hcal,hargs])];exact h
   ·exact h.no.elim
  ·rename_i hcal;split at h
   ·rename_i x y hargs;rw[←hx x (by simp[Call.operands,hcal,hargs]),←hx y (by simp[Call.operands,hcal,hargs])];exact h
   ·exact h.no.elim
  ·rename_i hcal;split at h
   ·rename_i x y hargs;rw[←hx x (by simp[Call.operands,hcal,hargs]),←hx y (by simp[Call.operands,hcal,hargs])];exact h
   ·exact h.no.elim
  ·exact h.no.elim
theorem Qvk {op:Op} (h:evP tb ev blk sc op K):∃v,K v∧evP tb ev blk sc op (fun u=>u=v):=by
 cases op<;>simp only[evP,Qw,Q2,Qdw] at h⊢ <;>first|exact h.no.elim|skip
 case load t x=>
  split at h
  ·exact Qqt h
  ·exact h.no.elim
 case binOp op t x y ty=>
  split at h
  ·split at h
   ·exact QrG h
   ·exact h.no.elim
  all_goals (repeat' split at h)
  all_goals first
   |exact h.no.elim
   |exact⟨_,h.2,h.1,rfl⟩
   |exact⟨_,h,by simp_all⟩
 case call c=>
  split at h
  ·repeat' split at h
   all_goals first
    |exact h.no.elim
    |exact⟨_,h,by simp_all⟩
  ·rename_i hc;split at h
   ·rename_i x y ha;split at h
    ·rename_i hx hy;exact⟨_,h,by simp only[hc,ha,hx,hy]⟩
    ·exact h.no.elim
   ·exact h.no.elim
  ·rename_i hc;split at h
   ·rename_i x y ha;split at h
    ·rename_i hx hy;exact⟨_,h,by simp only[hc,ha,hx,hy]⟩
    ·exact h.no.elim
   ·exact h.no.elim
  ·exact h.no.elim
 all_goals (repeat' split at h)
 all_goals first
  |exact h.no.elim
  |exact h.2.no.elim
  |exact⟨_,h,by simp_all⟩
  |exact⟨_,h.2,by simp_all⟩
  |exact⟨_,h,rfl⟩
end Go.Ab
namespace Go.Ab
open Go.RowKit
def QkF (f:Nat→Rs→Bool):Nat→List Rs→Bool
 |_,[]=>true
 |i,r::rs=>match f i r with
  |true=>QkF f (i+1) rs
  |false=>false
theorem Qaz {f:Nat→Rs→Bool}:∀ {R:List Rs} {i0:Nat},QkF f i0 R=true→∀(j:Nat) (r:Rs),R[j]? =some r→f (i0+j) r=true
 |q::R,i0,h,j,r,hj=>by
  simp only[QkF] at h;split at h
  ·rename_i hf
   cases j with
   |zero=>simp at hj;subst hj;simpa using hf
   |succ j=>rw[show i0+(j+1)=i0+1+j by omega];exact Qaz h j r (by simpa using hj)
  ·cases h
 |[],_,_,_,_,hj=>by simp at hj
def Qlm:List Nat→Bool
 |[]=>true
 |x::r=>!Z3 r x&&Qlm r
theorem QjZ:∀ {l:List Nat},Qlm l=true→l.Pairwise (fun x y=>x≠y)
 |[],_=>.nil
 |x::r,h=>by
  simp only[Qlm,Bool.and_eq_true,Bool.not_eq_true'] at h;refine List.pairwise_cons.2 ⟨fun y hy e=>?_,QjZ h.2⟩;subst e;rw[ZQ.2 hy] at h;cases h.1
def Qtn:Option Nat→Option Nat→Bool
 |some a,some b=>!Nat.beq a b
 |_,_=>true
def Qgj (S0:St) (ancs:List (List Nat)) (R:List Rs):Bool:=
 QkF (fun i ri=>QkF (fun j rj=>Nat.beq i j||Qtn ri.dst rj.dst) 0 R) 0 R&&
 (Qlm ((JO (fun _=>true) 0 R).map (·.1))&&
 (QkF (fun _ ri=>ri.nb.all fun p=>!S0.mentions p.1) 0 R&&
 (QkF (fun i ri=>QkF (fun j rj=>Nat.beq i j||(Z3 (nth ancs i) j||rj.nb.all fun p=>!ri.v.mentions p.1&&ri.nb.all fun q=>!q.2.mentions p.1)) 0 R) 0 R&&
 QkF (fun _ ri=>match ri.dst with|some t=>Nat.blt t S0.nt&&(match ri.g with|some (k,_)=>!Nat.beq k t|none=>true)|none=>(match ri.nb with|[]=>true|_=>false)) 0 R)))
def Qto (j:Nat):List Nat→Bool
 |[]=>true
 |i::r=>Nat.blt i j&&Qto j r
def forced (m:Nat):Nat→List Oper→Bool
 |_,[]=>true
 |k,o::r=>(Nat.blt k m||(List.range k).all (Z3 (Zq o.after.toList)))&&forced m (k+1) r
def Qcu:Nat→List Oper→Bool
 |_,[]=>true
 |k,o::r=>Qto k (Zq o.after.toList)&&Qcu (k+1) r
def Qop (dsts:List (Option Nat)) (S:St):St:=match S with
 |⟨base,nt,ts,_,bs,fs⟩=>⟨base,nt,Qmb dsts ts,[],bs,fs⟩
variable {P:Program} {tb:Tb} {w:World} {ρ:Env} {a:Act} {B:Bd} {w0:World} {F:List (Array Value)} {S:St}
theorem Qoq {ev:Operand→V} {blk:Nat→Option Blk} {base:Nat} {dst:Option Nat} {op:Op} {K:Nat→V→Blk→Prop} (h:evN tb ev blk base dst op K):∃i v b,K i v b∧evN tb ev blk base dst op (fun i' v' b'=>i'=i∧v'=v∧b'=b):=by
 cases op<;>simp only[evN,Q2,St.idK_eq] at h⊢ <;>first|exact h.no.elim|skip
 case makeSlice t l c=>
  split at h
  ·split at h
   ·obtain⟨hc,n1,rw1,h1,h2,h3⟩:=h;exact⟨_,_,_,h3,hc,n1,rw1,h1,h2,rfl,rfl,rfl⟩
   ·exact h.no.elim
  ·exact h.no.elim
 case buildSlice t len parts=>
  split at h
  ·split at h
   ·split at h
    ·split at h
     ·obtain⟨n1,rw1,h1,h2,h3⟩:=h;exact⟨_,_,_,h3,n1,rw1,h1,h2,rfl,rfl,rfl⟩
     ·exact h.no.elim
    ·exact h.no.elim
   ·exact h.no.elim
  ·exact h.no.elim
 case call c=>
  split at h
  ·split at h
   ·split at h
    ·split at h
     ·split at h
      ·obtain⟨hb,n1,rw1,h1,h2,h3⟩:=h;exact⟨_,_,_,h3,hb,n1,rw1,h1,h2,rfl,rfl,rfl⟩
      ·exact h.no.elim
     ·exact h.no.elim
    ·exact h.no.elim
   ·exact h.no.elim
  ·exact h.no.elim
 all_goals (repeat' split at h)
 all_goals first
  |exact h.no.elim
  |exact⟨_,_,_,h,by simp_all⟩
theorem Qtp {ev:Operand→V} {blk:Nat→Option Blk} {base:Nat} {dst:Option Nat} {op:Op} {K K':Nat→V→Blk→Prop} (h:evN tb ev blk base dst op K) (hk:∀i v b,K i v b→K' i v b):evN tb ev blk base dst op K':=by
 cases op<;>simp only[evN,Q2,St.idK_eq] at h⊢ <;>first|exact h.no.elim|skip
 case makeSlice t l c=>
  split at h
  ·split at h
   ·obtain⟨hc,n1,rw1,h1,h2,h3⟩:=h;exact⟨hc,n1,rw1,h1,h2,hk _ _ _ h3⟩
   ·exact h.no.elim
  ·exact h.no.elim
 case buildSlice t len parts=>
  split at h
  ·split at h
   ·split at h
    ·split at h
     ·obtain⟨n1,rw1,h1,h2,h3⟩:=h;exact⟨n1,rw1,h1,h2,hk _ _ _ h3⟩
     ·exact h.no.elim
    ·exact h.no.elim
   ·exact h.no.elim
  ·exact h.no.elim
 case call c=>
  split at h
  ·split at h
   ·split at h
    ·split at h
     ·split at h
      ·obtain⟨hb,n1,rw1,h1,h2,h3⟩:=h;exact⟨hb,n1,rw1,h1,h2,hk _ _ _ h3⟩
      ·exact h.no.elim
     ·exact h.no.elim
    ·exact h.no.elim
   ·exact h.no.elim
  ·exact h.no.elim
 all_goals (repeat' split at h)
 all_goals first
  |exact h.no.elim
  |exact hk _ _ _ h
theorem Qor {ti:TI} {blk:Nat→Option Blk} {p:V} {K K':V→Prop} (h:Qdh ti blk p K) (hk:∀v,K v→K' v):Qdh ti blk p K':=by
 unfold Qdh at h⊢
 repeat' split at h
 all_goals first|exact h.no.elim|(rw[Qw] at h;simp_all [Qw])
theorem Qqu {sc:Prop→Prop} {op k x y} {K K':V→Prop} (h:QjO sc op k x y K) (hk:∀v,K v→K' v):QjO sc op k x y K':=by
 cases op<;>simp only[QjO] at h⊢ <;>first|exact h.no.elim|exact⟨h.1,hk _ h.2⟩|exact hk _ h
theorem Qtq {ev:List (Nat×Bool)→Operand→V} {blk:Nat→Option Blk} {sc:Prop→Prop} {op:Op} {K K':V→Prop} (h:evP tb ev blk sc op K) (hk:∀v,K v→K' v):evP tb ev blk sc op K':=by
 cases op<;>simp only[evP,Qw,Q2,Qdw] at h⊢ <;>first|exact h.no.elim|skip
 case load t x=>
  split at h
  ·exact Qor h hk
  ·exact h.no.elim
 case binOp op t x y ty=>
  split at h
  ·split at h
   ·exact Qqu h hk
   ·exact h.no.elim
  all_goals (repeat' split at h)
  all_goals first
   |exact h.no.elim
   |exact⟨h.1,hk _ h.2⟩
   |(have:=hk _ h;simp_all)
 case call c=>
  split at h
  ·repeat' split at h
   all_goals first
    |exact h.no.elim
    |exact hk _ h
    |(have:=hk _ h;simp_all)
  ·split at h
   ·split at h
    ·exact hk _ h
    ·exact h.no.elim
   ·exact h.no.elim
  ·split at h
   ·split at h
    ·exact hk _ h
    ·exact h.no.elim
   ·exact h.no.elim
  ·exact h.no.elim
 all_goals (repeat' split at h)
 all_goals first
  |exact h.no.elim
  |exact h.2.no.elim
  |exact hk _ h
  |(have:=hk _ h;simp_all)
  |(have:=hk _ h.2;simp_all)
theorem Qds {blk blk':Nat→Option Blk} {sz:Nat} {v:V} {x:Nat×(Nat→List D)} (hb:∀i b,blk i=some b→blk' i=some b) (h:J7 blk sz v=some x):J7 blk' sz v=some x:=by
 cases v with
 |osl i o l=>
  simp only[J7] at h⊢;split at h
  ·rename_i hl;rw[hb _ _ hl];exact h
  ·cases h
 |d x=>cases x<;>exact h
 |_=>exact h
theorem Qf0 {c:Call} {x:Operand} (h:x∈c.args.toList):x∈(Op.operands (.call c)).toList:=by
 have h':x∈c.args:=by simpa using h
 obtain⟨f,args,tys⟩:=c
 cases f<;>simp_all [Op.operands,Call.operands]
theorem QfC {ev ev':Operand→V} {blk blk':Nat→Option Blk} {base:Nat} {dst:Option Nat} {op:Op} {K:Nat→V→Blk→Prop} (hx:∀x∈op.operands.toList,ev x=ev' x) (hb:∀i b,blk i=some b→blk' i=some b) (h:evN tb ev blk base dst op K):evN tb ev' blk' base dst op K:=by
 cases op<;>simp only[evN] at h⊢ <;>first|exact h.no.elim|skip
 case alloc t=>exact h
 case box t x=>rw[←hx x (by simp[Op.operands])];exact h
 case makeSlice t l c=>rw[←hx l (by simp[Op.operands]),←hx c (by simp[Op.operands])];exact h
 case call c=>
  split at h
  ·split at h
   ·rename_i s x t t' hargs htys;have e1:ev s=ev' s:=hx s (Qf0 (by rw[hargs];simp));have e2:ev x=ev' x:=hx x (Qf0 (by rw[hargs];simp));rw[e1,e2] at h;split at h
    ·split at h
     ·split at h
      ·rename_i h1 h2;rw[h1,Qds hb h2];exact h
      ·exact h.no.elim
     ·exact h.no.elim
    ·exact h.no.elim
   ·exact h.no.elim
  ·exact h.no.elim
 case buildSlice t len parts=>
  have e:(parts.toList.map fun p=>(p.1,ev p.2))=(parts.toList.map fun p=>(p.1,ev' p.2)):=List.map_congr_left fun p hp=>by
   rw[hx p.2 (by simpa[Op.operands] using ⟨p.1,by simpa using hp⟩)]
  rw[←e];exact h
theorem QrH {dst:Option Nat} {op:Op} {K:Nat→V→Blk→Prop} (hm:∀t,dst=some t→S.mentions (St.idOf S.base t)=false) (h:evN tb (S.ev []) (Qh S.blks) S.base dst op K):
  evE tb dst op S (fun v S'=>∃i b,K i v b∧S'=⟨S.base,S.nt,S.tmps,S.gds,(i,b)::S.blks,S.frames⟩):=by
 obtain⟨base,nt,ts,gs,bs,fs⟩:=S
 cases op<;>simp only[evN,St.idK_eq,Q2] at h<;>first|exact h.no.elim|skip
 all_goals simp only[evE,St.idK_eq,Q2]
 all_goals dsimp only at hm
 case alloc t=>
  split at h
  ·rename_i ti d hti hbl;simp only[hti,hbl,hm d rfl];exact⟨_,_,h,rfl⟩
  ·exact h.no.elim
 case box t x=>
  split at h
  ·rename_i d hst hbl;simp only[hm d rfl,hst,hbl,Bool.not_true,Bool.or_self];exact⟨_,_,h,rfl⟩
  ·exact h.no.elim
 case call c=>
  split at h
  case h_2=>exact h.no.elim
  rename_i hcal;split at h
  case h_2=>exact h.no.elim
  rename_i s x t t' hargs htys;split at h
  case h_2=>exact h.no.elim
  rename_i e s1 s2 s3 s4 e' q1 q2 q3 q4 d hti hti';split at h
  case h_2=>exact h.no.elim
  rename_i kk sz byt zz qq hte;split at h
  case h_2=>exact h.no.elim
  rename_i m r' hs hx;obtain⟨hb,n1,rw1,g1,g2,g3⟩:=h;simp only[hcal,hargs,htys,hti,hti',hte,hx];rw[hs];simp only[J7,hm d rfl];exact⟨hb,n1,rw1,g1,g2,_,_,g3,rfl⟩
 case makeSlice t l c=>
  split at h
  ·rename_i e s1 s2 s3 s4 d hti;split at h
   ·rename_i h1 h2 h3;simp only[hti,h1,h2,h3,hm d rfl];obtain⟨hc,n1,rw1,g1,g2,g3⟩:=h;exact⟨hc,n1,rw1,g1,g2,_,_,g3,rfl⟩
   ·exact h.no.elim
  ·exact h.no.elim
 case buildSlice t len parts=>
  split at h
  ·rename_i e s1 s2 s3 s4 d hti;split at h
   ·rename_i h1;split at h
    ·rename_i h2 h3;split at h
     ·rename_i h4;simp only[hti,h1,h2,h3,h4,hm d rfl];obtain⟨n1,rw1,g1,g2,g3⟩:=h;exact⟨n1,rw1,g1,g2,_,_,g3,rfl⟩
     ·exact h.no.elim
    ·exact h.no.elim
   ·exact h.no.elim
  ·exact h.no.elim
theorem Qtr {cs:Nat→Option CS} {ops:List Oper} {j:Nat} {o:Oper} {K:Option (Nat×Bool)→V→List (Nat×Blk)→Prop} (h:Qlj P tb cs ops j o S K):
  ∃g v nb,K g v nb∧Qlj P tb cs ops j o S (fun g' v' nb'=>g'=g∧v'=v∧nb'=nb):=by
 have kP:∀ {ev blk sc op} {K:V→Prop} {K':V→V→Prop},evP tb ev blk sc op K→(∀v,K' v v)→∃v,K v∧evP tb ev blk sc op (K' v):=by
  intro ev blk sc op K K' h hr;obtain⟨v,h1,h2⟩:=Qvk h;exact⟨v,h1,Qtq h2 fun u hu=>by subst hu;exact hr _⟩
 obtain⟨dst,op,ty,pos,after,guard⟩:=o
 cases guard with
 |none=>
  cases hv:QuB op
  ·rw[Qer hv] at h;simp only[Qer hv]
   cases hN:isN op<;>simp only[hN] at h⊢
   ·obtain⟨v,h1,h2⟩:=kP (K':=fun v u=>(none:Option (Nat×Bool))=none∧u=v∧([]:List (Nat×Blk))=[]) h (fun v=>⟨rfl,rfl,rfl⟩);exact⟨_,_,_,h1,h2⟩
   ·obtain⟨i,v,b,h1,h2⟩:=Qoq h;exact⟨_,_,_,h1,Qtp h2 fun i' v' b' ⟨e1,e2,e3⟩=>by subst e1 e2 e3;exact⟨rfl,rfl,rfl⟩⟩
  ·obtain⟨f,args,tys,rfl⟩:=Qmc hv;simp only[Qlj] at h⊢;split at h
   ·rename_i h1 h2;rw[Qw] at h;exact⟨_,_,_,h.2,h.1,by simp[Qw]⟩
   ·rename_i h1 h2;rw[Qw] at h;exact⟨_,_,_,h.2,h.1,by simp[Qw]⟩
   ·exact h.no.elim
 |some gd=>
  obtain⟨jg,want⟩:=gd;simp only[Qlj] at h⊢;split at h
  ·rename_i key _ _ _ _ _ hjg
   cases op<;>try simp only at h⊢
   case call c=>
    obtain⟨callee,args,tys⟩:=c
    cases callee<;>try simp only at h⊢
    case value f=>
     split at h
     ·rename_i h1 h2;rw[Qw] at h;exact⟨_,_,_,h.2,h.1,by simp[Qw]⟩
     ·rename_i h1 h2;rw[Qw] at h;exact⟨_,_,_,h.2,h.1,by simp[Qw]⟩
     ·exact h.no.elim
    all_goals (obtain⟨v,h1,h2⟩:=kP (K':=fun v u=>some (key,want)=some (key,want)∧u=v∧([]:List (Nat×Blk))=[]) h (fun v=>⟨rfl,rfl,rfl⟩);exact⟨_,_,_,h1,h2⟩)
   all_goals (obtain⟨v,h1,h2⟩:=kP (K':=fun v u=>some (key,want)=some (key,want)∧u=v∧([]:List (Nat×Blk))=[]) h (fun v=>⟨rfl,rfl,rfl⟩);exact⟨_,_,_,h1,h2⟩)
  ·exact h.no.elim
theorem Qvl {cs:Nat→Option CS} {ops:List Oper} {j:Nat} {o:Oper} {K:Option (Nat×Bool)→V→List (Nat×Blk)→Prop} (h:evD P tb cs ops j o S K):
  ∃g v nb,K g v nb∧evD P tb cs ops j o S (fun g' v' nb'=>g'=g∧v'=v∧nb'=nb):=by
 cases ha:QfB (cs j)
 ·rw[Qnc ha] at h⊢;exact Qtr h
 ·obtain⟨pre,res,post,hc,hg,h1,h2⟩:=Qmd ha h;refine⟨none,res,[],h2,?_⟩;unfold evD;rw[hc,hg];simp only[Qw];exact⟨h1,trivial,trivial,trivial⟩
end Go.Ab
namespace Go.Ab
open Go.RowKit
variable {P:Program} {tb:Tb} {w:World} {ρ:Env} {a:Act} {B:Bd} {w0:World} {F:List (Array Value)} {S:St}
theorem Qln:∀(A:List (List Nat)) (j:Nat),nth A j=(A[j]?).getD []
 |[],j=>by simp[nth]
 |a::r,0=>by simp[nth]
 |a::r,j+1=>by simpa[nth] using Qln r j
theorem Qhn {A:List (List Nat)} {j i:Nat} (h:i<j):nth (A.take j) i=nth A i:=by
 rw[Qln,Qln,List.getElem?_take,if_pos h]
theorem Qj0 {A:List (List Nat)} {i:Nat}:∀ {es:List Nat},i∈ancIn A es↔ ∃e∈es,i=e∨i∈nth A e
 |[]=>by simp[ancIn]
 |e::r=>by
  have ih:=Qj0 (A:=A) (i:=i) (es:=r);simp only[ancIn,List.mem_cons,List.mem_append,ih]
  constructor
  ·rintro(h|h|⟨e',h1,h2⟩)
   ·exact⟨e,.inl rfl,.inl h⟩
   ·exact⟨e,.inl rfl,.inr h⟩
   ·exact⟨e',.inr h1,h2⟩
  ·rintro⟨e',h1|h1,h2⟩
   ·subst h1;rcases h2 with h2|h2
    ·exact .inl h2
    ·exact .inr (.inl h2)
   ·exact .inr (.inr ⟨e',h1,h2⟩)
theorem Qlo {j:Nat}:∀ {l:List Nat},Qto j l=true→∀i∈l,i<j
 |x::r,h,i,hi=>by
  simp only[Qto,Bool.and_eq_true] at h;rcases List.mem_cons.1 hi with hi|hi
  ·subst hi;simpa[Nat.blt_eq] using h.1
  ·exact Qlo h.2 i hi
 |[],_,_,hi=>by simp at hi
theorem Qbc:∀ {os:List Oper} {k:Nat},Qcu k os=true→∀(i:Nat) (o:Oper),os[i]? =some o→∀e∈Zq o.after.toList,e<k+i
 |q::os,k,h,i,o,hi,e,he=>by
  simp only[Qcu,Bool.and_eq_true] at h
  cases i with
  |zero=>simp at hi;subst hi;simpa using Qlo h.1 e he
  |succ i=>
   have:=Qbc h.2 i o (by simpa using hi) e he;omega
 |[],_,_,_,_,hi,_,_=>by simp at hi
theorem Qaq:∀ {es:List Edge} {i:Nat},i∈Zq es↔ ∃e∈es,Region.binds .any e=true∧e.on=i
 |[],i=>by simp[Zq]
 |e::r,i=>by
  have ih:=Qaq (es:=r) (i:=i);simp only[Zq];split
  ·rename_i hb;simp only[List.mem_cons,ih]
   constructor
   ·rintro(h|⟨e',h1,h2⟩)
    ·exact⟨e,.inl rfl,hb,h.symm⟩
    ·exact⟨e',.inr h1,h2⟩
   ·rintro⟨e',h1|h1,h2⟩
    ·subst h1;exact .inl h2.2.symm
    ·exact .inr ⟨e',h1,h2⟩
  ·rename_i hb;simp only[List.mem_cons,ih]
   constructor
   ·rintro⟨e',h1,h2⟩;exact⟨e',.inr h1,h2⟩
   ·rintro⟨e',h1|h1,h2⟩
    ·subst h1;rw[hb] at h2;cases h2.1
    ·exact⟨e',h1,h2⟩
def Qxv (P:Program) (tb:Tb) (cs:Nat→Option CS) (ops:List Oper) (dsts:List (Option Nat)) (S0:St) (A:List (List Nat)) (R:List Rs) (j:Nat) (o:Oper):Prop:=
 ∃r,R[j]? =some r∧nth A j=QbK (A.take j) o∧r.dst=o.dst∧(∀x∈o.op.operands.toList,Qhl dsts (nth A j) x=true)∧
  (∀jg want,o.guard=some (jg,want)→∃oj key,ops[jg]? =some oj∧oj.dst=some key∧jg∈nth A j∧okT (nth A j) key 0 dsts=true)∧
  evD P tb cs ops j o (stOf S0 (R.take j) (Z3 (nth A j))) (fun g v nb=>g=r.g∧v=r.v∧nb=r.nb)
theorem Qj1 {cs:Nat→Option CS} {ops:List Oper} {dsts:List (Option Nat)} {S0:St}:∀(rest:List Oper) (j:Nat) (A:List (List Nat)) (R:List Rs) (K:List (List Nat)→List Rs→Prop),A.length=j→R.length=j→
  evM P tb cs ops dsts S0 rest j A R K→∃A' R',A'.length=j+rest.length∧R'.length=j+rest.length∧A'.take j=A∧R'.take j=R∧K A' R'∧∀(i:Nat) (o:Oper),rest[i]? =some o→Qxv P tb cs ops dsts S0 A' R' (j+i) o
 |[],j,A,R,K,hA,hR,h=>⟨A,R,by simpa using hA,by simpa using hR,by rw[←hA];simp,by rw[←hR];simp,h,fun i o hi=>by simp at hi⟩
 |o::rest,j,A,R,K,hA,hR,h=>by
  simp only[evM,Qlk,Qes] at h;split at h
  case h_2=>exact h.no.elim
  rename_i h1 h2;obtain⟨g,v,nb,h3,h4⟩:=Qvl h;rw[Qjd] at h3;obtain⟨A',R',e1,e2,e3,e4,e5,e6⟩:=Qj1 rest (j+1) (A++[QbK A o]) (R++[⟨o.dst,g,v,nb⟩]) K (by simp[hA]) (by simp[hR]) h3;have hAj:A'.take j=A:=by
   have:(A'.take (j+1)).take j=A:=by rw[e3,←hA];simp
   rwa[List.take_take,Nat.min_eq_left (by omega)] at this
  have hRj:R'.take j=R:=by
   have:(R'.take (j+1)).take j=R:=by rw[e4,←hR];simp
   rwa[List.take_take,Nat.min_eq_left (by omega)] at this
  have hAn:nth A' j=QbK A o:=by
   rw[←Qhn (A:=A') (j:=j+1) (by omega),e3,Qln,←hA];simp
  have hRn:R'[j]? =some ⟨o.dst,g,v,nb⟩:=by
   have:(R'.take (j+1))[j]? =some ⟨o.dst,g,v,nb⟩:=by rw[e4,←hR];simp
   rwa[List.getElem?_take,if_pos (by omega)] at this
  refine⟨A',R',by rw[e1];simp;omega,by rw[e2];simp;omega,hAj,hRj,e5,fun i o' hi=>?_⟩
  cases i with
  |succ i=>rw[show j+(i+1)=j+1+i by omega];exact e6 i o' (by simpa using hi)
  |zero=>
   simp at hi;subst hi;refine⟨⟨o.dst,g,v,nb⟩,hRn,by rw[Nat.add_zero,hAj];exact hAn,rfl,fun x hx=>?_,fun jg want hg=>?_,?_⟩
   ·rw[Nat.add_zero,hAn];exact List.all_eq_true.1 h1 x hx
   ·rw[Nat.add_zero,hAn];rw[hg] at h2;dsimp only at h2;split at h2
    ·rename_i key q1 q2 q3 q4 q5 hjg;simp only[Bool.and_eq_true] at h2;exact⟨_,key,hjg,rfl,ZQ.1 h2.1,h2.2⟩
    ·cases h2
   ·rw[Nat.add_zero,hAn,hRj];exact h4
structure Walked (P:Program) (tb:Tb) (cs:Nat→Option CS) (m:Nat) (ops:List Oper) (S0:St) (A:List (List Nat)) (R:List Rs):Prop where
 hm:R.length=m
 facts:∀(j:Nat) (o:Oper),j<m→ops[j]? =some o→Qxv P tb cs ops ((ops.take m).map (·.dst)) S0 A R j o
 lt:∀(j:Nat) (o:Oper),ops[j]? =some o→∀e∈Zq o.after.toList,e<j
 dsts:R.map (·.dst)=(ops.take m).map (·.dst)
 ne:∀(i j:Nat) (ri rj:Rs),R[i]? =some ri→R[j]? =some rj→i≠j→∀t,ri.dst=some t→rj.dst≠some t
 ids:(JO (fun _=>true) 0 R).Pairwise fun x y=>x.1≠y.1
 new:∀(i:Nat) (ri:Rs),R[i]? =some ri→∀p∈ri.nb,S0.mentions p.1=false
 ment:∀(i j:Nat) (ri rj:Rs),R[i]? =some ri→R[j]? =some rj→i≠j→j∉nth A i→∀p∈rj.nb,ri.v.mentions p.1=false∧∀q∈ri.nb,q.2.mentions p.1=false
 slots:∀(i:Nat) (ri:Rs),R[i]? =some ri→(ri.dst=none∧ri.nb=[])∨ ∃t,ri.dst=some t∧t<S0.nt∧∀k b,ri.g=some (k,b)→k≠t
 mask:∀(i:Nat) (ri:Rs) (t:Nat),R[i]? =some ri→ri.dst=some t→Qh S0.tmps t=none
 len:m≤ops.length
theorem Qf1 {ds:List (Option Nat)} {t:Nat} (ht:some t∈ds):∀(ts:List (Nat×V)),Qh (Qmb ds ts) t=none
 |[]=>rfl
 |(u,v)::r=>by
  simp only[Qmb];split
  ·exact Qf1 ht r
  ·rename_i hf;rw[QI fun e=>?_]
   ·exact Qf1 ht r
   ·subst e;rw[List.any_eq_false] at hf;have:=hf _ ht;simp at this
theorem Qne {cs:Nat→Option CS} {m:Nat} {ops:List Oper} {S:St} {A:List (List Nat)} {R:List Rs} (hlen:R.length=(ops.take m).length) (hml:m≤ops.length)
  (hf:∀(i:Nat) (o:Oper),(ops.take m)[i]? =some o→Qxv P tb cs ops ((ops.take m).map (·.dst)) (Qop ((ops.take m).map (·.dst)) S) A R (0+i) o) (he:Qcu 0 ops=true) (hc:Qgj (Qop ((ops.take m).map (·.dst)) S) A R=true):
  Walked P tb cs m ops (Qop ((ops.take m).map (·.dst)) S) A R:=by
 simp only[Qgj,Bool.and_eq_true] at hc;obtain⟨c1,c2,c3,c4,c5⟩:=hc;have hmlen:R.length=m:=by rw[hlen];simp;omega
 have hdst:R.map (·.dst)=(ops.take m).map (·.dst):=by
  apply List.ext_getElem?
  intro i;simp only[List.getElem?_map]
  cases ho:(ops.take m)[i]? with
  |none=>
   have:R[i]? =none:=by
    rw[List.getElem?_eq_none_iff] at ho⊢;omega
   simp[this]
  |some o=>
   obtain⟨r,h1,_,h3,_⟩:=hf i o ho;rw[Nat.zero_add] at h1;simp[h1,h3]
 refine⟨hmlen,fun j o hj ho=>?_,fun j o ho e hee=>?_,hdst,fun i j ri rj hi hj hne t ht hjt=>?_,?_,fun i ri hi p hp=>?_,fun i j ri rj hi hj hne hnot p hp=>?_,fun i ri hi=>?_,fun i ri t hi ht=>?_,hml⟩
 ·have:=hf j o (by rw[List.getElem?_take,if_pos hj];exact ho);rwa[Nat.zero_add] at this
 ·have:=Qbc he j o ho e hee;omega
 ·have:=Qaz (Qaz c1 i ri hi) j rj hj;rw[Nat.zero_add,Nat.zero_add] at this;simp only[Bool.or_eq_true] at this;rcases this with h|h
  ·exact hne (Nat.eq_of_beq_eq_true h)
  ·rw[ht,hjt] at h;simp[Qtn] at h
 ·have:=QjZ c2;rw[List.pairwise_map] at this;exact this
 ·have:=Qaz c3 i ri hi;have:=List.all_eq_true.1 this p hp;simpa using this
 ·have:=Qaz (Qaz c4 i ri hi) j rj hj;rw[Nat.zero_add,Nat.zero_add] at this;simp only[Bool.or_eq_true] at this;rcases this with h|h|h
  ·exact absurd (Nat.eq_of_beq_eq_true h) hne
  ·exact absurd (ZQ.1 h) hnot
  ·have:=List.all_eq_true.1 h p hp;simp only[Bool.and_eq_true,Bool.not_eq_true'] at this;refine⟨this.1,fun q hq=>?_⟩;have:=List.all_eq_true.1 this.2 q hq;simpa using this
 ·have:=Qaz c5 i ri hi;split at this
  ·rename_i t ht;simp only[Bool.and_eq_true] at this;refine .inr ⟨t,ht,by simpa[Nat.blt_eq] using this.1,fun k b hg e=>?_⟩;rw[hg] at this;subst e;simp at this
  ·rename_i ht;split at this
   ·rename_i hnb;exact .inl ⟨ht,hnb⟩
   ·cases this
 ·have:some t∈(ops.take m).map (·.dst):=by
   rw[←hdst,←ht];exact List.mem_map.2 ⟨ri,List.mem_of_getElem? hi,rfl⟩
  obtain⟨base,nt,ts,gs,bs,fs⟩:=S;exact Qf1 this ts
end Go.Ab
namespace Go.Ab
open Go.RowKit
variable {P:Program} {tb:Tb} {w:World} {ρ:Env} {a:Act} {B:Bd} {w0:World} {F:List (Array Value)}
 {cs:Nat→Option CS} {m:Nat} {ops:List Oper} {S0:St} {A:List (List Nat)} {R:List Rs}
theorem Qpo {anc:List Nat} {t:Nat}:∀ {ds:List (Option Nat)} {i0:Nat},okT anc t i0 ds=true→∀i,ds[i]? =some (some t)→i0+i∈anc
 |d::r,i0,h,i,hi=>by
  simp only[okT] at h
  cases i with
  |zero=>
   simp at hi;subst hi;split at h
   ·cases h
   ·rename_i hno
    cases hm:Z3 anc i0
    ·exact absurd hm (hno (by simp))
    ·simpa using ZQ.1 hm
  |succ i=>
   rw[show i0+(i+1)=i0+1+i by omega];split at h
   ·cases h
   ·exact Qpo h i (by simpa using hi)
 |[],_,_,_,hi=>by simp at hi
theorem Walked.anc (W:Walked P tb cs m ops S0 A R) {j:Nat} {o:Oper} (hj:j<m) (ho:ops[j]? =some o) {i:Nat}:i∈nth A j↔ ∃e∈Zq o.after.toList,i=e∨i∈nth A e:=by
 obtain⟨r,h1,h2,_⟩:=W.facts j o hj ho;rw[h2,QbK,Qj0]
 constructor
 ·rintro⟨e,he,h⟩;rw[Qhn (W.lt j o ho e he)] at h;exact⟨e,he,h⟩
 ·rintro⟨e,he,h⟩;refine⟨e,he,?_⟩;rw[Qhn (W.lt j o ho e he)];exact h
theorem Walked.op (W:Walked P tb cs m ops S0 A R) {j:Nat} (hj:j<m):∃o,ops[j]? =some o:=⟨_,List.getElem?_eq_getElem (Nat.lt_of_lt_of_le hj W.len)⟩
theorem Walked.ancLt (W:Walked P tb cs m ops S0 A R):∀(n j:Nat),j<n→j<m→∀i∈nth A j,i<j
 |0,j,hn,_,_,_=>by omega
 |n+1,j,hn,hj,i,hi=>by
  obtain⟨o,ho⟩:=W.op hj;obtain⟨e,he,h⟩:=(W.anc hj ho).1 hi;have hlt:=W.lt j o ho e he;rcases h with h|h
  ·omega
  ·have:=W.ancLt n e (by omega) (by omega) i h;omega
def QfD (m:Nat) (A:List (List Nat)) (E:Nat→Bool):Prop:=∀i,i<m→E i=true→∀k∈nth A i,E k=true
theorem Walked.ancIn (W:Walked P tb cs m ops S0 A R) {E:Nat→Bool} (hE:QfD m A E) {j:Nat} {o:Oper} (hj:j<m) (ho:ops[j]? =some o) (hr:∀e∈Zq o.after.toList,E e=true):∀i∈nth A j,E i=true:=by
 intro i hi;obtain⟨e,he,h⟩:=(W.anc hj ho).1 hi;rcases h with h|h
 ·subst h;exact hr _ he
 ·exact hE e (by have:=W.lt j o ho e he;omega) (hr e he) i h
theorem pw_of (W:Walked P tb cs m ops S0 A R) (R':List Rs) (h:∀(i:Nat) (r:Rs),R'[i]? =some r→R[i]? =some r):R'.Pairwise (fun x y=>∀t,x.dst=some t→y.dst≠some t):=by
 rw[List.pairwise_iff_getElem];intro i j hi hj hij t h1 h2;have e1:=h i _ (List.getElem?_eq_getElem hi);have e2:=h j _ (List.getElem?_eq_getElem hj);exact W.ne i j _ _ e1 e2 (by omega) t h1 h2
theorem Qdt {j i:Nat} {r:Rs} (h:(R.take j)[i]? =some r):i<j∧R[i]? =some r:=by
 rw[List.getElem?_take] at h;split at h
 ·rename_i hlt;exact⟨hlt,h⟩
 ·cases h
theorem Qts (W:Walked P tb cs m ops S0 A R) {E:Nat→Bool} {j t:Nat} {anc:List Nat} (hlt:∀i∈anc,i<j) (hE:∀i∈anc,E i=true) (hok:okT anc t 0 ((ops.take m).map (·.dst))=true) (ts:List (Nat×V)):
  Qh (Qc6 E 0 R++ts) t=Qh (Qc6 (Z3 anc) 0 (R.take j)++ts) t∧Qgw (Qdi E 0 R) t=Qgw (Qdi (Z3 anc) 0 (R.take j)) t:=by
 have pw:=pw_of W R fun _ _ h=>h;have pw':=pw_of W (R.take j) fun _ _ h=>(Qdt h).2;have hin:∀(i:Nat) (r:Rs),R[i]? =some r→r.dst=some t→i∈anc:=fun i r hi hd=>by
  have:((ops.take m).map (·.dst))[i]? =some (some t):=by rw[←W.dsts,List.getElem?_map,hi];simp[hd]
  simpa using Qpo hok i this
 have uniq:∀(i:Nat) (r:Rs) (i':Nat) (r':Rs),R[i]? =some r→R[i']? =some r'→r.dst=some t→r'.dst=some t→i=i':=fun i r i' r' h1 h2 h3 h4=>by
  rcases Nat.lt_trichotomy i i' with h|h|h
  ·exact absurd h4 (W.ne i i' r r' h1 h2 (by omega) t h3)
  ·exact h
  ·exact absurd h4 (W.ne i i' r r' h1 h2 (by omega) t h3)
 by_cases hex:∃(i:Nat) (r:Rs),R[i]? =some r∧r.dst=some t
 ·obtain⟨i,r,hi,hd⟩:=hex;have him:=hin i r hi hd;have hij:=hlt i him;have hi':(R.take j)[i]? =some r:=by rw[List.getElem?_take,if_pos hij];exact hi
  refine⟨?_,?_⟩
  ·rw[Qg,Qg,QgG pw hi (by simpa using hE i him) hd,QgG pw' hi' (by simpa using ZQ.2 him) hd]
  ·have side:∀(E':Nat→Bool) (R':List Rs),(∀(i:Nat) (r:Rs),R'[i]? =some r→R[i]? =some r)→R'[i]? =some r→E' i=true→Qgw (Qdi E' 0 R') t=r.g.map fun p=>⟨t,p.1,p.2,r.v⟩:=by
    intro E' R' hsub hi' hEi
    cases hl:Qgw (Qdi E' 0 R') t with
    |none=>
     cases hg:r.g with
     |none=>rfl
     |some p=>
      have:(⟨t,p.1,p.2,r.v⟩:Gd)∈Qdi E' 0 R':=QaK.2 ⟨i,r,hi',by simpa using hEi,hd,hg,rfl⟩;exact absurd rfl (Qll hl _ this)
    |some g=>
     obtain⟨hm,ht⟩:=QdH hl;obtain⟨i2,r2,h1,h2,h3,h4,h5⟩:=QaK.1 hm;rw[ht] at h3;have e:=uniq i r i2 r2 hi (hsub _ _ h1) hd h3;subst e;rw[hi'] at h1;cases h1;rw[h4]
     cases g;simp at h5 ht⊢;exact⟨ht,h5⟩
   rw[side E R (fun _ _ h=>h) hi (hE i him),side (Z3 anc) (R.take j) (fun _ _ h=>(Qdt h).2) hi' (ZQ.2 him)]
 ·have none1:∀(E':Nat→Bool) (R':List Rs),(∀(i:Nat) (r:Rs),R'[i]? =some r→R[i]? =some r)→Qh (Qc6 E' 0 R') t=none:=by
   intro E' R' hsub
   cases hl:Qh (Qc6 E' 0 R') t with
   |none=>rfl
   |some v=>obtain⟨i,r,h1,_,h3,_⟩:=Qd3 hl;exact absurd ⟨i,r,hsub _ _ h1,h3⟩ hex
  have none2:∀(E':Nat→Bool) (R':List Rs),(∀(i:Nat) (r:Rs),R'[i]? =some r→R[i]? =some r)→Qgw (Qdi E' 0 R') t=none:=by
   intro E' R' hsub
   cases hl:Qgw (Qdi E' 0 R') t with
   |none=>rfl
   |some g=>
    obtain⟨hm,ht⟩:=QdH hl;obtain⟨i,r,h1,_,h3,_⟩:=QaK.1 hm;rw[ht] at h3;exact absurd ⟨i,r,hsub _ _ h1,h3⟩ hex
  refine⟨?_,?_⟩
  ·rw[Qg,Qg,none1 E R fun _ _ h=>h,none1 (Z3 anc) (R.take j) fun _ _ h=>(Qdt h).2]
  ·rw[none2 E R fun _ _ h=>h,none2 (Z3 anc) (R.take j) fun _ _ h=>(Qdt h).2]
theorem QrI (W:Walked P tb cs m ops S0 A R) {E:Nat→Bool} {j:Nat} {anc:List Nat} (hlt:∀i∈anc,i<j) (hE:∀i∈anc,E i=true) {x:Operand} (hok:Qhl ((ops.take m).map (·.dst)) anc x=true) (al:List (Nat×Bool)):
  (stOf S0 (R.take j) (Z3 anc)).ev al x=(stOf S0 R E).ev al x:=by
 obtain⟨base,nt,ts,gs,bs,fs⟩:=S0
 cases x with
 |tmp t=>
  obtain⟨h1,h2⟩:=Qts W hlt hE hok ts;simp only[stOf,St.ev,Quy];rw[h1,h2]
 |_=>rfl
theorem QrJ (W:Walked P tb cs m ops S0 A R) {E:Nat→Bool} {j:Nat} {anc:List Nat} (hE:∀i∈anc,E i=true) {id:Nat} {b:Blk} (h:Qh (stOf S0 (R.take j) (Z3 anc)).blks id=some b):Qh (stOf S0 R E).blks id=some b:=by
 have W':=W;obtain⟨base,nt,ts,gs,bs,fs⟩:=S0;simp only[stOf] at h⊢;rw[Qg] at h⊢;have sub:∀(E':Nat→Bool) (p:Nat×Blk),p∈JO E' 0 R→p∈JO (fun _=>true) 0 R:=fun E' p hp=>by
  obtain⟨i,r,h1,_,h3⟩:=Jz.1 hp;exact Jz.2 ⟨i,r,h1,rfl,h3⟩
 have pwE:(JO E 0 R).Pairwise fun x y=>x.1≠y.1:=by
  have:∀(E':Nat→Bool) (i0:Nat) (R':List Rs),(JO E' i0 R').Sublist (JO (fun _=>true) i0 R'):=by
   intro E' i0 R'
   induction R' generalizing i0 with
   |nil=>exact List.Sublist.refl _
   |cons r R' ih=>
    simp only[JO];split
    ·exact(List.Sublist.refl _).append (ih _)
    ·exact(ih _).trans (List.sublist_append_right _ _)
  exact W.ids.sublist (this E 0 R)
 cases h1:Qh (JO (Z3 anc) 0 (R.take j)) id with
 |some b'=>
  rw[h1] at h;simp at h;subst h;obtain⟨i,r,g1,g2,g3⟩:=Jz.1 (Qd4 h1);rw[Nat.zero_add] at g2;have:(id,b')∈JO E 0 R:=Jz.2 ⟨i,r,(Qdt g1).2,by rw[Nat.zero_add];exact hE i (ZQ.1 g2),g3⟩;rw[QbL pwE this];rfl
 |none=>
  rw[h1] at h;simp at h
  cases h2:Qh (JO E 0 R) id with
  |none=>simpa using h
  |some b'=>
   obtain⟨i,r,g1,_,g3⟩:=Jz.1 (Qd4 h2);have hnew:=W.new i r g1 _ g3;obtain⟨_,_,m3,_⟩:=St.mentions_parts hnew;have:=ZZ (id:=id) h (.inl rfl);dsimp only at m3;rw[m3] at this;cases this
def Qe7 (E:Nat→Bool) (j:Nat):Nat→Bool:=fun i=>E i||Nat.beq i j
theorem QaL {E:Nat→Bool} {j i:Nat}:Qe7 E j i=true↔E i=true∨i=j:=by
 simp only[Qe7,Bool.or_eq_true];exact or_congr Iff.rfl ⟨Nat.eq_of_beq_eq_true,fun h=>by subst h;simp⟩
theorem Qlp {E:Nat→Bool} (hE:QfD m A E) {j:Nat} (ha:∀i∈nth A j,E i=true):QfD m A (Qe7 E j):=by
 intro i hi hEi k hk;rcases QaL.1 hEi with h|h
 ·exact QaL.2 (.inl (hE i hi h k hk))
 ·subst h;exact QaL.2 (.inl (ha k hk))
theorem QgH (W:Walked P tb cs m ops S0 A R) {E:Nat→Bool} {j t:Nat} {r:Rs} (hr:R[j]? =some r) (hd:r.dst=some t) (hj:E j=false) {x:Value}
  (h:Sim P B w0 F ρ ⟨S0.base,S0.nt,Qc6 E 0 R++S0.tmps,Qdi E 0 R,r.nb++(JO E 0 R++S0.blks),S0.frames⟩ a w)
  (hv:match r.g with
   |none=>VR w (ZM B (r.nb++(JO E 0 R++S0.blks)) ρ) ρ r.v x
   |some (key,want)=>(a.tmps.getD key undef=.bool want∧VR w (ZM B (r.nb++(JO E 0 R++S0.blks)) ρ) ρ r.v x)∨(a.tmps.getD key undef≠ .bool want∧x=undef))
  (hkey:∀g∈Qdi E 0 R,g.t≠t∧g.key≠t):Sim P B w0 F ρ (stOf S0 R (Qe7 E j)) (a.put (some t) x) w:=by
 have hS:stOf S0 R (Qe7 E j)=⟨S0.base,S0.nt,Qc6 (Qe7 E j) 0 R++S0.tmps,Qdi (Qe7 E j) 0 R,JO (Qe7 E j) 0 R++S0.blks,S0.frames⟩:=by
  obtain⟨base,nt,ts,gs,bs,fs⟩:=S0;rfl
 rw[hS];obtain⟨t',ht',htn,hgk⟩:=(W.slots j r hr).resolve_left (fun h=>by rw[hd] at h;cases h.1);rw[hd] at ht';cases ht';have h1:Sim P B w0 F ρ ⟨S0.base,S0.nt,(t,r.shown)::(Qc6 E 0 R++S0.tmps),(match r.g with|some (key,want)=>[⟨t,key,want,r.v⟩]|none=>[])++Qdi E 0 R,r.nb++(JO E 0 R++S0.blks),S0.frames⟩ (a.put (some t) x) w:=by
  cases hg:r.g with
  |none=>
   rw[hg] at hv;simp only[Rs.shown,hg,List.nil_append];exact Qok h hv hkey htn
  |some p=>
   obtain⟨key,want⟩:=p;rw[hg] at hv;simp only[Rs.shown,hg,List.singleton_append];exact Qpi h hv hkey (hgk key want hg) htn
 have pw:=pw_of W R fun _ _ h=>h;refine h1.congr (fun u v hu=>?_) (fun g hg=>?_) (fun id b=>?_)
 ·rw[Qg] at hu
  cases hl:Qh (Qc6 (Qe7 E j) 0 R) u with
  |some v'=>
   rw[hl] at hu;simp at hu;subst hu;obtain⟨i,q,g1,g2,g3,g4⟩:=Qd3 hl;rw[Nat.zero_add] at g2;rcases QaL.1 g2 with h2|h2
   ·have hne:t≠u:=fun e=>by
     subst e;have:i≠j:=fun e=>by subst e;rw[hj] at h2;cases h2
     exact W.ne j i r q hr g1 (Ne.symm this) t hd g3
    rw[QI hne,Qg,QgG pw g1 (by simpa using h2) g3,g4];rfl
   ·subst h2;rw[hr] at g1;cases g1;rw[hd] at g3;cases g3;rw[Zk,g4]
  |none=>
   rw[hl] at hu;simp at hu;have hne:t≠u:=fun e=>by
    subst e;have:=W.mask j r t hr hd;rw[this] at hu;cases hu
   rw[QI hne,Qg]
   cases hl2:Qh (Qc6 E 0 R) u with
   |none=>simpa using hu
   |some v'=>
    obtain⟨i,q,g1,g2,g3,g4⟩:=Qd3 hl2;rw[Nat.zero_add] at g2;have:=QgG pw g1 (E:=Qe7 E j) (i0:=0) (by rw[Nat.zero_add];exact QaL.2 (.inl g2)) g3;rw[hl] at this;cases this
 ·obtain⟨i,q,g1,g2,g3,g4,g5⟩:=QaK.1 hg;rw[Nat.zero_add] at g2;rcases QaL.1 g2 with h2|h2
  ·exact List.mem_append_right _ (QaK.2 ⟨i,q,g1,by simpa using h2,g3,g4,g5⟩)
  ·subst h2;rw[hr] at g1;cases g1;refine List.mem_append_left _ ?_;rw[g4];rw[hd] at g3
   cases g;simp at g3 g5⊢;exact⟨g3.symm,g5⟩
 ·have sub:∀(E':Nat→Bool) (i0:Nat) (R':List Rs),(JO E' i0 R').Sublist (JO (fun _=>true) i0 R'):=by
   intro E' i0 R'
   induction R' generalizing i0 with
   |nil=>exact List.Sublist.refl _
   |cons r R' ih=>
    simp only[JO];split
    ·exact(List.Sublist.refl _).append (ih _)
    ·exact(ih _).trans (List.sublist_append_right _ _)
  have pwA:(JO (Qe7 E j) 0 R).Pairwise fun x y=>x.1≠y.1:=W.ids.sublist (sub _ 0 R);have pwE:(JO E 0 R).Pairwise fun x y=>x.1≠y.1:=W.ids.sublist (sub _ 0 R);have same:∀(i:Nat) (q:Rs) (p p':Nat×Blk),R[i]? =some q→p∈q.nb→(p'∈JO (fun _=>true) 0 R)→p.1=p'.1→p=p':=by
   intro i q p p' g1 g2 g3 e;have g4:p∈JO (fun _=>true) 0 R:=Jz.2 ⟨i,q,g1,rfl,g2⟩;have l1:=QbL W.ids (t:=p.1) (v:=p.2) (by simpa using g4);have l2:=QbL W.ids (t:=p'.1) (v:=p'.2) (by simpa using g3);rw[e,l2] at l1
   cases p;cases p';simp at e l1⊢;exact⟨e,l1.symm⟩
  have toAll:∀E' (p:Nat×Blk),p∈JO E' 0 R→p∈JO (fun _=>true) 0 R:=fun E' p hp=>(sub E' 0 R).subset hp;have fresh:∀(p:Nat×Blk),p∈JO (fun _=>true) 0 R→∀b,Qh S0.blks p.1=some b→False:=fun p hp b hb=>by
   obtain⟨i,q,g1,_,g3⟩:=Jz.1 hp;obtain⟨_,_,m3,_⟩:=St.mentions_parts (W.new i q g1 _ g3);have:=ZZ (id:=p.1) hb (.inl rfl);rw[m3] at this;cases this
  rw[Qg,Qg,Qg];have key:∀b,Qh (JO (Qe7 E j) 0 R) id=some b↔(Qh r.nb id=some b∨(Qh r.nb id=none∧Qh (JO E 0 R) id=some b)):=by
   intro b
   constructor
   ·intro hl;have hm:=Qd4 hl;obtain⟨i,q,g1,g2,g3⟩:=Jz.1 hm;rw[Nat.zero_add] at g2;have hcase:(id,b)∈r.nb∨(id,b)∈JO E 0 R:=by
     rcases QaL.1 g2 with h2|h2
     ·exact .inr (Jz.2 ⟨i,q,g1,by simpa using h2,g3⟩)
     ·subst h2;rw[hr] at g1;cases g1;exact .inl g3
    cases hn:Qh r.nb id with
    |some b'=>
     have:=same j r (id,b') (id,b) hr (Qd4 hn) (toAll _ _ hm) rfl
     cases this;exact .inl rfl
    |none=>
     rcases hcase with h2|h2
     ·exfalso;have:∀(l:List (Nat×Blk)),(id,b)∈l→Qh l id≠none:=by
       intro l
       induction l with
       |nil=>intro h;simp at h
       |cons p l ih=>
        intro h hl;simp only[Qh] at hl;split at hl
        ·cases hl
        ·rename_i hb;rcases List.mem_cons.1 h with h|h
         ·subst h;simp at hb
         ·exact ih h hl
      exact this _ h2 hn
     ·exact .inr ⟨rfl,QbL pwE h2⟩
   ·rintro(h2|⟨_,h2⟩)
    ·exact QbL pwA (Jz.2 ⟨j,r,hr,by rw[Nat.zero_add];exact QaL.2 (.inr rfl),Qd4 h2⟩)
    ·obtain⟨i,q,g1,g2,g3⟩:=Jz.1 (Qd4 h2);rw[Nat.zero_add] at g2;exact QbL pwA (Jz.2 ⟨i,q,g1,by rw[Nat.zero_add];exact QaL.2 (.inl g2),g3⟩)
  cases hA:Qh (JO (Qe7 E j) 0 R) id with
  |some b'=>
   rcases(key b').1 hA with h2|⟨h2,h3⟩
   ·simp[h2]
   ·simp[h2,h3]
  |none=>
   have n1:Qh r.nb id=none:=by
    cases hn:Qh r.nb id with
    |none=>rfl
    |some b'=>have:=(key b').2 (.inl hn);rw[hA] at this;cases this
   have n2:Qh (JO E 0 R) id=none:=by
    cases hn:Qh (JO E 0 R) id with
    |none=>rfl
    |some b'=>have:=(key b').2 (.inr ⟨n1,hn⟩);rw[hA] at this;cases this
   simp[n1,n2]
theorem QrK {E:Nat→Bool} {j:Nat} {r:Rs} (hr:R[j]? =some r) (hd:r.dst=none) (hn:r.nb=[]):stOf S0 R (Qe7 E j)=stOf S0 R E:=by
 have key:∀(R':List Rs) (i0:Nat),(∀i q,R'[i]? =some q→i0+i=j→q.dst=none∧q.nb=[])→Qc6 (Qe7 E j) i0 R'=Qc6 E i0 R'∧Qdi (Qe7 E j) i0 R'=Qdi E i0 R'∧JO (Qe7 E j) i0 R'=JO E i0 R':=by
  intro R'
  induction R' with
  |nil=>intro i0 _;exact⟨rfl,rfl,rfl⟩
  |cons q R' ih=>
   intro i0 h;obtain⟨i1,i2,i3⟩:=ih (i0+1) fun i q hi e=>h (i+1) q (by simpa using hi) (by omega)
   by_cases e:i0=j
   ·obtain⟨h1,h2⟩:=h 0 q rfl e;simp only[Qc6,Qdi,JO,h1,h2,i1,i2,i3,List.nil_append];refine⟨?_,?_,?_⟩
    ·cases Qe7 E j i0<;>cases E i0<;>rfl
    ·cases Qe7 E j i0<;>cases E i0<;>rfl
    ·cases Qe7 E j i0<;>cases E i0<;>rfl
   ·have:Qe7 E j i0=E i0:=by
     cases hb:E i0
     ·cases hc:Qe7 E j i0
      ·rfl
      ·rcases QaL.1 hc with h|h
       ·rw[hb] at h;cases h
       ·exact absurd h e
     ·exact QaL.2 (.inl hb)
    simp only[Qc6,Qdi,JO,this,i1,i2,i3,and_self]
 obtain⟨h1,h2,h3⟩:=key R 0 fun i q hi e=>by
  have:i=j:=by omega
  subst this;rw[hr] at hi;cases hi;exact⟨hd,hn⟩
 obtain⟨base,nt,ts,gs,bs,fs⟩:=S0;simp only[stOf,h1,h2,h3]
end Go.Ab
namespace Go.Ab
open Go.RowKit
variable {P:Program} {tb:Tb} {w:World} {ρ:Env} {a:Act} {B:Bd} {w0:World} {F:List (Array Value)}
 {cs:Nat→Option CS} {m:Nat} {ops:List Oper} {S0:St} {A:List (List Nat)} {R:List Rs}
theorem Qnf {ops:List Oper} {j:Nat} {o:Oper} {S:St} {K:Option (Nat×Bool)→V→List (Nat×Blk)→Prop} (h:Qlj P tb cs ops j o S K):
  ∃g v nb,K g v nb∧((o.guard=none∧g=none)∨ ∃jg want oj key,o.guard=some (jg,want)∧ops[jg]? =some oj∧oj.dst=some key∧g=some (key,want)):=by
 obtain⟨dst,op,ty,pos,after,guard⟩:=o
 cases guard with
 |none=>
  refine(?_:∃g v nb,K g v nb∧g=none).elim fun g ⟨v,nb,h1,h2⟩=>⟨g,v,nb,h1,.inl ⟨rfl,h2⟩⟩
  cases hv:QuB op
  ·rw[Qer hv] at h
   cases hN:isN op<;>simp only[hN] at h
   ·obtain⟨v,h1⟩:=QfX h;exact⟨_,_,_,h1,rfl⟩
   ·obtain⟨i,v,b,h1,h2⟩:=Qoq h;exact⟨_,_,_,h1,rfl⟩
  ·obtain⟨f,args,tys,rfl⟩:=Qmc hv;simp only[Qlj] at h;split at h
   ·rw[Qw] at h;exact⟨_,_,_,h.2,rfl⟩
   ·rw[Qw] at h;exact⟨_,_,_,h.2,rfl⟩
   ·exact h.no.elim
 |some gd=>
  obtain⟨jg,want⟩:=gd;simp only[Qlj] at h;split at h
  ·rename_i key _ _ _ _ _ hjg;refine(?_:∃g v nb,K g v nb∧g=some (key,want)).elim fun g ⟨v,nb,h1,h2⟩=>⟨g,v,nb,h1,.inr ⟨jg,want,_,key,rfl,hjg,rfl,h2⟩⟩
   cases op<;>try simp only at h
   case call c=>
    obtain⟨callee,args,tys⟩:=c
    cases callee<;>try simp only at h
    case value f=>
     split at h
     ·rw[Qw] at h;exact⟨_,_,_,h.2,rfl⟩
     ·rw[Qw] at h;exact⟨_,_,_,h.2,rfl⟩
     ·exact h.no.elim
    all_goals (obtain⟨v,h1⟩:=QfX h;exact⟨_,_,_,h1,rfl⟩)
   all_goals (obtain⟨v,h1⟩:=QfX h;exact⟨_,_,_,h1,rfl⟩)
  ·exact h.no.elim
theorem Qme {ops:List Oper} {j:Nat} {o:Oper} {S:St} {K:Option (Nat×Bool)→V→List (Nat×Blk)→Prop} (h:evD P tb cs ops j o S K):
  ∃g v nb,K g v nb∧((o.guard=none∧g=none)∨ ∃jg want oj key,o.guard=some (jg,want)∧ops[jg]? =some oj∧oj.dst=some key∧g=some (key,want)):=by
 cases ha:QfB (cs j)
 ·rw[Qnc ha] at h;exact Qnf h
 ·obtain⟨pre,res,post,hc,hg,h1,h2⟩:=Qmd ha h;exact⟨none,res,[],h2,.inl ⟨hg,rfl⟩⟩
theorem QuC {ev:Operand→V} {blk:Nat→Option Blk} {base t:Nat} {op:Op} {K:Nat→V→Blk→Prop} (h:evN tb ev blk base (some t) op K):evN tb ev blk base (some t) op (fun i v b=>i=St.idOf base t∧K i v b):=by
 cases op<;>simp only[evN,Q2,St.idK_eq] at h⊢ <;>first|exact h.no.elim|skip
 case makeSlice t l c=>
  split at h
  ·split at h
   ·rename_i hd;rename_i h1;obtain⟨hc,n1,rw1,h1,h2,h3⟩:=h;exact⟨hc,n1,rw1,h1,h2,by simp_all,h3⟩
   ·exact h.no.elim
  ·exact h.no.elim
 case call c=>
  split at h
  ·split at h
   ·split at h
    ·rename_i hd1 hd2;split at h
     ·split at h
      ·obtain⟨hb,n1,rw1,h1,h2,h3⟩:=h;exact⟨hb,n1,rw1,h1,h2,by simp_all,h3⟩
      ·exact h.no.elim
     ·exact h.no.elim
    ·exact h.no.elim
   ·exact h.no.elim
  ·exact h.no.elim
 case buildSlice t len parts=>
  split at h
  ·split at h
   ·split at h
    ·split at h
     ·obtain⟨n1,rw1,h1,h2,h3⟩:=h;exact⟨n1,rw1,h1,h2,by simp_all,h3⟩
     ·exact h.no.elim
    ·exact h.no.elim
   ·exact h.no.elim
  ·exact h.no.elim
 all_goals (repeat' split at h)
 all_goals first
  |exact h.no.elim
  |(simp_all;done)
  |skip
theorem Qmf {ops:List Oper} {j:Nat} {S:St} {g:Option (Nat×Bool)} {v:V} {nb:List (Nat×Blk)} {jg:Nat} {want:Bool} {dst op ty pos after} (h:Qlj P tb cs ops j ⟨dst,op,ty,pos,after,some (jg,want)⟩ S (fun g' v' nb'=>g'=g∧v'=v∧nb'=nb)):nb=[]:=by
 simp only[Qlj] at h;split at h
 ·cases op<;>try simp only at h
  case call c=>
   obtain⟨callee,args,tys⟩:=c
   cases callee<;>try simp only at h
   case value f=>
    split at h
    ·rw[Qw] at h;exact h.2.2.2.symm
    ·rw[Qw] at h;exact h.2.2.2.symm
    ·exact h.no.elim
   all_goals (obtain⟨v,h1⟩:=QfX h;exact h1.2.2.symm)
  all_goals (obtain⟨v,h1⟩:=QfX h;exact h1.2.2.symm)
 ·exact h.no.elim
theorem Qch {id:Nat}:∀ {ts:List (Nat×V)},Js id ts=false↔ ∀p∈ts,p.2.mentions id=false
 |[]=>by simp[Js]
 |(u,v)::r=>by
  have ih:=Qch (id:=id) (ts:=r);simp only[Js];split
  ·rename_i h;simp[h]
  ·rename_i h;simp[h,ih]
theorem QeP {id:Nat}:∀ {gs:List Gd},Jt id gs=false↔ ∀g∈gs,g.v.mentions id=false
 |[]=>by simp[Jt]
 |g::r=>by
  have ih:=QeP (id:=id) (gs:=r);simp only[Jt];split
  ·rename_i h;simp[h]
  ·rename_i h;simp[h,ih]
theorem Qx {id:Nat}:∀ {bs:List (Nat×Blk)},QY id bs=false↔ ∀p∈bs,p.1≠id∧p.2.mentions id=false
 |[]=>by simp[QY]
 |(i,b)::r=>by
  have ih:=Qx (id:=id) (bs:=r);simp only[QY];split
  ·rename_i h;simp[Nat.eq_of_beq_eq_true h]
  ·rename_i h;have hne:i≠id:=fun e=>by subst e;simp at h
   split
   ·rename_i h2;simp[h2]
   ·rename_i h2;simp[h2,ih,hne]
theorem St.mentions_mk {S:St} {id:Nat} (h1:Js id S.tmps=false) (h2:Jt id S.gds=false) (h3:QY id S.blks=false) (h4:Qce id S.frames=false):S.mentions id=false:=by
 simp[St.mentions,h1,h2,h3,h4]
theorem Qmg {E:Nat→Bool}:∀ {R:List Rs} {i0:Nat} {p:Nat×V},p∈Qc6 E i0 R→∃(j:Nat) (r:Rs),R[j]? =some r∧E (i0+j)=true∧p.2=r.shown
 |[],_,_,h=>by simp[Qc6] at h
 |r::R,i0,p,h=>by
  have rec_:p∈Qc6 E (i0+1) R→∃(j:Nat) (q:Rs),(r::R)[j]? =some q∧E (i0+j)=true∧p.2=q.shown:=fun h=>by
   obtain⟨j,q,h1,h2,h3⟩:=Qmg h;exact⟨j+1,q,by simpa using h1,by rw[show i0+(j+1)=i0+1+j by omega];exact h2,h3⟩
  simp only[Qc6] at h;split at h
  ·rename_i t hE hd;rcases List.mem_cons.1 h with h|h
   ·subst h;exact⟨0,r,rfl,by simpa using hE,rfl⟩
   ·exact rec_ h
  ·exact rec_ h
theorem QuD (W:Walked P tb cs m ops S0 A R) {E:Nat→Bool} (hE:QfD m A E) {j:Nat} {r:Rs} (hr:R[j]? =some r) (hj:E j=false) {p:Nat×Blk} (hp:p∈r.nb):(stOf S0 R E).mentions p.1=false:=by
 have hnew:=W.new j r hr p hp;obtain⟨m1,m2,m3,m4⟩:=St.mentions_parts hnew;have hother:∀(i:Nat) (q:Rs),R[i]? =some q→E i=true→q.v.mentions p.1=false∧(∀x∈q.nb,x.2.mentions p.1=false)∧∀x∈q.nb,x.1≠p.1:=fun i q hi hEi=>by
  have hne:i≠j:=fun e=>by subst e;rw[hj] at hEi;cases hEi
  have him:i<m:=by rw[←W.hm];exact(List.getElem?_eq_some_iff.1 hi).1
  have hnot:j∉nth A i:=fun h=>by have:=hE i him hEi j h;rw[hj] at this;cases this
  obtain⟨h1,h2⟩:=W.ment i j q r hi hr hne hnot p hp;refine⟨h1,h2,fun x hx e=>?_⟩;have l1:x∈JO (fun _=>true) 0 R:=Jz.2 ⟨i,q,hi,rfl,hx⟩;have l2:p∈JO (fun _=>true) 0 R:=Jz.2 ⟨j,r,hr,rfl,hp⟩
  --two entries of one number:they are one entry,of one operation
  have key:∀(i0:Nat) (R':List Rs),(JO (fun _=>true) i0 R').Pairwise (fun x y=>x.1≠y.1)→∀(i j:Nat) (q r:Rs),R'[i]? =some q→R'[j]? =some r→i<j→∀x∈q.nb,∀p∈r.nb,x.1≠p.1:=by
   intro i0 R'
   induction R' generalizing i0 with
   |nil=>intro _ i j q r h;simp at h
   |cons y R' ih=>
    intro hpw i j q r hi hj hij x hx p hp;simp only[JO] at hpw;obtain⟨w1,w2,w3⟩:=List.pairwise_append.1 hpw
    cases j with
    |zero=>omega
    |succ j=>
     cases i with
     |zero=>
      simp at hi;subst hi;exact w3 x hx p (Jz.2 ⟨j,r,by simpa using hj,rfl,hp⟩)
     |succ i=>exact ih _ w2 i j q r (by simpa using hi) (by simpa using hj) (by omega) x hx p hp
  rcases Nat.lt_or_gt_of_ne hne with hlt|hgt
  ·exact key 0 R W.ids i j q r hi hr hlt x hx p hp e
  ·exact key 0 R W.ids j i r q hr hi hgt p hp x hx e.symm
 obtain⟨base,nt,ts,gs,bs,fs⟩:=S0;dsimp only at m1 m2 m3 m4;refine St.mentions_mk ?_ ?_ ?_ m4
 ·refine Qch.2 fun x hx=>?_;rcases List.mem_append.1 hx with hx|hx
  ·obtain⟨i,q,h1,h2,h3⟩:=Qmg hx;rw[Nat.zero_add] at h2;rw[h3];simp only[Rs.shown];split
   ·exact(hother i q h1 h2).1
   ·rfl
  ·exact Qch.1 m1 x hx
 ·refine QeP.2 fun g hg=>?_;obtain⟨i,q,h1,h2,_,_,h5⟩:=QaK.1 hg;rw[Nat.zero_add] at h2;rw[h5];exact(hother i q h1 h2).1
 ·refine Qx.2 fun x hx=>?_;rcases List.mem_append.1 hx with hx|hx
  ·obtain⟨i,q,h1,h2,h3⟩:=Jz.1 hx;rw[Nat.zero_add] at h2;exact⟨(hother i q h1 h2).2.2 x h3,(hother i q h1 h2).2.1 x h3⟩
  ·exact Qx.1 m3 x hx
theorem QhY {blk blk':Nat→Option Blk} (hb:∀id b,blk id=some b→blk' id=some b):∀ {cs:List V} {ds:List D},Ql9 blk cs=some ds→Ql9 blk' cs=some ds
 |[],ds,h=>h
 |u::r,ds,h=>by
  cases u<;>simp only[Ql9] at h⊢ <;>first|cases h|skip
  ·split at h
   ·rename_i xs hxs;rw[QhY hb hxs];exact h
   ·cases h
  ·split at h
   ·rename_i h1 h2;rw[hb _ _ h1,QhY hb h2];exact h
   ·cases h
theorem Qpp {blk blk':Nat→Option Blk} (hb:∀id b,blk id=some b→blk' id=some b) {id off len:Nat} {d:D} (h:slV blk id off len=some d):slV blk' id off len=some d:=by
 unfold slV at h⊢;split at h
 ·rename_i h1;rw[hb _ _ h1];exact h
 ·rename_i h1;rw[hb _ _ h1];split at h
  ·rename_i h2 h3;simp only[h2,QhY hb h3];exact h
  ·cases h
 ·cases h
theorem QhZ {blk blk':Nat→Option Blk} (hb:∀id b,blk id=some b→blk' id=some b):∀ {cs:List V} {ds:List D},Qma blk cs=some ds→Qma blk' cs=some ds
 |[],ds,h=>h
 |u::r,ds,h=>by
  cases u<;>simp only[Qma] at h⊢ <;>first|cases h|skip
  ·split at h
   ·rename_i xs hxs;rw[QhZ hb hxs];exact h
   ·cases h
  ·split at h
   ·rename_i h1 h2;rw[Qpp hb h1,QhZ hb h2];exact h
   ·cases h
mutual
theorem Qqv {blk blk':Nat→Option Blk} (hb:∀id b,blk id=some b→blk' id=some b) (v:V) (u:V) (h:Qeq blk v=some u):Qeq blk' v=some u:=by
 cases v with
 |any=>exact h
 |d=>exact h
 |rp=>exact h
 |osl id off len=>
  simp only[Qeq] at h⊢
  split at h
  ·rename_i h1;rw[Qpp hb h1];exact h
  ·cases h
 |ref id row off=>
  simp only[Qeq] at h⊢
  split at h
  ·rename_i h1
   split at h
   ·rename_i h2;rw[hb _ _ h1];simp only[QhZ hb h2];exact h
   ·cases h
  ·rename_i h1;rw[hb _ _ h1];exact h
  ·cases h
 |agg vs=>
  simp only[Qeq] at h⊢
  split at h
  ·rename_i us h1;rw[QbP hb vs us h1];exact h
  ·cases h
 |tup vs=>
  simp only[Qeq] at h⊢
  split at h
  ·rename_i us h1;rw[QbP hb vs us h1];exact h
  ·cases h
 |fn f vs=>
  simp only[Qeq] at h⊢
  split at h
  ·rename_i us h1;rw[QbP hb vs us h1];exact h
  ·cases h
theorem QbP {blk blk':Nat→Option Blk} (hb:∀id b,blk id=some b→blk' id=some b) (vs us:List V) (h:Qbx blk vs=some us):Qbx blk' vs=some us:=by
 cases vs with
 |nil=>exact h
 |cons v r=>
  simp only[Qbx] at h⊢
  split at h
  ·rename_i u us' h1 h2
   rw[Qqv hb v u h1,QbP hb r us' h2];exact h
  ·cases h
end
theorem Z1 {f:Operand} {args:Array Operand} {tys:Array TypeId} {x:Operand}:x∈(Op.operands (.call ⟨.value f,args,tys⟩)).toList↔x=f∨x∈args:=by
 simp[Op.operands,Call.operands]
end Go.Ab
namespace Go.Ab
open Go.RowKit
variable {P:Program} {tb:Tb} {w:World} {ρ:Env} {a:Act} {B:Bd} {w0:World} {F:List (Array Value)}
 {cs:Nat→Option CS} {m:Nat} {ops:List Oper} {S0:St} {A:List (List Nat)} {R:List Rs}
theorem QeQ {S S':St} {al:List (Nat×Bool)} (h:∀al x,S.ev al x=S'.ev al x):∀ {l:List (Nat×Bool)} {p:Prop},Qa1 S al l p=Qa1 S' al l p
 |[],p=>rfl
 |(k,w)::r,p=>by simp only[Qa1,h,QeQ h (l:=r) (p:=p)]
theorem Qho {opsA:Array Oper} {Q:Exit→Act→World→Prop} {j:Nat} {o:Oper} {next:Act→World→Prop} (ho:opsA[j]? =some o) (hw:Region.wanted o (yielded opsA a.tmps)=true) (h:o.wp P a w next Q):wpOp P opsA Q j next a w:=by
 unfold wpOp;simp only[ho,hw,if_true];exact .inl h
theorem Qng (hT:TOk P tb) (W:Walked P tb cs m ops S0 A R) {opsA:Array Oper} (hops:opsA.toList=ops) {E:Nat→Bool} (hE:QfD m A E) {j:Nat} {o:Oper} (hj:j<m) (hjE:E j=false) (ho:ops[j]? =some o)
  (hnf:Qhm (cs j)=false) (hdst:o.dst≠none) (hr:∀e∈Zq o.after.toList,E e=true) (h:Sim P B w0 F ρ (stOf S0 R E) a w) {next:Act→World→Prop} (hn:∀ρ' a' w',Sim P B w0 F ρ' (stOf S0 R (Qe7 E j)) a' w'→next a' w') (Q:Exit→Act→World→Prop):
  wpOp P opsA Q j next a w:=by
 have hoA:opsA[j]? =some o:=by rw[←hops] at ho;simpa using ho
 have hne:∀res nb post p q,cs j≠some (.eff res nb post p q):=fun _ _ _ _ _ e=>by rw[e] at hnf;cases hnf
 have hna:QfB (cs j)=false:=by
  cases hx:QfB (cs j)
  ·rfl
  ·unfold QfB at hx;split at hx
   ·rename_i hc;rw[hc] at hnf;cases hnf
   ·cases hx
 obtain⟨r,hr1,hanc,hrd,hopr,hgd,hev⟩:=W.facts j o hj ho;rw[Qnc hna] at hev;have hin:=W.ancIn hE hj ho hr;have hlt:∀i∈nth A j,i<j:=W.ancLt (j+1) j (by omega) hj;obtain⟨t,htd,htn,hkt⟩:=(W.slots j r hr1).resolve_left (fun h=>hdst (by rw[←hrd];exact h.1));have hod:o.dst=some t:=by rw[←hrd];exact htd
 have hloc:∀x∈o.op.operands.toList,∀al,(stOf S0 (R.take j) (Z3 (nth A j))).ev al x=(stOf S0 R E).ev al x:=fun x hx al=>QrI W hlt hin (hopr x hx) al;have hblk:∀id b,Qh (stOf S0 (R.take j) (Z3 (nth A j))).blks id=some b→Qh (stOf S0 R E).blks id=some b:=fun id b hb=>QrJ W hin hb;have hkey:∀g∈Qdi E 0 R,g.t≠t∧g.key≠t:=fun g hg=>by
  obtain⟨i,q,g1,g2,g3,g4,g5⟩:=QaK.1 hg;rw[Nat.zero_add] at g2;have hne:i≠j:=fun e=>by subst e;rw[hjE] at g2;cases g2
  refine⟨fun e=>W.ne j i r q hr1 g1 (Ne.symm hne) t htd (by rw[←e];exact g3),fun e=>?_⟩;have him:i<m:=by rw[←W.hm];exact(List.getElem?_eq_some_iff.1 g1).1
  obtain⟨oi,hoi⟩:=W.op him;obtain⟨q',f1,_,_,_,f5,f6⟩:=W.facts i oi him hoi;rw[g1] at f1;cases f1;obtain⟨gg,vv,nn,⟨k1,_,_⟩,k4⟩:=Qme f6;rcases k4 with ⟨_,k5⟩|⟨jg,want,oj,key,k5,k6,k7,k8⟩
  ·rw[←k1,k5] at g4;cases g4
  ·rw[←k1,k8] at g4;simp only[Option.some.injEq,Prod.mk.injEq] at g4;obtain⟨oj',key',l1,l2,l3,_⟩:=f5 jg want k5;rw[k6] at l1;cases l1;have hEjg:=hE i him g2 jg l3;have hjgne:jg≠j:=fun e=>by subst e;rw[hjE] at hEjg;cases hEjg
   have hjgm:jg<m:=by have:=W.ancLt (i+1) i (by omega) him jg l3;omega
   obtain⟨rj,r1,_,r3,_⟩:=W.facts jg oj hjgm k6;refine W.ne jg j rj r r1 hr1 hjgne key (by rw[r3];exact k7) ?_;rw[g4.1,e];exact htd
 --the state as it stands
 have hSt:stOf S0 R E=⟨S0.base,S0.nt,Qc6 E 0 R++S0.tmps,Qdi E 0 R,JO E 0 R++S0.blks,S0.frames⟩:=by
  obtain⟨base,nt,ts,gs,bs,fs⟩:=S0;rfl
 have hment:∀p∈r.nb,(stOf S0 R E).mentions p.1=false:=fun p hp=>QuD W hE hr1 hjE hp;have hsbase:∀(R':List Rs) (E':Nat→Bool),(stOf S0 R' E').base=S0.base:=fun R' E'=>by obtain⟨base,nt,ts,gs,bs,fs⟩:=S0;rfl
 obtain⟨dst,op,ty,pos,after,guard⟩:=o;dsimp only at hod hopr hloc hgd;subst hod
 cases guard with
 |none=>
  have hwd:Region.wanted ⟨some t,op,ty,pos,after,none⟩ (yielded opsA a.tmps)=true:=by simp[Region.wanted]
  refine Qho hoA hwd ?_;have done:∀ {n v w' ρ' S'},(execOp a.eval ⟨some t,op,ty,pos,after,none⟩).run P w=.ok n w'→(n=.value v∨(n=.skip∧v=undef))→
    Sim P B w0 F ρ' S' a w'→S'=⟨S0.base,S0.nt,Qc6 E 0 R++S0.tmps,Qdi E 0 R,r.nb++(JO E 0 R++S0.blks),S0.frames⟩→VR w' (ZM B S'.blks ρ') ρ' r.v v→r.g=none→
    Oper.wp P ⟨some t,op,ty,pos,after,none⟩ a w next Q:=by
   intro n v w' ρ' S' h1 h2 h3 h4 h5 h6;subst h4;have:=QgH W hr1 htd hjE h3 (x:=v) (by rw[h6];exact h5) hkey;unfold Oper.wp;rw[h1];rcases h2 with rfl|⟨rfl,rfl⟩
   ·exact hn ρ' _ w' this
   ·exact hn ρ' _ w' this
  have pureCase:∀ {K:V→Prop},evP tb (stOf S0 (R.take j) (Z3 (nth A j))).ev (Qh (stOf S0 (R.take j) (Z3 (nth A j))).blks) id op K→(∀v,K v→none=r.g∧v=r.v∧[]=r.nb)→
    Oper.wp P ⟨some t,op,ty,pos,after,none⟩ a w next Q:=by
   intro K hk hK;have h1:=Qet (ev':=(stOf S0 R E).ev) (blk':=Qh (stOf S0 R E).blks) (fun x hx al=>hloc x hx al) hblk hk;obtain⟨v,w',x,h2,h3,h4,h5⟩:=Qfu hT h.evR h.blks (fun _ ho=>Qdb h ho) (fun p hp=>hp) ⟨some t,op,ty,pos,after,none⟩ h1;obtain⟨k1,k2,k3⟩:=hK x h5;subst k2;refine done h2 (.inl rfl) (h.pure h3) (by rw[←k3];exact hSt) h4 k1.symm
  have newCase:evN tb ((stOf S0 (R.take j) (Z3 (nth A j))).ev []) (Qh (stOf S0 (R.take j) (Z3 (nth A j))).blks) (stOf S0 (R.take j) (Z3 (nth A j))).base (some t) op (fun id v b=>none=r.g∧v=r.v∧[(id,b)]=r.nb)→Oper.wp P ⟨some t,op,ty,pos,after,none⟩ a w next Q:=by
   intro hk;have h1:=QfC (ev':=(stOf S0 R E).ev []) (blk':=Qh (stOf S0 R E).blks) (fun x hx=>hloc x hx []) hblk hk;rw[hsbase,←hsbase R E] at h1;obtain⟨i,v,b,⟨hi,k1,k2,k3⟩,_⟩:=Qoq (QuC h1);have hid:∀t',some t=some t'→(stOf S0 R E).mentions (St.idOf (stOf S0 R E).base t')=false:=fun t' ht'=>by
    cases ht'
    rw[←hi];exact hment (i,b) (by rw[←k3];simp)
   have h2:=QrH hid h1;obtain⟨n,v',w',ρ',x,S',g1,g2,g3,g4,g5⟩:=QdL hT h ⟨some t,op,ty,pos,after,none⟩ h2;obtain⟨i',b',⟨l1,l2,l3⟩,rfl⟩:=g5;subst l2;refine done g1 g2 g3 ?_ g4 l1.symm;rw[←l3,hSt];rfl
  cases hv:QuB op
  ·rw[Qer hv] at hev
   cases hN:isN op<;>simp only[hN] at hev
   ·exact pureCase hev fun v hv=>hv
   ·exact newCase hev
  ·obtain⟨f,args,tys,rfl⟩:=Qmc hv;simp only[Qlj] at hev;split at hev
   ·rename_i g cap k res nb hf hcs;rw[Qw] at hev;obtain⟨hcd,k1,k2,k3⟩:=hev;obtain⟨args',hvw,hpc⟩:=hcd.out;have hfE:(stOf S0 R E).ev [] f=.fn g cap:=by rw[←hloc f (Z1.2 (.inl rfl)) []];exact hf
    have hargsE:args.toList.map ((stOf S0 (R.take j) (Z3 (nth A j))).ev [])=args.toList.map ((stOf S0 R E).ev []):=List.map_congr_left fun x hx=>hloc x (Z1.2 (.inr (by simpa using hx))) [];rw[hargsE] at hvw;have hvw':=QbP hblk _ _ hvw;obtain⟨fcs,hfv,hcl,hcv⟩:=QjW (h.evR.eq hfE);have hargs:=Qct (ev:=(stOf S0 R E).ev) (al:=[]) h.evR.at args hcl hcv;have hcp:CallP P g (args.toList.map ((stOf S0 R E).ev [])++cap) (stOf S0 R E) (fun v S'=>v=r.v∧S'=⟨S0.base,S0.nt,Qc6 E 0 R++S0.tmps,Qdi E 0 R,r.nb++(JO E 0 R++S0.blks),S0.frames⟩):=by
     refine Qpm k hpc hvw' (fun b hb=>?_) ⟨k2,?_⟩
     ·have:Nb.ent k b∈r.nb:=by rw[←k3];exact List.mem_map.2 ⟨b,hb,rfl⟩
      exact hment _ this
     ·rw[←k3,hSt]
    have hcall:=hcp.out B w0 F ρ a w _ h hargs;unfold Oper.wp;rw[QeM hfv hpc.can,Oper.upon_enter];refine Calls.mono hcall ?_;rintro e w' ⟨v,ρ',x,S',rfl,h1,h2,rfl,rfl⟩;exact hn ρ' _ w' (QgH W hr1 htd hjE h1 (x:=v) (by rw[←k1];exact h2) hkey)
   ·rename_i hcs;exact absurd hcs (hne _ _ _ _ _)
   ·exact hev.no.elim
 |some gdd=>
  obtain⟨jg,want⟩:=gdd;obtain⟨oj,key,l1,l2,l3,l4⟩:=hgd jg want rfl;have hjgA:opsA[jg]? =some oj:=by rw[←hops] at l1;simpa using l1
  have hy:=QgC (tmps:=a.tmps) (want:=want) hjgA l2;have hwd:Region.wanted ⟨some t,op,ty,pos,after,some (jg,want)⟩ (yielded opsA a.tmps)=(yielded opsA a.tmps jg==some want):=by simp[Region.wanted]
  --what the forerunners alone say is true of the state as it stands
  have hL:Sim P B w0 F ρ ⟨S0.base,S0.nt,Qc6 (Z3 (nth A j)) 0 (R.take j)++S0.tmps,Qdi (Z3 (nth A j)) 0 (R.take j),JO E 0 R++S0.blks,S0.frames⟩ a w:=by
   rw[hSt] at h;refine h.congr (fun t v hv=>?_) (fun g hg=>?_) (fun _ _=>Iff.rfl)
   ·rw[Qg] at hv⊢
    cases hl:Qh (Qc6 (Z3 (nth A j)) 0 (R.take j)) t with
    |some v'=>
     rw[hl] at hv;simp at hv;subst hv;obtain⟨i,q,g1,g2,g3,g4⟩:=Qd3 hl;rw[Nat.zero_add] at g2;rw[QgG (pw_of W R fun _ _ h=>h) (Qdt g1).2 (by rw[Nat.zero_add];exact hin i (ZQ.1 g2)) g3,g4];rfl
    |none=>
     rw[hl] at hv;simp at hv
     cases hl2:Qh (Qc6 E 0 R) t with
     |none=>simpa using hv
     |some v'=>
      obtain⟨i,q,g1,g2,g3,g4⟩:=Qd3 hl2;rw[W.mask i q t g1 g3] at hv;cases hv
   ·obtain⟨i,q,g1,g2,g3,g4,g5⟩:=QaK.1 hg;rw[Nat.zero_add] at g2;exact QaK.2 ⟨i,q,(Qdt g1).2,by rw[Nat.zero_add];exact hin i (ZQ.1 g2),g3,g4,g5⟩
  have hLs:stOf S0 (R.take j) (Z3 (nth A j))=⟨S0.base,S0.nt,Qc6 (Z3 (nth A j)) 0 (R.take j)++S0.tmps,Qdi (Z3 (nth A j)) 0 (R.take j),JO (Z3 (nth A j)) 0 (R.take j)++S0.blks,S0.frames⟩:=by
   obtain⟨base,nt,ts,gs,bs,fs⟩:=S0;rfl
  obtain⟨odst,oop,oty,opos,oaft,ogd⟩:=oj;dsimp only at l2;subst l2;have skip:∀ {gg:Option (Nat×Bool)} {v:V} {nb:List (Nat×Blk)},gg=r.g∧v=r.v∧nb=r.nb→gg=some (key,want)→nb=[]→a.tmps.getD key undef≠ .bool want→
    wpOp P opsA Q j next a w:=by
   intro gg v nb ⟨k1,k2,k3⟩ hgg hnb hw;have hwf:Region.wanted ⟨some t,op,ty,pos,after,some (jg,want)⟩ (yielded opsA a.tmps)=false:=by
    rw[hwd]
    cases hb:(yielded opsA a.tmps jg==some want)
    ·rfl
    ·exact absurd (hy.1 hb) hw
   unfold wpOp;simp only[hoA,hwf,Bool.false_eq_true,if_false];refine hn ρ _ w (QgH W hr1 htd hjE ?_ (x:=undef) (by rw[←k1,hgg];exact .inr ⟨hw,rfl⟩) hkey);rw[←k3,hnb];rw[hSt] at h;exact h
  by_cases hw:a.tmps.getD key undef=.bool want
  ·have hwt:Region.wanted ⟨some t,op,ty,pos,after,some (jg,want)⟩ (yielded opsA a.tmps)=true:=by rw[hwd];exact hy.2 hw
   refine Qho hoA hwt ?_;have hal:∀k g,(k,g)∈closure (stOf S0 (R.take j) (Z3 (nth A j))).gds 9 key want→a.tmps.getD k undef=.bool g:=fun k g hm=>by
    rw[hLs] at hm;exact Qdr hL 9 key want hw k g hm
   have hsc:∀p,Qa1 (stOf S0 (R.take j) (Z3 (nth A j))) (closure (stOf S0 (R.take j) (Z3 (nth A j))).gds 9 key want) (closure (stOf S0 (R.take j) (Z3 (nth A j))).gds 9 key want) p→p:=fun p hp=>by
    refine QdN hL _ hal _ p (fun _ hx=>hx) ?_;rw[QeQ (S':=stOf S0 (R.take j) (Z3 (nth A j)))]
    ·exact hp
    ·intro al x;rw[hLs]
     cases x<;>rfl
   generalize hali:closure (stOf S0 (R.take j) (Z3 (nth A j))).gds 9 key want=al at hal hsc;have hev':EvR w (ZM B (stOf S0 R E).blks ρ) ρ a (fun ex x=>(stOf S0 R E).ev (ex++al) x):=⟨fun al x hx=>h.evR.h _ x fun k g hm=>by
    rcases List.mem_append.1 hm with hm|hm
    ·exact hx k g hm
    ·exact hal k g hm⟩
   have pureCase:∀ {K:V→Prop},evP tb (fun ex x=>(stOf S0 (R.take j) (Z3 (nth A j))).ev (ex++al) x) (Qh (stOf S0 (R.take j) (Z3 (nth A j))).blks) (Qa1 (stOf S0 (R.take j) (Z3 (nth A j))) al al) op K→
     (∀v,K v→some (key,want)=r.g∧v=r.v∧[]=r.nb)→Oper.wp P ⟨some t,op,ty,pos,after,some (jg,want)⟩ a w next Q:=by
    intro K hk hK;have h1:=Qet (ev':=fun ex x=>(stOf S0 R E).ev (ex++al) x) (blk':=Qh (stOf S0 R E).blks) (fun x hx al=>hloc x hx _) hblk hk;obtain⟨v,w',x,h2,h3,h4,h5⟩:=Qfu hT hev' h.blks (fun _ ho=>Qdb h ho) hsc ⟨some t,op,ty,pos,after,some (jg,want)⟩ h1;obtain⟨k1,k2,k3⟩:=hK x h5;subst k2;unfold Oper.wp;rw[h2];refine hn ρ _ w' (QgH W hr1 htd hjE ?_ (x:=v) ?_ hkey)
    ·rw[←k3];have:=h.pure h3;rw[hSt] at this;exact this
    ·rw[←k1,←k3];rw[hSt] at h4;exact .inl ⟨hw,h4⟩
   simp only[Qlj] at hev;rw[l1] at hev;dsimp only at hev;rw[hali] at hev
   cases op<;>try simp only at hev
   case call c=>
    obtain⟨callee,args,tys⟩:=c
    cases callee<;>try simp only at hev
    case value f=>
     split at hev
     ·rename_i g cap k0 res hf hcs;rw[Qw] at hev;obtain⟨hcd,k1,k2,k3⟩:=hev;obtain⟨args',hvw,hpc⟩:=hsc _ hcd.out;have hfE:(stOf S0 R E).ev al f=.fn g cap:=by rw[←hloc f (Z1.2 (.inl rfl)) _];exact hf
      have hargsE:args.toList.map ((stOf S0 (R.take j) (Z3 (nth A j))).ev al)=args.toList.map ((stOf S0 R E).ev al):=List.map_congr_left fun x hx=>hloc x (Z1.2 (.inr (by simpa using hx))) _;rw[hargsE] at hvw;have hvw':=QbP hblk _ _ hvw;have hf':=h.evR.h al f hal;rw[hfE] at hf';obtain⟨fcs,hfv,hcl,hcv⟩:=QjW hf';have hargs:=Qct (ev:=(stOf S0 R E).ev) (al:=al) (fun x=>h.evR.h _ x hal) args hcl hcv;have hcg:CallG P id id g (args.toList.map ((stOf S0 R E).ev al)++cap) (stOf S0 R E) (fun v S1=>v=res∧S1=stOf S0 R E):=
       Qnb (res:=res) hpc.can hpc (fun p q hpq=>hpq) (fun p hp=>hp) hpc.flat (fun id=>by
        cases hmi:res.mentions id
        ·rfl
        ·obtain⟨b,hb,_⟩:=hpc.ids id hmi;simp at hb) hvw' ⟨rfl,rfl⟩
      obtain⟨x,S1,⟨rfl,rfl⟩,hc,_⟩:=hcg.out;have hcall:=hc B w0 F ρ a w _ h hargs;unfold Oper.wp;rw[QeM hfv hpc.can,Oper.upon_enter];refine Calls.mono hcall ?_;rintro e w' ⟨v,ρ',rfl,h1,h2⟩;refine hn ρ' _ w' (QgH W hr1 htd hjE ?_ (x:=v) ?_ hkey)
      ·rw[←k3];rw[hSt] at h1;exact h1
      ·rw[←k1,←k2,←k3];rw[hSt] at h2;exact .inl ⟨hw,h2⟩
     ·rename_i hcs;exact absurd hcs (hne _ _ _ _ _)
     ·exact hev.no.elim
    all_goals exact pureCase hev fun v hv=>hv
   all_goals exact pureCase hev fun v hv=>hv
  ·obtain⟨gg,vv,nn,k1,k4⟩:=Qnf hev;have hnb:r.nb=[]:=Qmf hev;rcases k4 with ⟨k5,_⟩|⟨jg',want',oj',key',k5,k6,k7,k8⟩
   ·cases k5
   ·cases k5
    rw[l1] at k6;cases k6
    cases k7
    exact skip k1 k8 (by rw[k1.2.2];exact hnb) hw
end Go.Ab
namespace Go.Ab
open Go.RowKit
variable {P:Program} {tb:Tb} {w:World} {ρ:Env} {a:Act} {B:Bd} {w0:World} {F:List (Array Value)}
 {cs:Nat→Option CS} {m:Nat} {ops:List Oper} {S0:St} {A:List (List Nat)} {R:List Rs}
theorem Qf2 {ds:List (Option Nat)} {t:Nat} {v:V}:∀ {ts:List (Nat×V)},Qh (Qmb ds ts) t=some v→Qh ts t=some v
 |[],h=>by simp[Qmb,Qh] at h
 |(u,x)::r,h=>by
  simp only[Qmb] at h;split at h
  ·rename_i hb
   by_cases e:u=t
   ·subst e;have hm:some u∈ds:=by
     obtain⟨d,hd,hq⟩:=List.any_eq_true.1 hb
     cases d with
     |none=>cases hq
     |some y=>have:=Nat.eq_of_beq_eq_true hq;subst this;exact hd
    rw[Qf1 hm] at h;cases h
   ·rw[QI e];exact Qf2 h
  ·rcases QT h with ⟨rfl,rfl⟩|⟨hn,h⟩
   ·exact Zk
   ·rw[QI hn];exact Qf2 h
theorem Qlq {E E':Nat→Bool}:∀ {R:List Rs} {i0:Nat},(∀i,i<R.length→E (i0+i)=E' (i0+i))→Qc6 E i0 R=Qc6 E' i0 R∧Qdi E i0 R=Qdi E' i0 R∧JO E i0 R=JO E' i0 R
 |[],_,_=>⟨rfl,rfl,rfl⟩
 |r::R,i0,h=>by
  have h0:E i0=E' i0:=by simpa using h 0 (by simp)
  obtain⟨h1,h2,h3⟩:=Qlq (E:=E) (E':=E') (R:=R) (i0:=i0+1) fun i hi=>by
   have:=h (i+1) (by simp;omega);rwa[show i0+1+i=i0+(i+1) by omega]
  simp only[Qc6,Qdi,JO,h0,h1,h2,h3,and_self]
theorem Qlr {E E':Nat→Bool} (h:∀i,i<R.length→E i=E' i):stOf S0 R E=stOf S0 R E':=by
 obtain⟨base,nt,ts,gs,bs,fs⟩:=S0;obtain⟨h1,h2,h3⟩:=Qlq (E:=E) (E':=E') (R:=R) (i0:=0) fun i hi=>by rw[Nat.zero_add];exact h i hi
 simp only[stOf,h1,h2,h3]
def unl (listed:Array Bool):Nat:=listed.toList.countP (· ==false)
theorem Qmh {listed:Array Bool} {i:Nat} (hi:listed.getD i true=false):unl listed=unl (listed.setIfInBounds i true)+1:=by
 have hlt:i<listed.size:=by
  by_cases h:i<listed.size
  ·exact h
  ·rw[Array.getD_eq_getD_getElem?,Array.getElem?_eq_none (by omega)] at hi;cases hi
 have hv:listed[i]=false:=by rw[Array.getD_eq_getD_getElem?,Array.getElem?_eq_getElem hlt] at hi;exact hi
 have hv':listed.toList[i]'(by simpa using hlt)=false:=by simpa using hv
 unfold unl;rw[Array.toList_setIfInBounds,List.countP_set (by simpa using hlt)];have hpos:0<listed.toList.countP (· ==false):=List.countP_pos_iff.2 ⟨false,by rw[←hv'];exact List.getElem_mem _,rfl⟩;have hv2:(listed.toList[i]'(by simpa using hlt)==false)=true:=by rw[hv'];rfl
 rw[if_pos hv2,if_neg (by decide)];omega
theorem Qos {listed:Array Bool} {i:Nat} (hi:listed.getD i true=false):0<unl listed:=by rw[Qmh hi];omega
theorem QeR {listed:Array Bool} {i:Nat} (hi:i<listed.size):listed.getD i true=listed.getD i false:=by
 simp[Array.getD_eq_getD_getElem?,Array.getElem?_eq_getElem hi]
theorem QeS {listed:Array Bool} {j:Nat} (hj:j<listed.size):(fun i=>(listed.setIfInBounds j true).getD i false)=Qe7 (fun i=>listed.getD i false) j:=by
 funext i
 simp only[Qe7,Array.getD_eq_getD_getElem?,Array.getElem?_setIfInBounds]
 by_cases h:j=i
 ·subst h;simp[hj]
 ·simp[h,Ne.symm h]
end Go.Ab
