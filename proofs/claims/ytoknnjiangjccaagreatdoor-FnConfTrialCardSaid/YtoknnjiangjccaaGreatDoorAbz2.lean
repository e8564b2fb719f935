/-
  The operations that write, and functions walked: a part of the frame in which a given row's proof walks the program; no condition.
-/
import Derived.Test.YtoknnjiangjccaaGreatDoorAbz1
set_option linter.all false
namespace Go.Ab
open Go.RowKit
variable {P:Program} {tb:Tb} {w:World} {ow:Nat→Prop} {ρ:Env} {a:Act} {B:Bd} {w0:World} {F:List (Array Value)} {S:St} {K:V→St→Prop}
theorem Qnj (v:Value):VR w ow ρ (QkS v) v:=by
 unfold QkS;split
 ·rename_i cs;split
  ·rename_i G;refine .agg (by simp) (fun j hj=>?_) fun j u hj=>?_
   ·have:=Yb.1 G (cs.getD j undef) (by simp[hj]);exact this
   ·rw[Yz] at hj;obtain⟨x,J,rfl⟩:=Yc.1 hj;have:cs.getD j undef=x:=by
     have I:cs[j]? =some x:=by simpa using J
     simp[Y6,I]
    rw[this];exact QjB x
  ·exact .any
 ·exact QjB v
theorem QqH:∀ {al:List (Nat×Bool)} {k:Nat} {w:Bool},Qy0 al k w=true->(k,w)∈al
 |(k',w')::r,k,w,h=>by
  simp only[Qy0] at h;split at h
  ·rename_i h1 h2;have h1:=Y5 h1;have h2:w'=w:=by simpa using h2
   subst h1 h2;simp
  ·exact Yp _ (QqH h)
 |[],_,_,h=>by simp[Qy0] at h
theorem Qel:∀ {gs:List Gd} {t:Nat} {g:Gd},Qht gs t=some g->g∈gs∧g.t=t
 |x::r,t,g,h=>by
  simp only[Qht] at h;split at h
  ·rename_i hb;cases h;exact⟨by simp,Y5 hb⟩
  ·have:=Qel h;exact⟨Yp _ this.1,this.2⟩
 |[],_,_,h=>by simp[Qht] at h
theorem QrM {f:Fr} {tm:Array Value} (h:FrR w ow ρ f tm) (t:Nat):VR w ow ρ (Qwj f.tmps t) (tm.getD t undef):=by
 unfold Qwj;split
 ·rename_i v hv;exact h.tmps t v hv
 ·exact .any
theorem Sim.evR (h:Sim P B w0 F ρ S a w):EvR w (ZL B S.blks ρ) ρ a S.ev:=by
 refine⟨fun al x G=>?_⟩
 cases x with
 |const v=>exact Qnj v
 |func f=>exact .fn (by simp) fun j v hj=>by simp at hj
 |global g=>exact .any
 |tmp t=>
  show VR w (ZL B S.blks ρ) ρ (S.ev al (.tmp t)) (a.tmps.getD t undef);unfold St.ev;dsimp only;split
  ·rename_i g J;obtain⟨hm,rfl⟩:=Qel J;split
   ·rename_i I;have:=G _ _ (QqH I);rcases(h.top.gds g hm).h with h1|h1
    ·exact h1.2
    ·exact absurd this h1.1
   ·exact .any
  ·exact QrM h.top t
def Eff (P:Program) (B:Bd) (w0:World) (F:List (Array Value)) (a:Act) (w:World) (r:Sem Next) (K:V->St->Prop):Prop:=
 ∃n v w' ρ' x S',r.run P w=.ok n w'∧(n=.value v∨(n=.skip∧v=undef))∧Sim P B w0 F ρ' S' a w'∧VR w' (ZL B S'.blks ρ') ρ' x v∧K x S'
theorem QbJ (l vs:List Value) (o j:Nat) (h:o+vs.length<=l.length):
  ((l.take o++vs++l.drop (o+vs.length)).toArray).getD j undef=if o<=j∧j<o+vs.length then vs.getD (j-o) undef else l.getD j undef:=by
 simp only[Y6,List.getElem?_toArray,Y1]
 by_cases h1:j<o
 ·rw[Y0 (by omega),Xu,Yy (by simp;omega),YQ,Y2 h1]
 ·by_cases h2:j<o+vs.length
  ·rw[Y2 ⟨by omega,h2⟩,Xu,YX (by simp;omega),Yy (by simp;omega)];rw[Yn,Xh (by omega)]
  ·rw[Y0 (by omega),YX (by simp;omega),YR];simp only[Yk,Yn];rw[Xh (by omega),show o+vs.length+(j-(o+vs.length))=j by omega]
theorem Qbw (l vs:List Value) (o:Nat) (h:o+vs.length<=l.length):((l.take o++vs++l.drop (o+vs.length)).toArray).size=l.length:=by
 simp;omega
theorem QgO:∀ {l:List V} {es:List D},QrI l=some es->es.length=l.length∧∀(j:Nat) (d:D),es[j]? =some d->l[j]? =some (V.d d)
 |[],es,he=>by simp[QrI] at he;subst he;exact⟨rfl,fun j d h=>by simp at h⟩
 |u::r,es,he=>by
  cases u<;>simp only[QrI] at he<;>first|cases he|skip
  split at he
  ·rename_i xs G;simp only[Y9] at he;subst he;have⟨I,J⟩:=QgO G;refine⟨by simp[I],fun j d hj=>?_⟩
   cases j with
   |zero=>simp at hj;subst hj;simp
   |succ j=>simpa using J j d (by simpa using hj)
  ·cases he
theorem QjC {t ti} (I:TIok P t ti) {b o:Nat} {x:Value} {C:Array Value} {et:TypeId} (J:w.heap[b]? =some (.cells C et (0,0))) (hs:x.cells.size=ti.size)
  (h1:∀j,j<x.cells.size->(x.cells.getD j undef).oneCell'=true) (hfit:o+ti.size<=C.size):
  (Instr.storeAt t (.pointer (some ⟨b,o,none⟩)) x).run P w=.ok () (w.setRow b (C.toList.take o++x.cells.toList++C.toList.drop (o+x.cells.toList.length)).toArray):=by
 have G:=run_storeCells_at P b o et x.cells.toList 0 C w J (by simp;omega) (fun v hv=>by
  obtain⟨j,hj,rfl⟩:=Y0n.1 hv;have:=h1 j (by simpa using hj);simp at hj;simpa[hj] using this)
 simp only[X0] at G;simp only[Instr.storeAt,Instr.sureAddr,storeVar,Sem.run_bind,Sem.run_pure,Result.andThen_ok,Jk I];rw[Y0 (by omega)];exact G
theorem QpQ {b o k:Nat} {C:Array Value} {et:TypeId} {news:List Value} (J:w.heap[b]? =some (.cells C et (0,0))) (G:o+news.length<=C.toList.length) (hk:k<o∨o+news.length<=k):
  (w.setRow b (C.toList.take o++news++C.toList.drop (o+news.length)).toArray).cell? ⟨b,k,none⟩=w.cell? ⟨b,k,none⟩:=by
 have hs:=Qbw C.toList news o G;have h1:=setRow_heap w b C (C.toList.take o++news++C.toList.drop (o+news.length)).toArray et _ J
 by_cases I:k<C.size
 ·have e1:=Qcc h1 (o:=k) (by rw[hs];simpa using I);rw[e1,Qcc J I,QbJ _ _ _ _ G,Y0 (by omega)]
  congr 1
  simp
 ·have U:(C.toList.take o++news++C.toList.drop (o+news.length)).toArray[k]? =none:=XJ (by rw[hs];simp;omega);have O:C[k]? =none:=XJ (by omega);unfold World.cell?;simp only[h1,J,U,O]
theorem QrN (t:TypeId) (x:Value):(newVar t x).run P w=.ok ⟨w.heap.size,0,none⟩ (w.alloc (.cells x.cells t)):=by
 simp[newVar,newRow]
theorem Qmo {id:Nat} {t:TypeId} {x:Value} {cs:List V} (h:Sim P B w0 F ρ S a w) (hm:S.mentions id=false) (hl:ListR w (ZL B S.blks ρ) ρ cs x.cells)
  (Y:K (.ref id 0 0) ⟨S.base,S.nt,S.tmps,S.gds,(id,.box t cs)::S.blks,S.frames⟩) (I:QU id cs=false) (G:Nat.blt t 1000000=true):
  ∃w' ρ',(newVar t x).run P w=.ok ⟨w.heap.size,0,none⟩ w'∧Sim P B w0 F ρ' ⟨S.base,S.nt,S.tmps,S.gds,(id,.box t cs)::S.blks,S.frames⟩ a w'∧
   VR w' (ZL B ((id,.box t cs)::S.blks) ρ') ρ' (.ref id 0 0) (.pointer (some ⟨w.heap.size,0,none⟩))∧K (.ref id 0 0) ⟨S.base,S.nt,S.tmps,S.gds,(id,.box t cs)::S.blks,S.frames⟩:=by
 refine⟨_,ρ.set id ⟨w.heap.size,0,cs.length,1,1,false⟩,QrN t x,?_,?_,Y⟩
 ·refine QsZ h hm x.cells t rfl fun ow' keep=>?_;have O:bcl t=0:=by simp[bcl,G]
  have J:=hl.size;refine .box x.cells (et:=t) (by simp[Env.set]) (by simp[Env.set]) (by simp[Env.set]) (by simp[Env.set,O]) ?_ (by simp[Env.set,J]) (fun j hj=>by simpa[Env.set] using hl.one j (by omega)) fun j v hj=>?_
  ·simp only[Env.set,YG];exact heap_alloc_new w _
  ·have U:((ρ.set id ⟨w.heap.size,0,cs.length,1,1,false⟩) id).o+j=j:=by simp[Env.set]
   rw[U];refine(hl.vals j v hj).keep keep fun i hi=>Env.set_other fun e=>?_;subst e;have:=Zc hj hi;rw[I] at this;cases this
 ·have:(⟨w.heap.size,0,none⟩:Addr)=⟨((ρ.set id ⟨w.heap.size,0,cs.length,1,1,false⟩) id).b,((ρ.set id ⟨w.heap.size,0,cs.length,1,1,false⟩) id).o+0*((ρ.set id ⟨w.heap.size,0,cs.length,1,1,false⟩) id).sz+0,none⟩:=by
   simp[Env.set]
  rw[this];exact .ref (by simp[Env.set]) (by simp[Env.set])
def flat (n sz:Nat) (f:Nat->Nat->Value):List Value:=(List.range (n*sz)).map fun k=>f (k/sz) (k%sz)
theorem ZS {n sz f}:(flat n sz f).length=n*sz:=by simp[flat]
theorem Qfq {n sz:Nat} {f:Nat->Nat->Value} {i j:Nat} (hi:i<n) (hj:j<sz):(flat n sz f)[i*sz+j]? =some (f i j):=by
 have G:i*sz+j<n*sz:=by
  have:(i+1)*sz<=n*sz:=Yf _ (by omega);rw[Yj] at this;omega
 have h1:(i*sz+j)/sz=i:=by rw[Xv,Nat.mul_add_div (by omega),Nat.div_eq_of_lt hj];omega
 have h2:(i*sz+j)%sz=j:=by rw[Xv,Nat.mul_add_mod,Y0j hj]
 simp only[flat];rw[Yz,List.getElem?_range G];simp[h1,h2]
structure Src (P:Program) (w:World) (ow:Nat→Prop) (sz n:Nat) (row:Nat→List D) (val:Value):Prop where
 hdr:∃ad c,val=.slice ad n c
 rows:∀i,i<n→(row i).length=sz
 cells:∃f:Nat→Nat→Value,(∀w',w'.heap=w.heap→(Builtin.firstCells sz n val).run P w'=.ok (flat n sz f).toArray w')∧
  (∀i j d,i<n→(row i)[j]? =some d→DR w ow d (f i j))∧(∀i j,i<n→j<sz→(f i j).oneCell'=true)
theorem Qmp {sz n:Nat} {row:Nat->List D} {val:Value} {ad c} (G:val=.slice ad n c) (h:n=0∨ ∃(b o:Nat) (vals:Nat->Nat->Value),ad=some ⟨b,o,none⟩∧(∀i,i<n->(row i).length=sz)∧
  (∀i j d,i<n->(row i)[j]? =some d->w.cell? ⟨b,o+i*sz+j,none⟩=some (vals i j))∧(∀i j d,i<n->(row i)[j]? =some d->DR w ow d (vals i j))):Src P w ow sz n row val:=by
 rcases h with Y|⟨b,o,vals,U,h1,h2,h3⟩
 ·subst Y;refine⟨⟨ad,c,G⟩,fun i hi=>by omega,fun _ _=>undef,fun w' _=>?_,fun i j d hi=>by omega,fun i j hi=>by omega⟩;subst G
  cases ad<;>simp[Builtin.firstCells,loadCells,loadCellsFrom,flat]
 ·refine⟨⟨ad,c,G⟩,h1,vals,fun w' hw=>?_,h3,fun i j hi hj=>(h3 i j _ hi (Y7 (by rw[h1 i hi];exact hj))).oneCell⟩;subst G U;refine run_firstCells_some w' sz n ⟨b,o,none⟩ n c _ ZS fun j v hj=>?_;have I:=(Y8.1 hj).1;rw[ZS] at I;have O:0<sz:=by
   rcases X9 sz with h|h
   ·rw[h,Y0r] at I;omega
   ·exact h
  have hi:j/sz<n:=Y02 (by rw[Xv];exact I);have J:j%sz<sz:=Nat.mod_lt _ O;have e:j/sz*sz+j%sz=j:=Y0k j sz;rw[<-e,Qfq hi J] at hj
  cases hj
  have:=h2 (j/sz) (j%sz) _ hi (Y7 (by rw[h1 _ hi];exact J));rw[Xi,e] at this;rw[Addr.add_mid];simpa[World.cell?,hw] using this
theorem Qds {blk:Nat->Option Blk} {sz n:Nat} {row:Nat->List D} {v:V} {val:Value} (hb:∀id b,blk id=some b->BR w ow ρ id b) (hv:VR w ow ρ v val) (h:J6 blk sz v=some (n,row)):
  Src P w ow sz n row val:=by
 unfold J6 at h;split at h
 ·rename_i id off len;split at h
  ·rename_i t s n' row' I;split at h
   ·rename_i hs;have hs:=Y5 hs;simp only[Y9,YY] at h;obtain⟨rfl,rfl⟩:=h;have⟨ad,c,h1,h2,h3⟩:=hv.osl_inv;rcases h3 with ⟨h3,_⟩|⟨h3,h4,h5,h6⟩
    ·exact Qmp h1 (.inl h3)
    ·refine Qmp h1 (.inr ?_)
     cases hb _ _ I with
     |arr0 h _ _ _=>rw[h] at h3;cases h3
     |arr C et0 g1 g2 g3 g4 g5 g6 g7 g8=>
     have G:∀i,Zy off row' i=row' (off+i):=fun i=>by cases off<;>simp[Zy]
     refine⟨(ρ id).b,(ρ id).o+off*(ρ id).sz,fun i j=>C.getD ((ρ id).o+(off+i)*s+j) undef,h5,fun i hi=>?_,fun i j d hi J=>?_,fun i j d hi J=>?_⟩
     ·rw[G,g5 _ (by omega),hs]
     ·rw[G] at J;have hj:=(Y8.1 J).1;rw[g5 _ (by omega)] at hj;have Y:(off+i+1)*s<=(ρ id).cap*s:=Yf _ (by omega);rw[Yj (off+i)] at Y;have:=Qcc (w:=w) (o:=(ρ id).o+(off+i)*s+j) g6 (by omega);rw[g2,<-hs,show(ρ id).o+off*s+i*s+j=(ρ id).o+(off+i)*s+j by rw[Yj];omega];exact this
     ·rw[G] at J;exact g8 (off+i) j d (by omega) J
   ·cases h
  ·cases h
 ·rename_i n' row';split at h
  ·rename_i hl;have hl:=Y5 hl;simp only[Y9,YY] at h;obtain⟨rfl,rfl⟩:=h;have⟨ad,c,h1,h2⟩:=hv.sl_inv;rcases h2 with h2|⟨b,o,U,vals,h2,h3,h4,h5,h6,h7⟩
   ·exact Qmp h1 (.inl h2)
   ·rcases X9 n' with O|O
    ·exact Qmp h1 (.inl O)
    ·have:U=sz:=by rw[<-h5 0 O,hl]
     subst this;exact Qmp h1 (.inr ⟨b,o,vals,h2,h5,h6,h7⟩)
  ·cases h
 ·simp only[Y9,YY] at h;obtain⟨rfl,rfl⟩:=h
  cases hv with|d hv=>cases hv;exact Qmp rfl (.inl rfl)
 ·cases h
end Go.Ab
namespace Go.Ab
open Go.RowKit
variable {P:Program} {tb:Tb} {w:World} {ow:Nat→Prop} {ρ:Env} {a:Act} {B:Bd} {w0:World} {F:List (Array Value)} {S:St} {K:V→St→Prop}
theorem Qem {t t' ty e e':TypeId} {te} (ht:P.underlying t=some (.slice e)) (U:P.underlying t'=some (.slice e')) (Y:TIok P e te)
  {g o n cap m:Nat} {x:Value} {ad c} (hx:x=.slice ad m c) {G:Array Value} {et:TypeId} (hg:w.heap[g]? =some (.cells G et (0,0))) {news:List Value} (hn:(Builtin.firstCells te.size m x).run P w=.ok news.toArray w)
  (h1:∀u∈news,u.oneCell'=true) (I:n+m<=cap) (O:o+n*te.size+news.length<=G.size):
  (Builtin.append_ #[t,t'] ty #[.slice (some ⟨g,o,none⟩) n cap,x]).run P w=
   .ok (.slice (some ⟨g,o,none⟩) (n+m) cap) (w.setRow g (G.toList.take (o+n*te.size)++news++G.toList.drop (o+n*te.size+news.length)).toArray):=by
 subst hx;have J:=run_storeCells_at P g (o+n*te.size) et news 0 G w hg (by simpa using O) h1;simp only[X0] at J;simp[Builtin.append_,run_underlying ht,run_underlying U,Jk Y,Builtin.lenOf,I,hn,Addr.add_mid,J]
theorem Qen {t J ty e U:TypeId} {te} (ht:P.underlying t=some (.slice e)) (G:P.underlying J=some (.slice U)) (I:TIok P e te) {x:Value} {ad c} (Y:x=.slice ad 0 c)
  (O:(Builtin.firstCells te.size 0 x).run P w=.ok #[] w) {base:Option Addr} {cap:Nat}:
  (Builtin.append_ #[t,J] ty #[.slice base 0 cap,x]).run P w=.ok (.slice base 0 cap) w:=by
 subst Y
 cases base<;>simp[Builtin.append_,run_underlying ht,run_underlying G,Jk I,Builtin.lenOf,O,storeCells]
theorem Qeo {t t' ty e e':TypeId} {te} (ht:P.underlying t=some (.slice e)) (a3:P.underlying t'=some (.slice e')) (Y:TIok P e te)
  {n m:Nat} {r r':Nat->List D} {s x:Value} {base:Option Addr} {cap:Nat} (hs:s=.slice base n cap) (hS:Src P w ow te.size n r s) (hX:Src P w ow te.size m r' x) (I:cap<n+m)
  (hb:(n+m)*(te.bytes+1)<=70368744177664):
  ∃nc C,(Builtin.append_ #[t,t'] ty #[s,x]).run P w=.ok (.slice (some ⟨w.heap.size,0,none⟩) (n+m) nc) (w.drew.alloc (.cells C e))∧C.size=nc*te.size∧n+m<=nc∧
   ∀i,i<n+m->(Qey n r r' i).length=te.size∧∀j d,(Qey n r r' i)[j]? =some d->DR w ow d (C.getD (i*te.size+j) undef):=by
 have⟨i,z,hi,hs1,a7,hz,a9,hzl,hzr⟩:=Y.info;have⟨f,f1,f2,f3⟩:=hS.cells;have⟨U,g1,g2,g3⟩:=hX.cells;have⟨ad,c,hx⟩:=hX.hdr;have a5:n+m<=grownCap w (n+m) cap e:=grownCap_ge w _ _ e;have hbytes:(n+m)*te.bytes+(n+m)<=70368744177664:=by rw[Nat.mul_add,Nat.mul_one] at hb;exact hb
 have a6:¬(281474976710656<Builtin.nextslicecap (n+m) cap*i.bytes):=by
  have:=growslice_fits (bytes:=te.bytes) I (by omega);rw[a7];omega
 have b2:¬(9223372036854775807<((n:Int)+(m:Int))):=by omega
 have a8:¬(n+m<=cap):=by omega
 refine⟨grownCap w (n+m) cap e,(flat n te.size f).toArray++(flat m te.size U).toArray++Builtin.zeroCells z.cells (grownCap w (n+m) cap e-(n+m)),?_,?_,a5,fun q hq=>?_⟩
 ·have a1:=f1 w.drew rfl;have a2:=g1 w.drew rfl;subst hs hx;simp[Builtin.append_,run_underlying ht,run_underlying a3,Jk Y,zeroValue,typeInfo,hi,hz,Builtin.lenOf,a8,b2,a6,Question.forced,a1,a2,newRow,grownCap]
  congr 2;apply Xc;simp
 ·have h1:((flat n te.size f).toArray++(flat m te.size U).toArray++Builtin.zeroCells z.cells (grownCap w (n+m) cap e-(n+m))).size=n*te.size+m*te.size+(grownCap w (n+m) cap e-(n+m))*te.size:=by
   simp[ZS,Builtin.zeroCells,a9]
  rw[h1,<-Yj,<-Yj]
  congr 1;omega
 ·have e1:∀(q j:Nat),q<n+m->j<te.size->((flat n te.size f).toArray++(flat m te.size U).toArray++Builtin.zeroCells z.cells (grownCap w (n+m) cap e-(n+m))).getD (q*te.size+j) undef=if q<n then f q j else U (q-n) j:=by
   intro q j hq hj;have a4:(q+1)*te.size<=(n+m)*te.size:=Yf _ (by omega);rw[Yj,Yj] at a4;rw[Y6,Xw (by simp[ZS];omega)]
   by_cases G:q<n
   ·have J:(q+1)*te.size<=n*te.size:=Yf _ (by omega);rw[Yj] at J;rw[Y2 G,Xw (by simp[ZS];omega)];simp[Qfq G hj]
   ·have J:n*te.size<=q*te.size:=Yf _ (by omega);have e2:q*te.size+j-n*te.size=(q-n)*te.size+j:=by rw[Nat.sub_mul];omega
    rw[Y0 G,Array.getElem?_append_right (by simp[ZS];omega)];simp only[XH,ZS,e2];simp[Qfq (n:=m) (f:=U) (show q-n<m by omega) hj]
  simp only[Qey]
  by_cases G:q<n
  ·rw[Y2 G];refine⟨hS.rows q G,fun j d O=>?_⟩;have hj:j<te.size:=by have:=(Y8.1 O).1;have:=hS.rows q G;omega
   rw[e1 q j hq hj,Y2 G];exact f2 q j d G O
  ·rw[Y0 G];refine⟨hX.rows _ (by omega),fun j d O=>?_⟩;have hj:j<te.size:=by have:=(Y8.1 O).1;have:=hX.rows (q-n) (by omega);omega
   rw[e1 q j hq hj,Y0 G];exact g2 _ j d (by omega) O
theorem QeY {id:Nat} {J:St} (h:SimO P ow B w0 F ρ J a w) (hm:J.mentions id=false) (Y:∀b,ZL B J.blks ρ b->ow b) (how:∀b,ow b->b<w.heap.size) {n sz cap:Nat} {row:Nat->List D} {C:Array Value} {e:TypeId} {O:World}
  (U:O=w∨O=w.drew) (hC:cap*sz<=C.size) (hn:n<=cap) (hr:∀i,i<n->(row i).length=sz∧∀j d,(row i)[j]? =some d->DR w ow d (C.getD (i*sz+j) undef)):
  Sim P B w0 F (ρ.set id ⟨w.heap.size,0,sz,n,cap,false⟩) ⟨J.base,J.nt,J.tmps,J.gds,(id,.arr e sz n row)::J.blks,J.frames⟩ a (O.alloc (.cells C e))∧
  VR (O.alloc (.cells C e)) (ZL B ((id,.arr e sz n row)::J.blks) (ρ.set id ⟨w.heap.size,0,sz,n,cap,false⟩)) (ρ.set id ⟨w.heap.size,0,sz,n,cap,false⟩) (.osl id 0 n) (.slice (some ⟨w.heap.size,0,none⟩) n cap):=by
 have G:(O.alloc (.cells C e)).heap=(w.alloc (.cells C e)).heap:=by rcases U with rfl|rfl<;>rfl
 have I:O.os=w.os∧O.tape=w.tape∧O.output=w.output:=by rcases U with rfl|rfl<;>exact⟨rfl,rfl,rfl⟩
 refine⟨Qgp h hm Y (by rw[G];simp) (fun b hb _=>by rw[G];exact Below.heap_alloc w _ b hb) (fun b hb=>by rw[G];exact Below.heap_alloc w _ b (h.hB b hb)) (fun b k hc=>World.cell?_of_block (by rw[G];exact Below.heap_alloc w _ b (YH (h.below.clt b k hc) h.below.size))) (fun _=>.inl (Yi _))
  (fun _=>⟨fun a1=>absurd (h.hB _ a1) (Nat.lt_irrefl _),fun k hc=>absurd (YH (h.below.clt _ k hc) h.below.size) (Nat.lt_irrefl _)⟩)
  I.1 I.2.1 I.2.2 fun keep=>?_,?_⟩
 ·refine .arr C e (by simp[Env.set]) (by simp[Env.set]) (by simp[Env.set]) (by simpa[Env.set] using hn) (fun i hi=>(hr i hi).1) ?_ (by simpa[Env.set] using hC) fun i j d hi hd=>?_
  ·rw[G];simp only[Env.set,YG];exact heap_alloc_new w _
  ·simp only[Env.set,YG,Yg];exact((hr i hi).2 j d hd).keep keep
 ·have e1:(Value.slice (some ⟨w.heap.size,0,none⟩) n cap)=.slice (some ⟨((ρ.set id ⟨w.heap.size,0,sz,n,cap,false⟩) id).b,((ρ.set id ⟨w.heap.size,0,sz,n,cap,false⟩) id).o+0*((ρ.set id ⟨w.heap.size,0,sz,n,cap,false⟩) id).sz,none⟩) n (((ρ.set id ⟨w.heap.size,0,sz,n,cap,false⟩) id).cap-0):=by
   simp[Env.set]
  rw[e1];exact .osl (by simp[Env.set]) (by simp[Env.set]) (by simpa[Env.set] using hn)
theorem QdC {id:Nat} {G:St} (h:SimO P ow B w0 F ρ G a w) (hm:G.mentions id=false) (I:∀b,ZL B G.blks ρ b->ow b) {sz:Nat} {row:Nat->List D} {e:TypeId} (ad:Option Addr):
  Sim P B w0 F (ρ.set id ⟨0,0,sz,0,0,true⟩) ⟨G.base,G.nt,G.tmps,G.gds,(id,.arr e sz 0 row)::G.blks,G.frames⟩ a w∧
  VR w (ZL B ((id,.arr e sz 0 row)::G.blks) (ρ.set id ⟨0,0,sz,0,0,true⟩)) (ρ.set id ⟨0,0,sz,0,0,true⟩) (.osl id 0 0) (.slice ad 0 0):=by
 refine⟨Qgp h hm I (Yi _) (fun _ _ _=>rfl) (fun _ _=>rfl) (fun _ _ _=>rfl) (fun h=>by cases h) (fun h=>by cases h) rfl rfl rfl fun _=>.arr0 (by simp[Env.set]) (by simp[Env.set]) (by simp[Env.set]) rfl,.osl0 rfl (Yt _)⟩
end Go.Ab
namespace Go.Ab
open Go.RowKit
variable {P:Program} {tb:Tb} {w:World} {ρ:Env} {a:Act} {B:Bd} {w0:World} {F:List (Array Value)} {S:St} {K:V→St→Prop}
theorem Qfr {α:Type} (f:α->V) (id:Nat) (h:∀x,(f x).mentions id=false):∀l:List α,QU id (l.map f)=false
 |[]=>rfl
 |x::r=>by simp only[YC,QU,h x];exact Qfr f id h r
theorem Qgq (id:Nat) (v:Value):(Qmj v).mentions id=false:=by
 unfold Qmj;split<;>rfl
theorem QjY (id:Nat) (v:Value):(QkS v).mentions id=false:=by
 unfold QkS;split
 ·split
  ·simp only[V.mentions];exact Qfr _ _ (Qgq id) _
  ·rfl
 ·exact Qgq id v
theorem Qk0 {id:Nat} (h:S.mentions id=false) (al:List (Nat×Bool)) (x:Operand):(S.ev al x).mentions id=false:=by
 have⟨h1,h2,_,_⟩:=St.mentions_parts h
 cases x with
 |const v=>exact QjY id v
 |func f=>rfl
 |global g=>rfl
 |tmp t=>
  unfold St.ev;dsimp only;split
  ·rename_i g G;split
   ·cases hm:g.v.mentions id
    ·rfl
    ·have:=QeA (Qel G).1 hm;rw[h2] at this;cases this
   ·rfl
  ·unfold Qwj;split
   ·rename_i v hv
    cases hm:v.mentions id
    ·rfl
    ·have:=Qez hv hm;rw[h1] at this;cases this
   ·rfl
theorem Qhd {id:Nat} {v:V} (h:v.mentions id=false):QU id v.cells=false:=by
 cases v<;>simp_all [V.cells,V.mentions,QU]
theorem QdK (h:Sim P B w0 F ρ S a w) {b:Nat} (ho:ZL B S.blks ρ b):b<w.heap.size:=ho.elim (Qy2 h.blks) fun G=>h.hB _ (B.sub _ G)
theorem Qmb {r:List D} {o:Nat} {ds:List D} {sz:Nat} (h:r.length=sz):(QcO r o ds).length=sz:=by rw[Qbv,h]
theorem Qgr {id:Nat} {bs:List (Nat×Blk)} {b:Nat}:own (QcX id bs) ρ b->own bs ρ b:=by
 rintro⟨i,k,hk,hp,rfl⟩;have⟨_,I,G,_⟩:=QbI hk;exact⟨i,I,G,hp,rfl⟩
theorem QuV {id:Nat} {t:TypeId} {sz n:Nat} {row row':Nat->List D} (h:Sim P B w0 F ρ S a w) (h0:Qi S.blks id=some (.arr t sz n row)) (hr:∀i,i<n->row' i=row i):
  Sim P B w0 F ρ ⟨S.base,S.nt,S.tmps,S.gds,QfQ S.blks id (.arr t sz n row'),S.frames⟩ a w:=by
 have keep:Keep w (ZL B S.blks ρ) w (ZL B (QfQ S.blks id (.arr t sz n row')) ρ):=⟨Yi _,fun b _ ho=>⟨rfl,fun h=>ho (h.imp (Qkf h0) fun h=>h)⟩⟩;have G:∀i x,Qi (QfQ S.blks id (.arr t sz n row')) i=some x->∃O,Qi S.blks i=some O:=fun i x I=>by
  rcases JG I with ⟨rfl,_,b,hb⟩|⟨_,hb⟩
  ·exact⟨b,hb⟩
  ·exact⟨x,hb⟩
 refine⟨h.below,h.tab,h.hB,h.defers,h.nt,h.top.keep keep fun _ _=>rfl,fun i b hb=>?_,fun i j x y I hy=>?_,fun i x I=>?_,h.frames.1,fun i f' tm U a1=>(h.frames.2 i f' tm U a1).keep keep fun _ _=>rfl⟩
 ·rcases JG hb with ⟨rfl,rfl,_⟩|⟨hn,hb⟩
  ·have a2:=h.blks i _ h0;have:BR w (ZL B S.blks ρ) ρ i (.arr t sz n row'):=by
    cases a2 with
    |arr0 Y k2 k3 k4=>exact .arr0 Y k2 k3 k4
    |arr C et Y k2 k3 k4 k5 k6 k7 k8=>exact .arr C et Y k2 k3 k4 (fun i hi=>by rw[hr i hi];exact k5 i hi) k6 k7 fun i j d hi hd=>k8 i j d hi (by rw[<-hr i hi];exact hd)
   exact this.keep keep rfl (fun _=>rfl) fun _ _=>rfl
  ·exact(h.blks i b hb).keep keep rfl (fun _=>rfl) fun _ _=>rfl
 ·have⟨O,a3⟩:=G i x I;have⟨y0,J⟩:=G j y hy;exact h.sep i j O y0 a3 J
 ·rcases JG I with ⟨rfl,rfl,_⟩|⟨_,hb⟩
  ·have:=h.ge i (.arr t sz n row) h0;exact this
  ·exact h.ge i x hb
theorem Qep (hT:TOk P tb) (h:Sim P B w0 F ρ S a w) (o:Oper) (he:evE tb o.dst o.op S K):Eff P B w0 F a w (execOp a.eval o) K:=by
 obtain⟨dst,op,ty,pos,after,guard⟩:=o;obtain⟨base,nt,ts,gs,bs,fs⟩:=S;have hev:=h.evR
 cases op<;>simp only[evE,St.idK_eq] at he<;>first|exact he.no.elim|skip
 case alloc t=>
  split at he
  ·rename_i ti dst' hti hbl;split at he
   ·exact he.no.elim
   ·rename_i hm;rw[Za] at he;obtain⟨i,z,hi,hs1,hby,hz,hzs,hzl,hzr⟩:=(hT.ok _ _ hti).info;have hl:ListR w (ZL B bs ρ) ρ (ti.zero.map .d) z.cells:=by
     refine⟨by rw[hzs,Ya,hzl],fun j hj=>?_,fun j u hj=>?_⟩
     ·exact(hzr w (ZL B bs ρ) j _ (Y7 (by omega))).oneCell
     ·rw[Yz] at hj;obtain⟨d,hd,rfl⟩:=Yc.1 hj;exact .d (hzr w _ j d hd)
    obtain⟨w',ρ',h1,h2,h3,h4⟩:=Qmo (P:=P) (t:=t) (x:=z) (K:=K) h hm hl he (Qfr _ _ (fun _=>rfl) _) hbl;refine⟨_,_,w',ρ',_,_,?_,.inl rfl,h2,h3,h4⟩;simp only[execOp,Instr.alloc,Sem.run_bind,zeroValue,typeInfo,run_program,hi,hz,Result.andThen_ok,Sem.run_pure,h1]
  ·exact he.no.elim
 case box t x=>
  split at he
  ·rename_i dst' hbl;split at he
   ·exact he.no.elim
   ·rename_i hm;rw[Za] at he;simp only[XD,Bool.not_eq_false'] at hm;have hl:=Qea (hev.at x) hm.2;obtain⟨w',ρ',h1,h2,h3,h4⟩:=Qmo (P:=P) (t:=t) (x:=a.eval x) (K:=K) h hm.1 hl he (Qhd (Qk0 hm.1 _ _)) hbl;refine⟨_,_,w',ρ',_,_,?_,.inl rfl,h2,h3,h4⟩;simp only[execOp,Instr.box,Sem.run_bind,h1,Result.andThen_ok,Sem.run_pure]
  ·exact he.no.elim
 case store t p x=>
  split at he
  ·rename_i ti id row off hti hp;have hv:=hev.at x;obtain⟨h1,h2,h3⟩:=(hev.eq hp).ref_inv;split at he
   ·rename_i t' cs hcs hlk;simp only[Y4] at hcs;have hsz:=Y5 hcs.2;have hl:=Qea hv hcs.1;split at he
    ·rename_i hle;have hle:=Ys hle;rw[Za,ZV] at he;have hls:=hl.size
     cases h.blks id _ hlk with
     |box C g1 g2 g3 g4 g5 g6 g7 g8=>
     have e:(ρ id).o+0*(ρ id).sz+off=(ρ id).o+off:=by omega
     rw[e] at h1;have g6a:=g6.1;have gfit:cs.length<=(ρ id).cap*(ρ id).sz:=by rw[g3];exact Yf _ g4.2.1
     have hrun:=QjC (P:=P) (w:=w) (hT.ok _ _ hti) g5 (o:=(ρ id).o+off) (x:=a.eval x) (by omega) hl.one (by omega);have hfit:(ρ id).o+off+(a.eval x).cells.toList.length<=C.toList.length:=by simp;omega
     refine⟨.skip,undef,_,ρ,.any,_,?_,.inr ⟨rfl,rfl⟩,QkZ h hlk h2 (C.toList.take ((ρ id).o+off)++(a.eval x).cells.toList++C.toList.drop ((ρ id).o+off+(a.eval x).cells.toList.length)).toArray (by rfl) (fun _ k hk=>QpQ g5 hfit (by simp;omega)) fun ow' keep=>?_,.any,he⟩
     ·simp only[execOp,h1,Sem.run_bind,hrun,Result.andThen_ok,Sem.run_pure]
     ·have hs':=Qbw C.toList (a.eval x).cells.toList ((ρ id).o+off) hfit;refine .box _ g1 g2 (by rw[Qbv];exact g3) g4 (setRow_heap w _ C _ _ _ g5) (by rw[hs',Qbv];simpa using g6) (fun j hj=>?_) fun j u hj=>?_
      ·rw[QbJ _ _ _ _ hfit];rw[Qbv] at hj
       by_cases hc:(ρ id).o+off<=(ρ id).o+j∧(ρ id).o+j<(ρ id).o+off+(a.eval x).cells.toList.length
       ·rw[Y2 hc];have:=hl.one (j-off) (by simp at hc;omega);rw[show(ρ id).o+j-((ρ id).o+off)=j-off by omega];simpa using this
       ·rw[Y0 hc];have:=g7 j hj;simpa using this
      ·rw[QbJ _ _ _ _ hfit];rw[Qgn _ _ _ _ (by omega)] at hj;have hlen:(a.eval x).cells.toList.length=(St.ev ⟨base,nt,ts,gs,bs,fs⟩ [] x).cells.length:=by simpa using hls
       by_cases hc:off<=j∧j<off+(St.ev ⟨base,nt,ts,gs,bs,fs⟩ [] x).cells.length
       ·rw[Y2 hc] at hj;rw[Y2 (by omega)];have:=(hl.vals _ _ hj).keep (ρ':=ρ) keep fun _ _=>rfl;rw[show(ρ id).o+j-((ρ id).o+off)=j-off by omega];simpa using this
       ·rw[Y0 hc] at hj;rw[Y0 (by omega)];have:=(g8 _ _ hj).keep (ρ':=ρ) keep fun _ _=>rfl;simpa using this
    ·exact he.no.elim
   ·rename_i t' sz n rw' hcs hlk;simp only[Y4] at hcs;have hsz:=Y5 hcs.2;have hl:=Qea hv hcs.1;have hls:=hl.size;split at he
    ·rename_i ds hle hds;have hle:=Ys hle;obtain⟨rw1,hrw1,he⟩:=he;rw[ZV] at he;obtain⟨e1,e2⟩:=QgO hds
     cases h.blks id _ hlk with
     |arr0 g=>rw[g] at h2;cases h2
     |arr C et0 g1 g2 g3 g4 g5 g6 g7 g8=>
     have hm1:(row+1)*sz<=(ρ id).cap*sz:=Yf _ (by omega);rw[Yj] at hm1;rw[g2] at h1;have hrun:=QjC (P:=P) (w:=w) (hT.ok _ _ hti) g6 (o:=(ρ id).o+row*sz+off) (x:=a.eval x) (by omega) hl.one (by omega);have hfit:(ρ id).o+row*sz+off+(a.eval x).cells.toList.length<=C.toList.length:=by simp;omega
     have hlen:(a.eval x).cells.toList.length=ds.length:=by simpa[e1] using hls
     refine⟨.skip,undef,_,ρ,.any,_,?_,.inr ⟨rfl,rfl⟩,QkZ h hlk h2 (C.toList.take ((ρ id).o+row*sz+off)++(a.eval x).cells.toList++C.toList.drop ((ρ id).o+row*sz+off+(a.eval x).cells.toList.length)).toArray (by rfl) (fun e=>by cases e) fun ow' keep=>?_,.any,he⟩
     ·simp only[execOp,h1,Sem.run_bind,hrun,Result.andThen_ok,Sem.run_pure]
     ·have hs':=Qbw C.toList (a.eval x).cells.toList ((ρ id).o+row*sz+off) hfit;refine .arr _ et0 g1 g2 g3 g4 (fun i hi=>?_) (setRow_heap w _ C _ et0 _ g6) (by rw[hs'];simpa using g7) fun i j d hi hd=>?_
      ·rw[hrw1 i hi]
       by_cases hir:i=row
       ·simp only[hir,YG];exact Qmb (g5 row (by omega))
       ·simp only[hir,X6];exact g5 i hi
      ·rw[hrw1 i hi] at hd;rw[QbJ _ _ _ _ hfit]
       by_cases hir:i=row
       ·subst hir;simp only[YG] at hd;have hrl:=g5 i hi;rw[Qgn _ _ _ _ (by omega)] at hd
        by_cases hc:off<=j∧j<off+ds.length
        ·rw[Y2 hc] at hd;rw[Y2 (by omega)];have:=hl.vals _ _ (e2 _ _ hd)
         cases this with|d this=>
         have:=this.keep keep;rw[show(ρ id).o+i*sz+j-((ρ id).o+i*sz+off)=j-off by omega];simpa using this
        ·rw[Y0 hc] at hd;rw[Y0 (by omega)];have:=(g8 i j d hi hd).keep keep;simpa using this
       ·simp only[hir,X6] at hd;have hj:=(Y8.1 hd).1;rw[g5 i hi] at hj;have hdis:¬((ρ id).o+row*sz+off<=(ρ id).o+i*sz+j∧(ρ id).o+i*sz+j<(ρ id).o+row*sz+off+(a.eval x).cells.toList.length):=by
         intro hc;rcases Nat.lt_or_gt_of_ne hir with hlt|hgt
         ·have:(i+1)*sz<=row*sz:=Yf _ (by omega);rw[Yj] at this;omega
         ·have:(row+1)*sz<=i*sz:=Yf _ (by omega);rw[Yj] at this;omega
        rw[Y0 hdis];have:=(g8 i j d hi hd).keep keep;simpa using this
    ·exact he.no.elim
   ·exact he.no.elim
  ·exact he.no.elim
 case makeSlice t l c=>
  split at he
  ·rename_i e s' by' z' q dst' hti
   split at he
   ·rename_i k sz byt z q' n m hte hl hc;have hl:=(hev.eq hl).int_inv;have hc:=(hev.eq hc).int_inv;split at he
    ·exact he.no.elim
    ·rename_i hm;obtain⟨⟨b1,b2,b3,b4⟩,n1,rw1,hn1,hrw1,he⟩:=he;subst hn1;obtain⟨i,z0,hi,hs1,hby,hz,hzs,hzl,hzr⟩:=(hT.ok _ _ hte).info;dsimp only at hs1 hby hzs hzl hzr;have hrun:=run_make (P:=P) w t e i z0 (ZX (hT.ok _ _ hti) rfl) hi hz .i64 .i64 n m b1 b2 (by rw[hby,Int.mul_comm];omega) (by omega);have hsn:=QeY (w:=w) h.o hm (fun _ h=>h) (fun _ ho=>QdK h ho) (n:=n.toNat) (sz:=sz) (cap:=m.toNat) (row:=rw1) (C:=madeCells z0.cells (m.toNat*i.size)) (e:=e) (.inl rfl)
      (by rw[size_madeCells,hs1];exact Yi _) (by omega) fun q hq=>⟨by rw[hrw1 q hq];exact hzl,fun j d hd=>by
       rw[hrw1 q hq] at hd;have hj:=(Y8.1 hd).1;have hlt:q*sz+j<m.toNat*sz:=by
        have:(q+1)*sz<=m.toNat*sz:=Yf _ (by omega);rw[Yj] at this;omega
       have e2:(q*sz+j)%sz=j:=by rw[Xv,Nat.mul_add_mod,Y0j (by omega)]
       have e3:(madeCells z0.cells (m.toNat*i.size)).getD (q*sz+j) undef=z0.cells.getD j undef:=by
        simp[madeCells,hs1,hlt,hzs,e2,show j<sz by omega]
       rw[e3];exact hzr w _ j d hd⟩
     refine⟨_,_,_,_,_,_,?_,.inl rfl,hsn.1,hsn.2,he⟩;simp only[execOp,hl,hc,Sem.run_bind,hrun,Result.andThen_ok,Sem.run_pure]
   ·exact he.no.elim
  ·exact he.no.elim
 case buildSlice t len parts=>
  split at he
  ·rename_i e s' by' z' q dst' hti
   split at he
   ·rename_i k sz byt z q' hte;split at he
    ·rename_i rs hrs hm hle;split at he
     ·rename_i hlen;have hlen:=Y5 hlen;obtain⟨hk,hr⟩:=QiW hev parts;obtain⟨n1,rw1,hn1,hrw1,he⟩:=he;rw[hn1] at hrw1 he;obtain⟨C,h1,h2,h3⟩:=Qha (P:=P) (w:=w) (ow:=ZL B bs ρ) (ρ:=ρ) hT hti rfl hte len (parts.map fun(i,x)=>(i,a.eval x)) hk hr hrs hlen (Ys hle);have hsn:=QeY (w:=w) h.o hm (fun _ h=>h) (fun _ ho=>QdK h ho) (n:=len) (sz:=sz) (cap:=len) (row:=rw1) (C:=C) (e:=e) (.inl rfl) (by rw[h2];exact Yi _) (Yi _) fun q hq=>by rw[hrw1 q hq];exact h3 q hq
      refine⟨_,_,_,_,_,_,?_,.inl rfl,hsn.1,hsn.2,he⟩;simp only[execOp,Sem.run_bind,h1,Result.andThen_ok,Sem.run_pure]
     ·exact he.no.elim
    ·exact he.no.elim
   ·exact he.no.elim
  ·exact he.no.elim
 case call c=>
  split at he
  case h_3=>exact he.no.elim
  case h_2=>
   rename_i hcal;split at he
   case h_2=>exact he.no.elim
   rename_i s t hargs htys;have hargs:c.args=#[s]:=by apply Xc;simpa using hargs
   have htys:c.argTypes=#[t]:=by apply Xc;simpa using htys
   have hrun:∀w',(execOp a.eval ⟨dst,.call c,ty,pos,after,guard⟩).run P w'=((Builtin.clear_ #[t] ty #[a.eval s]>>=fun v=>(pure (.value v):Sem Next)).run P w'):=fun w'=>by
    simp only[execOp,resolve,hcal,hargs,htys,pure_bind,invoke,builtin,XL,YC,Y06]
   have fin:∀ {v w' ρ' S'},(Builtin.clear_ #[t] ty #[a.eval s]).run P w=.ok v w'->Sim P B w0 F ρ' S' a w'->K .any S'->Eff P B w0 F a w (execOp a.eval ⟨dst,.call c,ty,pos,after,guard⟩) K:=
    fun h1 h2 h4=>⟨_,_,_,_,.any,_,by rw[hrun,Sem.run_bind,h1];rfl,.inl rfl,h2,.any,h4⟩
   split at he
   case h_2=>exact he.no.elim
   rename_i e s' by' z' q hti
   have hu:=ZX (hT.ok _ _ hti) rfl;split at he
   case h_2=>exact he.no.elim
   rename_i kk sz byt zz qq id off len hte hsv;split at he
   case h_2=>exact he.no.elim
   rename_i t' sz' n rw0 hlk;split at he
   case h_2=>exact he.no.elim
   rename_i hsz;have hsz:=Y5 hsz;subst hsz;obtain⟨rw1,hrw1,he⟩:=he;rw[ZV] at he;obtain⟨ad,cap,h1,h2,h3⟩:=(hev.eq hsv).osl_inv;obtain⟨i0,z0,hi0,hs1,hby,hz,hzs,hzl,hzr⟩:=(hT.ok _ _ hte).info;dsimp only at hs1 hzs hzl hzr;rcases X9 len with hl0|hl0
   ·subst hl0;have g1:(Builtin.clear_ #[t] ty #[a.eval s]).run P w=.ok (.tuple #[]) w:=by
     rw[h1]
     cases ad<;>simp[Builtin.clear_,run_underlying hu]
    refine fin g1 (QuV h hlk fun i hi=>?_) he;exact(hrw1 i hi).2 (by omega)
   ·rcases h3 with ⟨h3,_⟩|⟨hp,h4,h5,h6⟩
    ·omega
    ·have hb:=h.blks id _ hlk
     cases hb with
     |arr0 g=>rw[g] at hp;cases hp
     |arr C et0 g1 g2 g3 g4 g5 g6 g7 g8=>
     rw[g2] at h5;have hcm:(off+len)*sz'<=(ρ id).cap*sz':=Yf _ (by omega);rw[Yj] at hcm;have hzc:(Builtin.zeroCells z0.cells len).toList.length=len*sz':=by simp[Builtin.zeroCells,hzs]
     have hone:∀u∈(Builtin.zeroCells z0.cells len).toList,u.oneCell'=true:=fun u hu=>by
      simp only[Builtin.zeroCells,Array.toList_map,YI] at hu;obtain⟨i,hi,rfl⟩:=hu;have hi:i<len*z0.cells.size:=by simpa using hi
      have hs:0<z0.cells.size:=by
       rcases X9 z0.cells.size with e|e
       ·rw[e,Y0r] at hi;omega
       ·exact e
      have hlt:i%z0.cells.size<z0.cells.size:=Nat.mod_lt _ hs;have:=(hzr w (fun _=>False) (i%z0.cells.size) _ (Y7 (by omega))).oneCell;rw[getElem!_pos z0.cells (i%z0.cells.size) hlt];simpa[Y6,hlt] using this
     have hfit:(ρ id).o+off*sz'+(Builtin.zeroCells z0.cells len).toList.length<=C.toList.length:=by rw[hzc];simp;omega
     have hst:=run_storeCells_at P (ρ id).b ((ρ id).o+off*sz') et0 (Builtin.zeroCells z0.cells len).toList 0 C w g6 (by simpa using hfit) hone;simp only[X0] at hst;have hzv:(zeroValue e).run P w=.ok z0 w:=by simp[zeroValue,typeInfo,hi0,hz]
     obtain⟨m,rfl⟩:∃m,len=m+1:=⟨len-1,by omega⟩;have g0:(Builtin.clear_ #[t] ty #[a.eval s]).run P w=.ok (.tuple #[]) (w.setRow (ρ id).b (C.toList.take ((ρ id).o+off*sz')++(Builtin.zeroCells z0.cells (m+1)).toList++C.toList.drop ((ρ id).o+off*sz'+(Builtin.zeroCells z0.cells (m+1)).toList.length)).toArray):=by
      rw[h1,h5];simp[Builtin.clear_,run_underlying hu,hzv,hst]
     refine fin g0 (QkZ h hlk hp _ (by rfl) (fun e=>by cases e) fun ow' keep=>?_) he;have hs':=Qbw C.toList (Builtin.zeroCells z0.cells (m+1)).toList ((ρ id).o+off*sz') hfit;refine .arr _ et0 hp g2 g3 g4 (fun i hi=>?_) (setRow_heap w _ C _ et0 _ g6) (by rw[hs'];simpa using g7) fun i j d hi hd=>?_
     ·by_cases hc:off<=i∧i<off+(m+1)
      ·rw[<-((hrw1 i hi).1 hc).len];exact hzl
      ·rw[(hrw1 i hi).2 hc];exact g5 i hi
     ·rw[QbJ _ _ _ _ hfit]
      by_cases hc:off<=i∧i<off+(m+1)
      ·obtain⟨d0,hd0,hle⟩:=((hrw1 i hi).1 hc).get hd;refine DR.zle hle ?_;replace hd:=hd0;have hj:j<sz':=by have:=(Y8.1 hd).1;omega
       have hm1:(i-off+1)*sz'<=(m+1)*sz':=Yf _ (by omega);rw[Yj,Y0b] at hm1;have hm2:i*sz'=off*sz'+(i-off)*sz':=by rw[<-Yj];congr 1;omega
       rw[Y2 (by rw[hzc];omega)];have e4:(ρ id).o+i*sz'+j-((ρ id).o+off*sz')=(i-off)*sz'+j:=by omega
       rw[e4];have e5:(Builtin.zeroCells z0.cells (m+1)).toList.getD ((i-off)*sz'+j) undef=z0.cells.getD j undef:=by
        have e2:((i-off)*sz'+j)%sz'=j:=by rw[Xv,Nat.mul_add_mod,Y0j (by omega)]
        have e3:(i-off)*sz'+j<(m+1)*sz':=by omega
        simp[Builtin.zeroCells,hzs,e3,e2,Y1,Y6,show j<sz' by omega]
       rw[e5];exact hzr _ _ j d0 hd
      ·rw[(hrw1 i hi).2 hc] at hd;have hj:j<sz':=by have:=(Y8.1 hd).1;rw[g5 i hi] at this;exact this
       have hdis:¬((ρ id).o+off*sz'<=(ρ id).o+i*sz'+j∧(ρ id).o+i*sz'+j<(ρ id).o+off*sz'+(Builtin.zeroCells z0.cells (m+1)).toList.length):=by
        rw[hzc];intro hh;rcases YV i off with hlt|hge
        ·have:(i+1)*sz'<=off*sz':=Yf _ (by omega);rw[Yj] at this;omega
        ·have:(off+(m+1))*sz'<=i*sz':=Yf _ (by omega);rw[Yj] at this;omega
       rw[Y0 hdis];have:=(g8 i j d hi hd).keep keep;simpa using this
  rename_i hcal;split at he
  case h_2=>exact he.no.elim
  rename_i s x t t' hargs htys;have hargs:c.args=#[s,x]:=by apply Xc;simpa using hargs
  have htys:c.argTypes=#[t,t']:=by apply Xc;simpa using htys
  have hrun:∀w',(execOp a.eval ⟨dst,.call c,ty,pos,after,guard⟩).run P w'=((Builtin.append_ #[t,t'] ty #[a.eval s,a.eval x]>>=fun v=>(pure (.value v):Sem Next)).run P w'):=fun w'=>by
   simp only[execOp,resolve,hcal,hargs,htys,pure_bind,invoke,builtin,XL,YC,Y06]
  have fin:∀ {v w' ρ' x' S'},(Builtin.append_ #[t,t'] ty #[a.eval s,a.eval x]).run P w=.ok v w'->Sim P B w0 F ρ' S' a w'->VR w' (ZL B S'.blks ρ') ρ' x' v->K x' S'->Eff P B w0 F a w (execOp a.eval ⟨dst,.call c,ty,pos,after,guard⟩) K:=
   fun h1 h2 h3 h4=>⟨_,_,_,_,_,_,by rw[hrun,Sem.run_bind,h1];rfl,.inl rfl,h2,h3,h4⟩
  split at he
  case h_2=>exact he.no.elim
  rename_i e s' by' z' q e' s2 by2 z2 q2 dst' hti hti'
  have hu:=ZX (hT.ok _ _ hti) rfl;have hu':=ZX (hT.ok _ _ hti') rfl;split at he
  case h_2=>exact he.no.elim
  rename_i kk sz byt zz qq hte;have hteok:=hT.ok _ _ hte;split at he
  case h_2=>exact he.no.elim
  rename_i n r m r' hcs hcx;have hS:=Qds (P:=P) (w:=w) (ow:=ZL B bs ρ) (ρ:=ρ) h.blks (hev.at s) hcs;have hX:=Qds (P:=P) (w:=w) (ow:=ZL B bs ρ) (ρ:=ρ) h.blks (hev.at x) hcx;obtain⟨adx,cx,hxv⟩:=hX.hdr;split at he
  ·rename_i id off len hsv;obtain⟨hb,n1,rw1,hn1,hrw1,he⟩:=he;rw[QbX,QcN,ZV,Qej] at he;subst hn1;have hk:=Qou h.o id;have hkm:=St.kill_mentions ⟨base,nt,ts,gs,bs,fs⟩ id;obtain⟨ad,cap,h1,h2,h3⟩:=(hev.eq hsv).osl_inv;have hn:n=len:=by
    obtain⟨ad',c',h4⟩:=hS.hdr;rw[h1] at h4;cases h4;rfl
   subst hn;rcases YV cap (n+m) with hgrow|hroom
   ·obtain⟨nc,C,g1,g2,g3,g4⟩:=Qeo (P:=P) (ty:=ty) hu hu' hteok h1 hS hX hgrow hb;have hsn:=QeY (w:=w) hk hkm (fun _ h=>h.imp Qgr fun h=>h) (fun _ ho=>QdK h ho) (n:=n+m) (sz:=sz) (cap:=nc) (row:=rw1) (C:=C) (e:=e) (.inr rfl) (by rw[g2];exact Yi _) g3 fun q hq=>by rw[hrw1 q hq];exact g4 q hq
    exact fin g1 hsn.1 hsn.2 he
   ·rcases h3 with ⟨h3,h4⟩|⟨h3,h4,h5,h6⟩
    ·have hm0:m=0:=by omega
     subst hm0 h3 h4;obtain⟨f,f1,_,_⟩:=hX.cells;have hf:=f1 w rfl;have g1:=Qen (P:=P) (w:=w) (ty:=ty) hu hu' hteok hxv (by simpa[flat] using hf) (base:=ad) (cap:=0);have hsn:=QdC (w:=w) hk hkm (fun _ h=>h.imp Qgr fun h=>h) (sz:=sz) (row:=rw1) (e:=e) ad;exact fin (by rw[h1];exact g1) hsn.1 hsn.2 he
    ·obtain⟨t0,n0,row0,hlk⟩:∃t0 n0 row0,Qi bs id=some (.arr t0 sz n0 row0):=by
      rw[hsv] at hcs;simp only[J6] at hcs;split at hcs
      ·rename_i t1 s1 n1 row1 hlk;split at hcs
       ·rename_i hbq;exact⟨t1,n1,row1,by rw[<-Y5 hbq];exact hlk⟩
       ·cases hcs
      ·cases hcs
     cases h.blks id _ hlk with
     |arr0 g=>rw[g] at h3;cases h3
     |arr C et0 g1 g2 g3 g4 g5 g6 g7 g8=>
     obtain⟨f,f1,f2,f3⟩:=hX.cells;have hge:=h.ge id _ hlk h3;have hmul:(off+(n+m))*sz<=(ρ id).cap*sz:=Yf _ (by omega);rw[Yj,Yj] at hmul;subst h5;rw[g2] at h1;have hrm:=Qem (P:=P) (w:=w) (ty:=ty) (te:=⟨kk,sz,byt,zz,qq⟩) hu hu' hteok (n:=n) (cap:=cap) hxv g6 (o:=(ρ id).o+off*sz) (news:=flat m sz f) (f1 w rfl)
      (fun u hu=>by
       obtain⟨j,hj,rfl⟩:=Y0n.1 hu;rw[ZS] at hj;have hsz:0<sz:=by
        rcases X9 sz with h|h
        ·rw[h,Y0r] at hj;omega
        ·exact h
       have hi:j/sz<m:=Y02 (by rw[Xv];exact hj);have hj2:j%sz<sz:=Nat.mod_lt _ hsz;have e0:=Qfq (f:=f) hi hj2;rw[Y0k j sz] at e0;rw[(Y8.1 e0).2];exact f3 _ _ hi hj2) hroom (by rw[ZS];dsimp only;omega)
     dsimp only at hrm;have hfit:(ρ id).o+off*sz+n*sz+(flat m sz f).length<=C.toList.length:=by rw[ZS];simp;omega
     have hnown:¬own (QcX id bs) ρ (ρ id).b:=by
      rintro⟨i,k,hk,hp,hbi⟩;obtain⟨hne,k0,hk0,_⟩:=QbI hk;exact hne (h.sep i id _ _ hk0 hlk hp h3 hbi)
     have hsn:=Qgp (loc:=⟨(ρ id).b,(ρ id).o+off*sz,sz,n+m,cap,false⟩) (blk:=.arr e sz (n+m) rw1)
      (w':=w.setRow (ρ id).b (C.toList.take ((ρ id).o+off*sz+n*sz)++flat m sz f++C.toList.drop ((ρ id).o+off*sz+n*sz+(flat m sz f).length)).toArray) hk hkm (fun _ h=>h.imp Qgr fun h=>h) (by simp)
      (fun b hb0 hb1=>setRow_other w _ b _ fun e=>by
       subst e;rcases hb1 with hb1|hb1
       ·exact hb1 (.inl ⟨id,_,hlk,h3,rfl⟩)
       ·exact hnown hb1)
      (fun b hb0=>setRow_other w _ b _ (fun e=>hge.blk (e▸hb0))) (fun b k hc=>by
       by_cases e:b=(ρ id).b
       ·subst e;have:=(hge.cel k hc).1
        cases this
       ·exact World.cell?_of_block (setRow_other w _ b _ e)) (fun _=>.inr ⟨.inl ⟨id,_,hlk,h3,rfl⟩,hnown⟩)
      (fun _=>⟨hge.blk,fun k hc=>by have:=(hge.cel k hc).1;cases this⟩) rfl rfl rfl fun keep=>by
       have hsz':=Qbw C.toList (flat m sz f) ((ρ id).o+off*sz+n*sz) hfit;refine .arr _ et0 (by simp[Env.set]) (by simp[Env.set]) (by simp[Env.set]) (by simpa[Env.set] using hroom) (fun i hi=>?_) (by simp only[Env.set,YG];exact setRow_heap w _ C _ et0 _ g6) ?_ fun i j d hi hd=>?_
       ·rw[hrw1 i hi];simp only[Qey]
        by_cases hin:i<n
        ·rw[Y2 hin];exact hS.rows i hin
        ·rw[Y0 hin];exact hX.rows _ (by omega)
       ·rw[hsz'];simp only[Env.set,YG];have:off*sz+cap*sz=(ρ id).cap*sz:=by rw[<-Yj];congr 1;omega
        simp;omega
       ·rw[QbJ _ _ _ _ hfit];have hfl:(flat m sz f).length=m*sz:=ZS;simp only[Env.set,YG];rw[hrw1 i hi] at hd;simp only[Qey] at hd
        by_cases hin:i<n
        ·rw[Y2 hin] at hd;have hj:j<sz:=by have:=(Y8.1 hd).1;have:=hS.rows i hin;omega
         have hm3:(i+1)*sz<=n*sz:=Yf _ (by omega);rw[Yj] at hm3;rw[Y0 (by omega)];obtain⟨f0,_,h02,_⟩:=hS.cells;have hrow:∃row0,r=Zy off row0∧Qi bs id=some (.arr t0 sz n0 row0):=by
          rw[hsv] at hcs;simp only[J6,hlk] at hcs;split at hcs
          ·simp only[Y9,YY] at hcs;exact⟨_,hcs.2.symm,hlk⟩
          ·cases hcs
         obtain⟨row1,hr1,hr2⟩:=hrow;rw[hlk] at hr2
         cases hr2
         have hview:Zy off row0 i=row0 (off+i):=by cases off<;>simp[Zy]
         rw[hr1,hview] at hd;have:=(g8 (off+i) j d (by omega) hd).keep keep;rw[show(ρ id).o+off*sz+i*sz+j=(ρ id).o+(off+i)*sz+j by rw[Yj];omega];simpa using this
        ·rw[Y0 hin] at hd;have hj:j<sz:=by have:=(Y8.1 hd).1;have:=hX.rows (i-n) (by omega);omega
         have hm3:n*sz<=i*sz:=Yf _ (by omega);have hm4:(i+1)*sz<=(n+m)*sz:=Yf _ (by omega);rw[Yj,Yj] at hm4;rw[Y2 (by omega)];have e4:(ρ id).o+off*sz+i*sz+j-((ρ id).o+off*sz+n*sz)=(i-n)*sz+j:=by rw[Nat.sub_mul];omega
         rw[e4,Y1,Qfq (n:=m) (by omega) hj];exact(f2 (i-n) j d (by omega) hd).keep keep
     refine fin (by rw[h1];exact hrm) hsn ?_ he;have e1:(Value.slice (some ⟨(ρ id).b,(ρ id).o+off*sz,none⟩) (n+m) cap)=.slice (some ⟨((ρ.set id ⟨(ρ id).b,(ρ id).o+off*sz,sz,n+m,cap,false⟩) id).b,((ρ.set id ⟨(ρ id).b,(ρ id).o+off*sz,sz,n+m,cap,false⟩) id).o+0*((ρ.set id ⟨(ρ id).b,(ρ id).o+off*sz,sz,n+m,cap,false⟩) id).sz,none⟩) (n+m) (((ρ.set id ⟨(ρ id).b,(ρ id).o+off*sz,sz,n+m,cap,false⟩) id).cap-0):=by
      simp[Env.set]
     rw[e1];exact .osl (by simp[Env.set]) (by simp[Env.set]) (by simpa[Env.set] using hroom)
  ·rename_i hsv;obtain⟨ad0,h1⟩:∃ad,a.eval s=.slice ad 0 0:=by
    have:=hev.eq hsv
    cases this with|d this=>generalize a.eval s=y at*;cases this;exact⟨_,rfl⟩
   have hn:n=0:=by
    obtain⟨ad',c',h4⟩:=hS.hdr;rw[h1] at h4;cases h4;rfl
   subst hn;split at he
   ·exact he.no.elim
   ·rename_i hm;obtain⟨hb,n1,rw1,hn1,hrw1,he⟩:=he;rw[hn1] at hrw1 he;rcases X9 m with hm0|hm0
    ·subst hm0;obtain⟨f,f1,_,_⟩:=hX.cells;have hf:=f1 w rfl;have g1:=Qen (P:=P) (w:=w) (ty:=ty) hu hu' hteok hxv (by simpa[flat] using hf) (base:=ad0) (cap:=0);have hsn:=QdC (w:=w) h.o hm (fun _ h=>h) (sz:=sz) (row:=rw1) (e:=e) ad0;exact fin (by rw[h1];exact g1) hsn.1 hsn.2 he
    ·obtain⟨nc,C,g1,g2,g3,g4⟩:=Qeo (P:=P) (ty:=ty) hu hu' hteok h1 hS hX (by omega) hb;rw[Yg] at g1 g3;have hsn:=QeY (w:=w) h.o hm (fun _ h=>h) (fun _ ho=>QdK h ho) (n:=m) (sz:=sz) (cap:=nc) (row:=rw1) (C:=C) (e:=e) (.inr rfl) (by rw[g2];exact Yi _) g3 fun i hi=>by
      rw[hrw1 i hi];have:=g4 i (by omega);simpa[Qey] using this
     exact fin g1 hsn.1 hsn.2 he
  ·exact he.no.elim
end Go.Ab
namespace Go.Ab
open Go.RowKit
variable {P:Program} {tb:Tb} {w:World} {ow ow':Nat→Prop} {ρ:Env} {a:Act} {B:Bd} {w0:World} {F:List (Array Value)} {S:St}
theorem Zq (off:Nat) (row:Nat->List D) (i:Nat):Zy off row i=row (off+i):=by cases off<;>simp[Zy]
def Qw5:Option Blk->Option (Nat->List D)
 |some (.arr _ _ _ row)=>some row
 |some (.box t cs)=>(match bcl t,QrI cs with
  |n+1,some ds=>some (Qor (cs.length/(n+1)) ds)
  |0,some ds=>some fun _=>ds
  |_,none=>none)
 |none=>none
structure FR (w:World) (ow:Nat→Prop) (l:Loc) (row:Nat→List D):Prop where
 cells:l.ph=false→∃C et,w.heap[l.b]? =some (.cells C et (0,0))∧(∀i,i<l.n→(row i).length=l.sz)∧∀i j d,i<l.n→(row i)[j]? =some d→l.o+i*l.sz+j<C.size∧DR w ow d (C.getD (l.o+i*l.sz+j) undef)
theorem QrO {id:Nat} {b:Blk} {row:Nat->List D} (hb:BR w ow ρ id b) (h:Qw5 (some b)=some row):FR w ow (ρ id) row:=by
 cases hb with
 |arr0 k1=>exact⟨fun h0=>by rw[k1] at h0;cases h0⟩
 | @arr t sz n row0 C et k1 k2 k3 Y U k6 k7 k8=>
  simp only[Qw5,Y9] at h;subst h;refine⟨fun _=>⟨C,et,k6,fun i hi=>by rw[k2];exact U i (by omega),fun i j d hi G=>?_⟩⟩;have hj:j<sz:=by
   have:=U i (by omega);have:=(Y8.1 G).1;omega
  have hm:(i+1)*sz<=(ρ id).cap*sz:=Yf _ (by omega);rw[Yj] at hm;rw[k2];exact⟨by omega,k8 i j d (by omega) G⟩
 | @box t cs C et k1 k2 k3 Y U k6 k7 k8=>
  simp only[Qw5] at h;split at h
  ·rename_i n ds hn O;simp only[Y9] at h;subst h;have⟨e1,e2⟩:=QgO O;rw[hn] at Y;have en:(ρ id).n=n+1:=by rw[Y.1];omega
   have J:cs.length/(n+1)=(ρ id).sz:=by rw[k3,en,Xv,Nat.mul_div_cancel _ (by omega)]
   rw[J];have I:∀i,i<(ρ id).n->(i+1)*(ρ id).sz<=(ρ id).n*(ρ id).sz:=fun i hi=>Yf _ (by omega);refine⟨fun _=>⟨C,et,U,fun i hi=>?_,fun i j d hi G=>?_⟩⟩
   ·have:=I i hi;rw[Yj] at this;simp[Qor];omega
   ·have hm:=I i hi;rw[Yj] at hm;simp only[Qor,YQ,YR] at G;split at G
    ·rename_i hj;have h1:=e2 _ _ G;have a1:=(Y8.1 h1).1;have h2:=k8 _ _ h1;rw[Xi];refine⟨by omega,?_⟩
     cases h2 with|d h2=>exact h2
    ·cases G
  ·rename_i ds hn O;simp only[Y9] at h;subst h;have⟨e1,e2⟩:=QgO O;rw[hn] at Y;have en:(ρ id).n=1:=by rw[Y.1];rfl
   have J:cs.length=(ρ id).sz:=by rw[k3,en];omega
   refine⟨fun _=>⟨C,et,U,fun i hi=>by rw[e1,J],fun i j d hi G=>?_⟩⟩;have a2:i=0:=by omega
   subst a2;have h1:=e2 _ _ G;have a1:=(Y8.1 h1).1;have h2:=k8 _ _ h1;rw[Nat.zero_mul,X0];refine⟨by omega,?_⟩
   cases h2 with|d h2=>exact h2
  ·cases h
mutual
def V.frz (id:Nat) (row:Nat->List D):V->V
 | .ref i r o=>match Nat.beq i id with
  |true=>.rp ((row r).drop o)
  |false=>.ref i r o
 | .osl i o l=>match Nat.beq i id with
  |true=>.d (.sl l (Zy o row))
  |false=>.osl i o l
 | .agg vs=>.agg (QsJ id row vs)
 | .tup vs=>.tup (QsJ id row vs)
 | .fn f vs=>.fn f (QsJ id row vs)
 | .any=>.any
 | .d x=>.d x
 | .rp cs=>.rp cs
def QsJ (id:Nat) (row:Nat->List D):List V->List V
 |[]=>[]
 |v::r=>v.frz id row::QsJ id row r
end
def QyF (id:Nat) (row:Nat->List D) (ts:List (Nat×V)):List (Nat×V):=ts.map fun p=>(p.1,p.2.frz id row)
def QyG (id:Nat) (row:Nat->List D) (gs:List Gd):List Gd:=gs.map fun g=>⟨g.t,g.key,g.want,g.v.frz id row⟩
def Blk.frz (id:Nat) (row:Nat->List D):Blk->Blk
 | .box t cs=>.box t (QsJ id row cs)
 | .arr t sz n r=>.arr t sz n r
theorem Blk.frz_bx (id:Nat) (row:Nat->List D) (b:Blk):(b.frz id row).bx=b.bx:=by cases b<;>rfl
def QsK (id:Nat) (row:Nat->List D):List (Nat×Blk)->List (Nat×Blk)
 |[]=>[]
 |(i,b)::r=>match Nat.beq i id with
  |true=>QsK id row r
  |false=>(i,b.frz id row)::QsK id row r
def QyH (id:Nat) (row:Nat->List D) (fs:List Fr):List Fr:=fs.map fun f=>⟨QyF id row f.tmps,QyG id row f.gds⟩
def St.frz (S:St) (id:Nat) (row:Nat->List D):St:=match S with
 |⟨base,nt,ts,gs,bs,fs⟩=>⟨base,nt,QyF id row ts,QyG id row gs,QsK id row bs,QyH id row fs⟩
theorem QgP {id:Nat} {row:Nat->List D}:∀(vs:List V) (j:Nat),(QsJ id row vs)[j]? =(vs[j]?).map (V.frz id row)
 |[],j=>by simp[QsJ]
 |v::r,0=>by simp[QsJ]
 |v::r,j+1=>by simpa[QsJ] using QgP r j
theorem Qbx {id:Nat} {row:Nat->List D}:∀(vs:List V),(QsJ id row vs).length=vs.length
 |[]=>rfl
 |v::r=>by simp[QsJ,Qbx r]
theorem Qig (hs:∀b,ow' b->ow b):Keep w ow w ow':=⟨Yi _,fun b _ ho=>⟨rfl,fun h=>ho (hs b h)⟩⟩
theorem VR.frz {v:V} {x:Value} {id:Nat} {row:Nat->List D} (h:VR w ow ρ v x) (hb:FR w ow (ρ id) row) (hs:∀b,ow' b->ow b) (hn:(ρ id).ph=false->¬ow' (ρ id).b):VR w ow' ρ (v.frz id row) x:=by
 induction h with
 |any=>exact .any
 |d h=>exact .d (h.keep (Qig hs))
 |ref h1 h2=>
  rename_i i r off;simp only[V.frz];split
  ·rename_i hi;have:=Y5 hi;subst this;have⟨C,et,k6,k5,Y⟩:=hb.cells h1;have U:∀ {j:Nat} {d:D},((row r).drop off)[j]? =some d->(row r)[off+j]? =some d:=fun {j d} h=>by rwa[YR] at h
   refine .rp (fun j=>C.getD ((ρ i).o+r*(ρ i).sz+off+j) undef) (hn h1) ((Yr.1 k6).1) (fun j d J=>?_) fun j d J=>?_
   ·have:=(Y r (off+j) d h2 (U J)).1;exact Qcc k6 (by omega)
   ·have:=(Y r (off+j) d h2 (U J)).2;rw[<-Xi] at this;exact this.keep (Qig hs)
  ·exact .ref h1 h2
 |osl0 h0 h1=>
  simp only[V.frz];split
  ·exact .d (.sl0 h0)
  ·exact .osl0 h0 h1
 |osl h1 h2 h3=>
  rename_i i off len;simp only[V.frz];split
  ·rename_i hi;have:=Y5 hi;subst this;have⟨C,et,k6,k5,Y⟩:=hb.cells h1;refine .d (.sl (sz:=(ρ i).sz) (fun q j=>C.getD ((ρ i).o+off*(ρ i).sz+q*(ρ i).sz+j) undef) (hn h1) ?_ (fun q hq=>?_) (fun q j d hq J=>?_) (fun q j d hq J=>?_) (by omega))
   ·exact(Yr.1 k6).1
   ·rw[Zq];exact k5 _ (by omega)
   ·rw[Zq] at J;have:=(Y (off+q) j d (by omega) J).1;rw[Yj] at this;exact Qcc k6 (by omega)
   ·rw[Zq] at J;have:=(Y (off+q) j d (by omega) J).2;have e:(ρ i).o+(off+q)*(ρ i).sz+j=(ρ i).o+off*(ρ i).sz+q*(ρ i).sz+j:=by rw[Yj];omega
    rw[<-e];exact this.keep (Qig hs)
  ·exact .osl h1 h2 h3
 |rp vals ho hb hc J=>exact .rp vals (fun h=>ho (hs _ h)) hb hc fun j d hj=>(J j d hj).keep (Qig hs)
 |agg I h1 hv O=>
  refine .agg (by rw[Qbx];exact I) h1 fun j v hj=>?_;rw[QgP] at hj;obtain⟨v',G,rfl⟩:=Yc.1 hj;exact O j v' G
 |tup I hv O=>
  refine .tup (by rw[Qbx];exact I) fun j v hj=>?_;rw[QgP] at hj;obtain⟨v',G,rfl⟩:=Yc.1 hj;exact O j v' G
 |fn I hv O=>
  refine .fn (by rw[Qbx];exact I) fun j v hj=>?_;rw[QgP] at hj;obtain⟨v',G,rfl⟩:=Yc.1 hj;exact O j v' G
theorem QdD {id:Nat} {row:Nat->List D}:∀ {bs:List (Nat×Blk)} {i:Nat} {b:Blk},Qi (QsK id row bs) i=some b->i≠id∧∃b0,Qi bs i=some b0∧b=b0.frz id row
 |(u,x)::r,i,b,h=>by
  simp only[QsK] at h;split at h
  ·rename_i hb;have:=Y5 hb;subst this;have⟨h1,b0,h2,h3⟩:=QdD h;exact⟨h1,b0,by rw[QQ (YU h1)];exact h2,h3⟩
  ·rename_i hb;rcases QZ h with ⟨rfl,rfl⟩|⟨G,h⟩
   ·exact⟨fun e=>by subst e;simp at hb,x,Zk,rfl⟩
   ·have⟨h1,b0,h2,h3⟩:=QdD h;exact⟨h1,b0,by rw[QQ G];exact h2,h3⟩
 |[],_,_,h=>by simp[QsK,Qi] at h
theorem FrR.frz {f:Fr} {tm:Array Value} {id:Nat} {row:Nat->List D} (h:FrR w ow ρ f tm) (hb:FR w ow (ρ id) row) (hs:∀b,ow' b->ow b) (J:(ρ id).ph=false->¬ow' (ρ id).b):
  FrR w ow' ρ ⟨QyF id row f.tmps,QyG id row f.gds⟩ tm:=by
 refine⟨fun u v hv=>?_,fun g U=>?_⟩
 ·have hv:Qi (f.tmps.map fun p=>(p.1,p.2.frz id row)) u=some v:=hv;rw[Qke] at hv;obtain⟨v',G,rfl⟩:=Yc.1 hv;exact(h.tmps u v' G).frz hb hs J
 ·obtain⟨O,I,rfl⟩:=YI.1 U;rcases(h.gds O I).h with h1|h1
  ·exact⟨.inl ⟨h1.1,h1.2.frz hb hs J⟩⟩
  ·exact⟨.inr h1⟩
theorem Sim.frz {id:Nat} {row:Nat->List D} (h:Sim P B w0 F ρ S a w) (G:Qw5 (Qi S.blks id)=some row):
  Sim P B w0 F ρ (S.frz id row) a w∧∀v x,VR w (ZL B S.blks ρ) ρ v x->VR w (ZL B (S.frz id row).blks ρ) ρ (v.frz id row) x:=by
 have⟨base,nt,ts,gs,bs,fs⟩:=S;simp only[St.frz];dsimp only at G;obtain⟨blk0,hb⟩:∃b,Qi bs id=some b:=by
  cases hl:Qi bs id with
  |none=>rw[hl] at G;cases G
  |some b=>exact⟨b,rfl⟩
 rw[hb] at G;have J:=QrO (h.blks id _ hb) G;have I:∀b,ZL B (QsK id row bs) ρ b->ZL B bs ρ b:=by
  rintro b (⟨i,k,hk,hp,rfl⟩|hf)
  ·have⟨_,k0,O,_⟩:=QdD hk;exact .inl ⟨i,k0,O,hp,rfl⟩
  ·exact .inr hf
 have Y:(ρ id).ph=false->¬ZL B (QsK id row bs) ρ (ρ id).b:=by
  rintro hp (⟨i,k,hk,a3,e⟩|hf)
  ·have⟨a2,k0,O,_⟩:=QdD hk;exact a2 (h.sep i id k0 _ O hb a3 hp e)
  ·exact(h.ge id _ hb hp).blk (B.sub _ hf)
 have hv:∀v x,VR w (ZL B bs ρ) ρ v x->VR w (ZL B (QsK id row bs) ρ) ρ (v.frz id row) x:=fun v x hx=>hx.frz J I Y;refine⟨⟨h.below,h.tab,h.hB,h.defers,h.nt,h.top.frz J I Y,fun i b a7=>?_,fun i j x y hx hy=>?_,fun i x hx=>?_,by simpa[QyH] using h.frames.1,fun i f tm hf ht=>?_⟩,hv⟩
 ·obtain⟨_,b0,a6,rfl⟩:=QdD a7;have h1:=h.blks i b0 a6
  cases h1 with
  |box C k1 k2 k3 k4 k5 k6 k7 k8=>
   refine .box C k1 k2 (by rw[Qbx];exact k3) k4 k5 (by rw[Qbx];exact k6) (by rw[Qbx];exact k7) fun j v hj=>?_;rw[QgP] at hj;obtain⟨v',a5,rfl⟩:=Yc.1 hj;exact hv _ _ (k8 j v' a5)
  |arr0 k1 k2 k3 k4=>exact .arr0 k1 k2 k3 k4
  |arr C et k1 k2 k3 k4 k5 k6 k7 k8=>exact .arr C et k1 k2 k3 k4 k5 k6 k7 fun i j d hi hd=>(k8 i j d hi hd).keep (Qig I)
 ·have⟨_,x0,U,_⟩:=QdD hx;have⟨_,y0,a1,_⟩:=QdD hy;exact h.sep i j x0 y0 U a1
 ·obtain⟨_,x0,U,rfl⟩:=QdD hx;rw[Blk.frz_bx];exact h.ge i x0 U
 ·simp only[QyH,Yz] at hf;obtain⟨f0,a4,rfl⟩:=Yc.1 hf;exact(h.frames.2 i f0 tm a4 ht).frz J I Y
mutual
def V.ids:V->List Nat
 | .osl i _ _=>[i]
 | .agg vs=>QzM vs
 |_=>[]
def QzM:List V->List Nat
 |[]=>[]
 |v::r=>match v.ids with
  |[]=>QzM r
  |l=>l++QzM r
end
def Qmq:List Nat->St->(St->Prop)->Prop
 |[],S,K=>K S
 |id::r,⟨base,nt,ts,gs,bs,fs⟩,K=>match Qi bs id with
  |some (.arr _ _ _ row)=>QeW (QyF id row ts) fun ts=>QfR (QyG id row gs) fun gs=>Qay (QsK id row bs) fun bs=>Qid (QyH id row fs) fun fs=>Qmq r ⟨base,nt,ts,gs,bs,fs⟩ K
  |_=>Qmq r ⟨base,nt,ts,gs,bs,fs⟩ K
theorem QeC {K:St->Prop}:∀ {l:List Nat} {S:St},Sim P B w0 F ρ S a w->Qmq l S K->∃S',Sim P B w0 F ρ S' a w∧K S'
 |[],S,h,hk=>⟨S,h,hk⟩
 |id::r,⟨base,nt,ts,gs,bs,fs⟩,h,hk=>by
  simp only[Qmq] at hk;split at hk
  ·rename_i row hb;rw[QbX,QcN,ZV,Qej] at hk;exact QeC (h.frz (show Qw5 (Qi bs id)=some row by rw[hb];rfl)).1 hk
  ·exact QeC h hk
def Qy4 (op:Op) (S:St):List Nat:=match op with
 | .store _ a x=>(match S.ev [] a with
  | .ref id _ _=>(match Qi S.blks id with
   |some (.arr ..)=>(S.ev [] x).ids
   |_=>[])
  |_=>[])
 | .buildSlice _ _ G=>QzM (G.toList.map fun p=>S.ev [] p.2)
 |_=>[]
def evF (tb:Tb) (dst:Option Nat) (op:Op) (S:St) (K:V->St->Prop):Prop:=match op with
 | .store t a x=>Qmq (Qy4 (.store t a x) S) S fun S=>evE tb dst (.store t a x) S K
 | .buildSlice t len G=>Qmq (Qy4 (.buildSlice t len G) S) S fun S=>evE tb dst (.buildSlice t len G) S K
 |op=>evE tb dst op S K
theorem Qs0 (J:TOk P tb) {K:V->St->Prop} (h:Sim P B w0 F ρ S a w) (o:Oper) (I:evF tb o.dst o.op S K):Eff P B w0 F a w (execOp a.eval o) K:=by
 unfold evF at I;split at I
 ·rename_i t x y G;have⟨S',h1,h2⟩:=QeC h I;rw[<-G] at h2;exact Qep J h1 o h2
 ·rename_i t len parts G;have⟨S',h1,h2⟩:=QeC h I;rw[<-G] at h2;exact Qep J h1 o h2
 ·exact Qep J h o I
end Go.Ab
namespace Go.Ab
open Go.RowKit
def Qhx (w:World) (ow:Nat->Prop) (ρ:Env) (vs:List V) (vals:Array Value):Prop:=
 vals.size=vs.length∧∀j v,vs[j]? =some v->VR w ow ρ v (vals.getD j undef)
structure Callable (P:Program) (f:FuncId):Prop where
 out : ∃ fn, P.funcs[f]? = some fn ∧ (fn.name == "runtime.NumGoroutine") = false ∧ fn.body.isNone = false
structure CallP (P:Program) (f:FuncId) (args:List V) (S:St) (K:V→St→Prop):Prop where
 can:Callable P f
 out:∀B w0 F ρ a w vals,Sim P B w0 F ρ S a w→Qhx w (ZL B S.blks ρ) ρ args vals→
  Calls P f vals w fun e w'=>∃v ρ' x S',e=.returned v∧Sim P B w0 F ρ' S' a w'∧VR w' (ZL B S'.blks ρ') ρ' x v∧K x S'
structure CallG (P:Program) (sc scN:Prop→Prop) (f:FuncId) (args:List V) (S:St) (K:V→St→Prop):Prop where
 can:Callable P f
 out:∃x S',K x S'∧sc (∀B w0 F ρ a w vals,Sim P B w0 F ρ S a w→Qhx w (ZL B S.blks ρ) ρ args vals→
  Calls P f vals w fun e w'=>∃v ρ',e=.returned v∧Sim P B w0 F ρ' S' a w'∧VR w' (ZL B S'.blks ρ') ρ' x v)∧
  scN (∀B w0 F ρ a w,Sim P B w0 F ρ S a w→∃ρ',Sim P B w0 F ρ' S' a w)
def WP (P:Program) (c:Code) (S:St) (Q:Exit->St->Prop):Prop:=
 ∀B w0 F ρ a w,Sim P B w0 F ρ S a w->c.wp P (fun e G w'=>∃ρ' S',Sim P B w0 F ρ' S' G w'∧Q e S') a w
def isJ:Code->Bool
 | .cond ..=>true
 | .block ..=>true
 | .seq x y=>match isJ x with
  |true=>true
  |false=>isJ y
 |_=>false
structure SeqP (P:Program) (x y:Code) (S:St) (Q:Exit→St→Prop):Prop where
 out:WP P (.seq x y) S Q
structure LoopP (P:Program) (c:Code) (S:St) (Q:Exit→St→Prop):Prop where
 out:WP P (.loop c) S Q
structure DrawP (P:Program) (id:Nat) (ops:Array Oper) (S:St) (K:St→Prop):Prop where
 out:WP P (.region id ops true) S fun e S'=>e=.normal∧K S'
def isE:Op->Bool
 | .store ..=>true
 | .alloc _=>true
 | .box ..=>true
 | .makeSlice ..=>true
 | .buildSlice _ len _=>!Nat.beq len 0
 | .call c=>(match c.callee with
  | .builtin .append=>true
  | .builtin .clear=>true
  |_=>false)
 |_=>false
def Qov (t:Nat):List Gd->Bool
 |[]=>true
 |g::r=>match Nat.beq g.t t,Nat.beq g.key t with
  |false,false=>Qov t r
  |_,_=>false
def St.put (S:St) (dst:Option Nat) (v:V) (K:St->Prop):Prop:=match S,dst with
 |⟨base,nt,ts,gs,bs,fs⟩,none=>K ⟨base,nt,ts,gs,bs,fs⟩
 |⟨base,nt,ts,gs,bs,fs⟩,some t=>match Qov t gs,Nat.blt t nt with
  |true,true=>K ⟨base,nt,(t,v)::ts,gs,bs,fs⟩
  | _, _ => Stuck "put"
def St.putG (S:St) (dst:Option Nat) (key:Nat) (want:Bool) (v:V) (K:St->Prop):Prop:=match S,dst with
 |⟨base,nt,ts,gs,bs,fs⟩,none=>K ⟨base,nt,ts,gs,bs,fs⟩
 |⟨base,nt,ts,gs,bs,fs⟩,some t=>match Qov t gs,Nat.blt t nt,Nat.beq key t with
  |true,true,false=>K ⟨base,nt,(t,.any)::ts,⟨t,key,want,v⟩::gs,bs,fs⟩
  | _, _, _ => Stuck "putG"
def closure (gs:List Gd):Nat->Nat->Bool->List (Nat×Bool)
 |0,k,w=>[(k,w)]
 |n+1,k,w=>(k,w)::match Qht gs k with
  |some g=>closure gs n g.key g.want
  |none=>[]
def Qaz (S:St) (al:List (Nat×Bool)):List (Nat×Bool)->Prop->Prop
 |[],p=>p
 |(k,w)::r,p=>match S.ev al (.tmp k) with
  | .d (.bool b)=>(b=w->Qaz S al r p)
  |_=>Qaz S al r p
def QiX (S:St) (key:Nat) (want:Bool) (p:Prop):Prop:=match S.ev [] (.tmp key) with
 | .d (.bool b)=>b=(!want)->p
 |_=>p
theorem Qnd {S:St} {key:Nat} {want:Bool} {p:Prop} (h:p):QiX S key want p:=by
 unfold QiX;split
 ·exact fun _=>h
 ·exact h
def Qev (S:St) (key:Nat) (want:Bool) (p:Prop):Prop:=match Qht S.gds key with
 |none=>QiX S key want p
 |some g=>(match S.ev [] (.tmp g.key),g.v with
  | .d (.bool b0),.d (.bool b)=>(b0=g.want->b=(!want)->p)∧(b0=(!g.want)->p)
  |_,_=>p)
theorem Qkb {S:St} {key:Nat} {want:Bool} {p:Prop} (h:p):Qev S key want p:=by
 unfold Qev;split
 ·exact Qnd h
 ·split
  ·exact⟨fun _ _=>h,fun _=>h⟩
  ·exact h
theorem Qmr {S:St} {key:Nat} {want:Bool} {p q:Prop} (G:p->q) (hp:Qev S key want p):Qev S key want q:=by
 unfold Qev QiX at hp|-;split
 ·rename_i J;rw[J] at hp;dsimp only at hp;split
  ·rename_i hb;rw[hb] at hp;exact fun e=>G (hp e)
  ·rename_i I;split at hp
   ·rename_i b hb;exact absurd hb (I b)
   ·exact G hp
 ·rename_i g J;rw[J] at hp;dsimp only at hp;split
  ·rename_i b0 b h1 h2;rw[h1,h2] at hp;exact⟨fun e1 O=>G (hp.1 e1 O),fun e=>G (hp.2 e)⟩
  ·rename_i I;split at hp
   ·rename_i b0 b h1 h2;exact absurd h2 (I b0 b h1)
   ·exact G hp
noncomputable def QeN (P:Program) (tb:Tb) (ops:List Oper) (l:List Oper):St->(St->Prop)->Prop:=List.rec (motive:=fun _=>St->(St->Prop)->Prop) (fun S K=>K S) (fun o _ G S K=>match o.guard with
  |none=>(match isE o.op with
   |true=>evF tb o.dst o.op S fun v S=>S.put o.dst v fun S=>G S K
   |false=>(match o.op with
    | .call ⟨.value f,args,_⟩=>(match S.ev [] f with
     | .fn g cap=>Qaq (args.toList.map (S.ev [])++cap) fun vs=>CallP P g vs S fun v S=>S.put o.dst v fun S=>G S K
     | .d (.fn g caps)=>Qaq (args.toList.map (S.ev [])) fun vs=>CallP P g (vs++caps.map .rp) S fun v S=>S.put o.dst v fun S=>G S K
     | _ => Stuck "call no function")
    |op=>evP tb S.ev (Qi S.blks) id op fun v=>S.put o.dst v fun S=>G S K))
  |some (j,want)=>(match ops[j]? with
   |some ⟨some key,_,_,_,_,_⟩=>(match o.op with
    | .call ⟨.value f,args,_⟩=>(match S.ev (closure S.gds 9 key want) f with
     | .fn g cap=>Qaq (args.toList.map (S.ev (closure S.gds 9 key want))++cap) fun vs=>
       CallG P (Qaz S (closure S.gds 9 key want) (closure S.gds 9 key want)) (Qev S key want) g vs S fun v S=>S.putG o.dst key want v fun S=>G S K
     | _ => Stuck "guarded call no function")
    |op=>evP tb (fun I x=>S.ev (I++closure S.gds 9 key want) x) (Qi S.blks) (Qaz S (closure S.gds 9 key want) (closure S.gds 9 key want)) op fun v=>S.putG o.dst key want v fun S=>G S K)
   | _ => Stuck "guard")) l
theorem QrP {P:Program} {tb:Tb} {ops:List Oper} {o:Oper} {rest:List Oper} {S:St} {K:St->Prop}:QeN P tb ops (o::rest) S K=match o.guard with
  |none=>(match isE o.op with
   |true=>evF tb o.dst o.op S fun v S=>S.put o.dst v fun S=>QeN P tb ops rest S K
   |false=>(match o.op with
    | .call ⟨.value f,args,_⟩=>(match S.ev [] f with
     | .fn g cap=>Qaq (args.toList.map (S.ev [])++cap) fun vs=>CallP P g vs S fun v S=>S.put o.dst v fun S=>QeN P tb ops rest S K
     | .d (.fn g caps)=>Qaq (args.toList.map (S.ev [])) fun vs=>CallP P g (vs++caps.map .rp) S fun v S=>S.put o.dst v fun S=>QeN P tb ops rest S K
     | _ => Stuck "call no function")
    |op=>evP tb S.ev (Qi S.blks) id op fun v=>S.put o.dst v fun S=>QeN P tb ops rest S K))
  |some (j,want)=>(match ops[j]? with
   |some ⟨some key,_,_,_,_,_⟩=>(match o.op with
    | .call ⟨.value f,args,_⟩=>(match S.ev (closure S.gds 9 key want) f with
     | .fn g cap=>Qaq (args.toList.map (S.ev (closure S.gds 9 key want))++cap) fun vs=>
       CallG P (Qaz S (closure S.gds 9 key want) (closure S.gds 9 key want)) (Qev S key want) g vs S fun v S=>S.putG o.dst key want v fun S=>QeN P tb ops rest S K
     | _ => Stuck "guarded call no function")
    |op=>evP tb (fun G x=>S.ev (G++closure S.gds 9 key want) x) (Qi S.blks) (Qaz S (closure S.gds 9 key want) (closure S.gds 9 key want)) op fun v=>S.putG o.dst key want v fun S=>QeN P tb ops rest S K)
   | _ => Stuck "guard") := rfl
def St.noGds (S:St) (K:St->Prop):Prop:=match S with
 |⟨base,nt,ts,_,bs,fs⟩=>K ⟨base,nt,ts,[],bs,fs⟩
noncomputable def wpc (P:Program) (tb:Tb) (c:Code):St->(Exit->St->Prop)->Prop:=Code.rec (motive:=fun _=>St->(Exit->St->Prop)->Prop)
 (fun S Q=>Q .normal S)
 (fun id ops G S Q=>match G with
  |false=>S.noGds fun S=>QeN P tb ops.toList ops.toList S fun S=>S.noGds fun S=>Q .normal S
  |true=>S.noGds fun S=>DrawP P id ops S fun S=>Q .normal S)
 (fun x y I U S Q=>match isJ x with
  |true=>SeqP P x y S Q
  |false=>I S fun e S=>match e with
   | .normal=>U S Q
   |e=>Q e S)
 (fun c _ _ O J S Q=>match S.ev [] c with
  | .d (.bool b)=>(b=true->O S Q)∧(b=false->J S Q)
  | _ => Stuck "cond")
 (fun id _ Y S Q=>Y S fun e S=>match e with
  | .exit i=>(match Nat.beq i id with
   |true=>Q .normal S
   |false=>Q (.exit i) S)
  |e=>Q e S)
 (fun c _ S Q=>LoopP P c S Q)
 (fun _ _ _ _ _ _ _ _ => Stuck "code")
 (fun id S Q=>Q (.exit id) S)
 (fun _ _ _ _ => Stuck "code")
 (fun _ S Q=>Q .normal S)
 (fun _ _ _ => Stuck "code")
 (fun S Q=>Q .ret S)
 (fun _ _ _ => Stuck "code") c
theorem Qkg {P:Program} {tb:Tb} {id:Nat} {ops:Array Oper} {S:St} {Q:Exit->St->Prop}:wpc P tb (.region id ops false) S Q=S.noGds fun S=>QeN P tb ops.toList ops.toList S fun S=>S.noGds fun S=>Q .normal S:=rfl
theorem Qkh {P:Program} {tb:Tb} {id:Nat} {ops:Array Oper} {S:St} {Q:Exit->St->Prop}:wpc P tb (.region id ops true) S Q=S.noGds fun S=>DrawP P id ops S fun S=>Q .normal S:=rfl
theorem Qk1 {P:Program} {tb:Tb} {a b:Code} {S:St} {Q:Exit->St->Prop}:wpc P tb (.seq a b) S Q=match isJ a with
  |true=>SeqP P a b S Q
  |false=>wpc P tb a S fun e S=>match e with
   | .normal=>wpc P tb b S Q
   |e=>Q e S:=rfl
theorem Qki {P:Program} {tb:Tb} {c:Operand} {x y:Code} {S:St} {Q:Exit->St->Prop}:wpc P tb (.cond c x y) S Q=match S.ev [] c with
  | .d (.bool b)=>(b=true->wpc P tb x S Q)∧(b=false->wpc P tb y S Q)
  | _ => Stuck "cond" := rfl
theorem Qih {P:Program} {tb:Tb} {id:Nat} {c:Code} {S:St} {Q:Exit->St->Prop}:wpc P tb (.block id c) S Q=wpc P tb c S fun e S=>match e with
  | .exit i=>(match Nat.beq i id with
   |true=>Q .normal S
   |false=>Q (.exit i) S)
  |e=>Q e S:=rfl
variable {P:Program} {tb:Tb} {w:World} {ρ:Env} {a:Act} {B:Bd} {w0:World} {F:List (Array Value)} {S:St}
theorem Qhy {t:Nat}:∀ {gs:List Gd},Qov t gs=true->∀g∈gs,g.t≠t∧g.key≠t
 |g::r,h,x,G=>by
  simp only[Qov] at h;split at h
  ·rename_i h1 h2;rcases Yh.1 G with G|G
   ·subst G;exact⟨fun e=>by subst e;simp at h1,fun e=>by rw[e] at h2;simp at h2⟩
   ·exact Qhy h x G
  ·cases h
 |[],_,_,G=>by simp at G
theorem Qii {a:Act} {t u:Nat} {v:Value}:(a.put (some t) v).tmps.getD u undef=if u=t∧t<a.tmps.size then v else a.tmps.getD u undef:=by
 simp only[Act.put,Y6,YO]
 by_cases h:t=u
 ·subst h
  by_cases hl:t<a.tmps.size
  ·simp[hl]
  ·simp[hl]
 ·simp[h,YU h]
theorem QpR {t:Nat} {v:V} {x:Value} (h:Sim P B w0 F ρ S a w) (hv:VR w (ZL B S.blks ρ) ρ v x) (U:∀g∈S.gds,g.t≠t∧g.key≠t) (ht:t<S.nt):
  Sim P B w0 F ρ ⟨S.base,S.nt,(t,v)::S.tmps,S.gds,S.blks,S.frames⟩ (a.put (some t) x) w:=by
 have I:t<a.tmps.size:=by rw[h.nt];exact ht
 refine⟨h.below,h.tab,h.hB,h.defers,by simp[Act.put,h.nt],⟨fun u y J=>?_,fun g G=>?_⟩,h.blks,h.sep,h.ge,h.frames⟩
 ·rw[Qii];rcases QZ J with ⟨rfl,rfl⟩|⟨O,J⟩
  ·rw[Y2 ⟨rfl,I⟩];exact hv
  ·rw[Y0 (fun e=>O e.1.symm)];exact h.top.tmps u y J
 ·have⟨h1,h2⟩:=U g G;have:=(h.top.gds g G).h;refine⟨?_⟩;rw[Qii,Qii,Y0 (fun e=>h2 e.1),Y0 (fun e=>h1 e.1)];exact this
theorem QqI {t key:Nat} {want:Bool} {v:V} {x:Value} (h:Sim P B w0 F ρ S a w)
  (hv:(a.tmps.getD key undef=.bool want∧VR w (ZL B S.blks ρ) ρ v x)∨(a.tmps.getD key undef≠ .bool want∧x=undef)) (J:∀g∈S.gds,g.t≠t∧g.key≠t) (hk:key≠t) (ht:t<S.nt):
  Sim P B w0 F ρ ⟨S.base,S.nt,(t,.any)::S.tmps,⟨t,key,want,v⟩::S.gds,S.blks,S.frames⟩ (a.put (some t) x) w:=by
 have I:t<a.tmps.size:=by rw[h.nt];exact ht
 have h1:=QpR (v:=.any) (x:=x) h .any J ht;refine⟨h1.below,h1.tab,h1.hB,h1.defers,h1.nt,⟨h1.top.tmps,fun g G=>?_⟩,h1.blks,h1.sep,h1.ge,h1.frames⟩;rcases Yh.1 G with G|G
 ·subst G;refine⟨?_⟩;rw[Qii,Qii,Y0 (fun e=>hk e.1),Y2 ⟨rfl,I⟩];exact hv
 ·exact h1.top.gds g G
theorem Qij {dst:Option Nat} {v:V} {x:Value} {K:St->Prop} (h:Sim P B w0 F ρ S a w) (hv:VR w (ZL B S.blks ρ) ρ v x) (hp:S.put dst v K):∃S',Sim P B w0 F ρ S' (a.put dst x) w∧K S':=by
 have⟨base,nt,ts,gs,bs,fs⟩:=S
 cases dst with
 |none=>exact⟨_,h,hp⟩
 |some t=>
  simp only[St.put] at hp;split at hp
  ·rename_i h1 h2;exact⟨_,QpR h hv (Qhy h1) (by simpa[XQ] using h2),hp⟩
  ·exact hp.no.elim
theorem QgQ {dst:Option Nat} {key want} {v:V} {x:Value} {K:St->Prop} (h:Sim P B w0 F ρ S a w)
  (hv:(a.tmps.getD key undef=.bool want∧VR w (ZL B S.blks ρ) ρ v x)∨(a.tmps.getD key undef≠ .bool want∧x=undef)) (hp:S.putG dst key want v K):∃S',Sim P B w0 F ρ S' (a.put dst x) w∧K S':=by
 have⟨base,nt,ts,gs,bs,fs⟩:=S
 cases dst with
 |none=>exact⟨_,h,hp⟩
 |some t=>
  simp only[St.putG] at hp;split at hp
  ·rename_i h1 h2 h3;exact⟨_,QqI h hv (Qhy h1) (fun e=>by subst e;simp at h3) (by simpa[XQ] using h2),hp⟩
  ·exact hp.no.elim
theorem Qs1 (h:Sim P B w0 F ρ S a w):Sim P B w0 F ρ ⟨S.base,S.nt,S.tmps,[],S.blks,S.frames⟩ a w:=
 ⟨h.below,h.tab,h.hB,h.defers,h.nt,⟨h.top.tmps,fun _ G=>by simp at G⟩,h.blks,h.sep,h.ge,h.frames⟩
theorem Qeq {K:St->Prop} (h:Sim P B w0 F ρ S a w) (hk:S.noGds K):∃S',Sim P B w0 F ρ S' a w∧K S':=⟨_,Qs1 h,hk⟩
theorem Qd4 (h:Sim P B w0 F ρ S a w):∀(n k:Nat) (b:Bool),a.tmps.getD k undef=.bool b->∀G b',(G,b')∈closure S.gds n k b->a.tmps.getD G undef=.bool b'
 |0,k,b,h0,G,b',hm=>by simp[closure] at hm;obtain⟨rfl,rfl⟩:=hm;exact h0
 |n+1,k,b,h0,G,b',hm=>by
  simp only[closure,Yh,YY] at hm;rcases hm with ⟨rfl,rfl⟩|hm
  ·exact h0
  ·split at hm
   ·rename_i g J;obtain⟨I,rfl⟩:=Qel J;rcases(h.top.gds g I).h with h1|h1
    ·exact Qd4 h n g.key g.want h1.1 G b' hm
    ·rw[h0] at h1;cases h1.2
   ·cases hm
theorem Qer (h:Sim P B w0 F ρ S a w) (al:List (Nat×Bool)) (G:∀k b,(k,b)∈al->a.tmps.getD k undef=.bool b):∀(l:List (Nat×Bool)) (p:Prop),(∀x∈l,x∈al)->Qaz S al l p->p
 |[],_,_,hp=>hp
 |(k,b)::r,p,hl,hp=>by
  simp only[Qaz] at hp;split at hp
  ·rename_i c hc;refine Qer h al G r p (fun x I=>hl x (by simp[I])) (hp ?_);have h1:=h.evR.h al (.tmp k) G;rw[hc] at h1;have h2:=h1.bool_inv;have h3:a.eval (.tmp k)=.bool b:=G k b (hl _ (by simp));rw[h3] at h2
   cases h2;rfl
  ·exact Qer h al G r p (fun x I=>hl x (by simp[I])) hp
theorem Qhz {ops:Array Oper} {j key:Nat} {tmps:Array Value} {want:Bool} {o:Oper} (hj:ops[j]? =some o) (G:o.dst=some key):
  (yielded ops tmps j==some want)=true↔tmps.getD key undef=.bool want:=by
 simp only[yielded,hj,Y0i,G]
 cases h:tmps[key]? with
 |none=>simp[Y6,h,undef]
 |some v=>cases v<;>simp[Y6,h]
theorem Qfs {f:Operand} {args:Array Operand} {G:Array TypeId} {g:FuncId} {cs:Array Value} {dst ty pos after guard} (I:a.eval f=.func (.func g) #[] cs) (hc:Callable P g) (w:World):
  (execOp a.eval ⟨dst,.call ⟨.value f,args,G⟩,ty,pos,after,guard⟩).run P w=.ok (.enter g (args.map a.eval++cs)) w:=by
 have⟨fn,h1,h2,h3⟩:=hc.out;have hc:(callFunc g (args.map a.eval++cs)).run P w=.ok (.enter g (args.map a.eval++cs)) w:=by
  simp only[callFunc,Sem.run_bind,run_program,Result.andThen_ok,h1,h2,h3,Yu,X6,Sem.run_pure]
 simpa[execOp,resolve,I,Deferred.ofValue,invoke] using hc
theorem Qc2 {ow:Nat->Prop} {ev:List (Nat×Bool)->Operand->V} {al:List (Nat×Bool)} (U:∀x,VR w ow ρ (ev al x) (a.eval x)) (args:Array Operand) {cap:List V} {cs:Array Value} (J:cs.size=cap.length)
  (O:∀(j:Nat) (u:V),cap[j]? =some u->VR w ow ρ u (cs.getD j undef)):Qhx w ow ρ (args.toList.map (ev al)++cap) (args.map a.eval++cs):=by
 refine⟨by simp[J],fun j v hj=>?_⟩;rw[Y6]
 by_cases G:j<args.size
 ·rw[Yy (by simpa using G)] at hj;rw[Xw (by simpa using G),<-Y6];rw[Yz] at hj;obtain⟨x,Y,rfl⟩:=Yc.1 hj;have I:args[j]? =some x:=by simpa using Y
  have:(args.map a.eval).getD j undef=a.eval x:=by simp[Y6,I]
  rw[this];exact U x
 ·rw[YX (by simp;omega)] at hj;rw[Array.getElem?_append_right (by simp;omega),<-Y6];simpa using O _ _ (by simpa using hj)
theorem Qk2 {ow:Nat->Prop} {g:FuncId} {cap:List V} {y:Value} (h:VR w ow ρ (.fn g cap) y):∃cs,y=.func (.func g) #[] cs∧cs.size=cap.length∧∀(j:Nat) (u:V),cap[j]? =some u->VR w ow ρ u (cs.getD j undef):=by
 cases h with|fn h1 h2=>exact⟨_,rfl,h1,h2⟩
theorem Qw6 {ow:Nat->Prop} {g:FuncId} {caps:List (List D)} {y:Value} (h:VR w ow ρ (.d (.fn g caps)) y):VR w ow ρ (.fn g (caps.map .rp)) y:=by
 cases h with|d h=>exact h.fnRp ρ
theorem QpS {ti:TI} {blk:Nat->Option Blk} {p:V} {K:V->Prop} (h:QdN ti blk p K):∃x,K x:=by
 unfold QdN at h
 repeat' split at h
 all_goals first|exact h.no.elim|(rw[QC] at h;exact⟨_,h⟩)
theorem QrQ {sc:Prop->Prop} {op k x y} {K:V->Prop} (h:QkU sc op k x y K):∃z,K z:=by
 cases op<;>simp only[QkU] at h<;>first|exact h.no.elim|exact⟨_,h.2⟩|exact⟨_,h⟩
theorem QgR {ev:List (Nat×Bool)->Operand->V} {blk:Nat->Option Blk} {sc:Prop->Prop} {op:Op} {K:V->Prop} (h:evP tb ev blk sc op K):∃x,K x:=by
 cases op<;>simp only[evP,QC,Za,Qd9] at h
 all_goals repeat' split at h
 all_goals first
  |exact h.no.elim
  |exact QpS h
  |exact QrQ h
  |exact h.2.no.elim
  |exact⟨_,h.2⟩
  |exact⟨_,h⟩
theorem Qk3 (h:Sim P B w0 F ρ S a w) {key:Nat} {want:Bool} (hw:a.tmps.getD key undef≠ .bool want) {p:Prop} (hp:QiX S key want p):p:=by
 unfold QiX at hp;split at hp
 ·rename_i b hb;refine hp ?_;have h1:=h.evR.h [] (.tmp key) (fun k g hm=>by simp at hm);rw[hb] at h1
  cases h1 with|d h1=>
  generalize hv:a.eval (.tmp key)=v at h1
  cases h1
  simp only[Act.eval] at hv
  cases b<;>cases want<;>simp_all
 ·exact hp
theorem QrR (h:Sim P B w0 F ρ S a w) {k:Nat} {b:Bool} (hb:S.ev [] (.tmp k)=.d (.bool b)):a.tmps.getD k undef=.bool b:=by
 have h1:=h.evR.h [] (.tmp k) (fun k g hm=>by simp at hm);rw[hb] at h1;exact h1.bool_inv
theorem QpT (h:Sim P B w0 F ρ S a w) {key:Nat} {want:Bool} (J:a.tmps.getD key undef≠ .bool want) {p:Prop} (hp:Qev S key want p):p:=by
 unfold Qev at hp;split at hp
 ·exact Qk3 h J hp
 ·rename_i g U;obtain⟨I,rfl⟩:=Qel U;split at hp
  ·rename_i b0 b G hb;have O:=QrR h G;rcases(h.top.gds g I).h with ⟨h1,h2⟩|⟨h1,_⟩
   ·refine hp.1 ?_ ?_
    ·rw[O] at h1;cases h1;rfl
    ·rw[hb] at h2;have h3:=h2.bool_inv;rw[h3] at J
     cases b<;>cases want<;>simp_all
   ·refine hp.2 ?_;rw[O] at h1
    cases b0<;>cases hgw:g.want<;>simp_all
  ·exact hp
theorem Qft (hT:TOk P tb) (ops:Array Oper) (Q:Exit->St->Prop) (F:List (Array Value)):∀(l:List Nat) (os:List Oper),os.length=l.length->(∀(i k:Nat),l[i]? =some k->ops[k]? =os[i]?)->
  ∀(S:St) (ρ:Env) (a:Act) (w:World),Sim P B w0 F ρ S a w->QeN P tb ops.toList os S (fun S=>Q .normal S)->
  wpOps P ops (fun e a' w'=>∃ρ' S',Sim P B w0 F ρ' S' a' w'∧Q e S') l a w
 |[],os,hl,_,S,ρ,a,w,h,he=>by
  have:os=[]:=by simpa using hl
  subst this;exact⟨ρ,S,h,he⟩
 |k::l,[],hl,_,S,ρ,a,w,h,he=>by simp at hl
 |k::l,o::os,hl,hi,S,ρ,a,w,h,he=>by
  have hk:ops[k]? =some o:=by simpa using hi 0 k rfl
  have ih:=Qft hT ops Q F l os (by simpa using hl) (fun i k hk=>by simpa using hi (i+1) k (by simpa using hk));simp only[wpOps,hk];rw[QrP] at he;split at he
  ·rename_i hg;have hw:Region.wanted o (yielded ops a.tmps)=true:=by simp[Region.wanted,hg]
   rw[Y2 hw];refine .inl ?_;split at he
   ·have⟨n,v,w',ρ',x,S',h1,h2,h3,h4,h5⟩:=Qs0 hT h o he;have⟨G,h6,U⟩:=Qij h3 h4 h5;unfold Oper.wp;rw[h1];rcases h2 with rfl|⟨rfl,rfl⟩
    ·exact ih G ρ' _ w' h6 U
    ·exact ih G ρ' _ w' h6 U
   ·split at he
    ·rename_i f args a5 O;split at he
     ·rename_i g cap hf;rw[Za] at he;have⟨cs,a1,Y,a2⟩:=Qk2 (h.evR.eq hf);have I:=Qc2 (ev:=S.ev) (al:=[]) h.evR.at args Y a2;have J:=he.out B w0 F ρ a w _ h I;unfold Oper.wp;have⟨dst,op,ty,pos,after,guard⟩:=o;dsimp only at O;subst O;rw[Qfs a1 he.can,Oper.upon_enter];refine Calls.mono J ?_;rintro e w' ⟨v,ρ',x,S',rfl,h1,h2,h3⟩;have⟨G,h6,U⟩:=Qij h1 h2 h3;exact ih G ρ' _ w' h6 U
     ·rename_i g caps hf;rw[Za] at he;have⟨cs,a1,Y,a2⟩:=Qk2 (Qw6 (h.evR.eq hf));have I:=Qc2 (ev:=S.ev) (al:=[]) h.evR.at args Y a2;have J:=he.out B w0 F ρ a w _ h I;unfold Oper.wp;have⟨dst,op,ty,pos,after,guard⟩:=o;dsimp only at O;subst O;rw[Qfs a1 he.can,Oper.upon_enter];refine Calls.mono J ?_;rintro e w' ⟨v,ρ',x,S',rfl,h1,h2,h3⟩;have⟨G,h6,U⟩:=Qij h1 h2 h3;exact ih G ρ' _ w' h6 U
     ·exact he.no.elim
    ·have⟨v,w',x,h1,h2,h3,h4⟩:=Qgo hT h.evR h.blks (fun _ ho=>QdK h ho) (fun p hp=>hp) o he;have⟨G,h6,U⟩:=Qij (h.pure h2) h3 h4;unfold Oper.wp;rw[h1];exact ih G ρ _ w' h6 U
  ·rename_i j want hg;split at he
   case h_2=>exact he.no.elim
   rename_i key b4 b7 a4 b8 b3 hj;have b2:ops[j]? =some ⟨some key,b4,b7,a4,b8,b3⟩:=by simpa using hj
   have hy:=Qhz (tmps:=a.tmps) (want:=want) b2 rfl;have a7:Region.wanted o (yielded ops a.tmps)=(yielded ops a.tmps j==some want):=by simp[Region.wanted,hg]
   by_cases hw:a.tmps.getD key undef=.bool want
   ·have b5:Region.wanted o (yielded ops a.tmps)=true:=by rw[a7];exact hy.2 hw
    rw[Y2 b5];refine .inl ?_;have a3:=Qd4 h 9 key want hw;have a8:∀p,Qaz S (closure S.gds 9 key want) (closure S.gds 9 key want) p->p:=fun p=>Qer h _ a3 _ p (fun _ hx=>hx);have a9:EvR w (ZL B S.blks ρ) ρ a (fun ex x=>S.ev (ex++closure S.gds 9 key want) x):=⟨fun al x hx=>h.evR.h _ x fun k g hm=>by
     rcases Yo.1 hm with hm|hm
     ·exact hx k g hm
     ·exact a3 k g hm⟩
    split at he
    ·rename_i f args a5 O;split at he
     ·rename_i g cap hf;rw[Za] at he;have a6:=h.evR.h (closure S.gds 9 key want) f a3;rw[hf] at a6;have⟨cs,a1,Y,a2⟩:=Qk2 a6;have I:=Qc2 (ev:=S.ev) (al:=closure S.gds 9 key want) (fun x=>h.evR.h _ x a3) args Y a2;have⟨x,S1,hK,hc,_⟩:=he.out;have J:=a8 _ hc B w0 F ρ a w _ h I;unfold Oper.wp;have⟨dst,op,ty,pos,after,guard⟩:=o;dsimp only at O;subst O;rw[Qfs a1 he.can,Oper.upon_enter];refine Calls.mono J ?_;rintro e w' ⟨v,ρ',rfl,h1,h2⟩;have⟨G,h6,U⟩:=QgQ h1 (.inl ⟨hw,h2⟩) hK;exact ih G ρ' _ w' h6 U
     ·exact he.no.elim
    ·have⟨v,w',x,h1,h2,h3,h4⟩:=Qgo hT a9 h.blks (fun _ ho=>QdK h ho) a8 o he;have⟨G,h6,U⟩:=QgQ (h.pure h2) (.inl ⟨hw,h3⟩) h4;unfold Oper.wp;rw[h1];exact ih G ρ _ w' h6 U
   ·have b6:¬Region.wanted o (yielded ops a.tmps)=true:=by rw[a7];exact fun e=>hw (hy.1 e)
    rw[Y0 b6];split at he
    ·rename_i f args a5 O;split at he
     ·rw[Za] at he;have⟨x,S1,hK,_,hc⟩:=he.out;have⟨ρ',h1⟩:=QpT h hw hc B w0 F ρ a w h;have⟨G,h6,U⟩:=QgQ h1 (.inr ⟨hw,rfl⟩) hK;exact ih G ρ' _ w h6 U
     ·exact he.no.elim
    ·have⟨x,hK⟩:=QgR he;have⟨G,h6,U⟩:=QgQ h (.inr ⟨hw,rfl⟩) hK;exact ih G ρ _ w h6 U
end Go.Ab
namespace Go.Ab
open Go.RowKit
variable {P:Program} {tb:Tb} {w:World} {ow:Nat→Prop} {ρ:Env} {a:Act} {B:Bd} {w0:World} {F:List (Array Value)} {S:St}
theorem Qam (G:TOk P tb):∀(c:Code) (S:St) (Q:Exit->St->Prop),wpc P tb c S Q->WP P c S Q
 | .skip,S,Q,h=>fun B w0 F ρ a w hs=>wp_skip ⟨ρ,S,hs,h⟩
 | .label l,S,Q,h=>fun B w0 F ρ a w hs=>wp_label ⟨ρ,S,hs,h⟩
 | .exit id,S,Q,h=>fun B w0 F ρ a w hs=>wp_exit ⟨ρ,S,hs,h⟩
 | .ret,S,Q,h=>fun B w0 F ρ a w hs=>wp_ret ⟨ρ,S,hs,h⟩
 | .region id ops false,S,Q,h=>fun B w0 F ρ a w hs=>by
  first|rw[Qkg] at h|rw[Qkh] at h|rw[Qk1] at h|rw[Qki] at h|rw[Qih] at h
  have⟨U,h1,h2⟩:=Qeq hs h;refine wp_mono (wp_region (Qft (B:=B) (w0:=w0) G ops (fun e S=>match e with| .normal=>S.noGds fun S=>Q .normal S|_=>False) F (List.range ops.size) ops.toList (by simp) (fun i k hk=>?_) U ρ a w h1 h2)) ?_
  ·have J:=(Y8.1 hk).1;rw[List.getElem?_range (by simpa using J)] at hk
   cases hk
   simp
  ·rintro e I w' ⟨ρ',S',h3,h4⟩
   cases e with
   |normal=>exact⟨ρ',(Qeq h3 h4).elim fun O h5=>⟨O,h5⟩⟩
   |_=>exact h4.elim
 | .region id ops true,S,Q,h=>fun B w0 F ρ a w hs=>by
  first|rw[Qkg] at h|rw[Qkh] at h|rw[Qk1] at h|rw[Qki] at h|rw[Qih] at h
  have⟨U,h1,h2⟩:=Qeq hs h;refine wp_mono (h2.out B w0 F ρ a w h1) ?_;rintro e I w' ⟨ρ',S',h3,rfl,h4⟩;exact⟨ρ',S',h3,h4⟩
 | .seq x y,S,Q,h=>by
  rw[Qk1] at h;split at h
  ·exact h.out
  ·intro B w0 F ρ a w hs;refine wp_seq (wp_mono (Qam G x S _ h B w0 F ρ a w hs) ?_);rintro e I w' ⟨ρ',S',h1,h2⟩
   cases e with
   |normal=>exact Qam G y S' Q h2 B w0 F ρ' I w' h1
   |_=>exact⟨ρ',S',h1,h2⟩
 | .cond c x y,S,Q,h=>fun B w0 F ρ a w hs=>by
  first|rw[Qkg] at h|rw[Qkh] at h|rw[Qk1] at h|rw[Qki] at h|rw[Qih] at h
  split at h
  ·rename_i b hb;have hc:=(hs.evR.eq hb).bool_inv;refine wp_cond hc ?_
   cases b with
   |true=>exact Qam G x S Q (h.1 rfl) B w0 F ρ a w hs
   |false=>exact Qam G y S Q (h.2 rfl) B w0 F ρ a w hs
  ·exact h.no.elim
 | .block id c,S,Q,h=>fun B w0 F ρ a w hs=>by
  first|rw[Qkg] at h|rw[Qkh] at h|rw[Qk1] at h|rw[Qki] at h|rw[Qih] at h
  refine wp_block (wp_mono (Qam G c S _ h B w0 F ρ a w hs) ?_);rintro e I w' ⟨ρ',S',h1,h2⟩
  cases e with
  |exit i=>
   dsimp only at h2;simp only[Exit.inBlock];split at h2
   ·rename_i hb;rw[Y2 (Y5 hb)];exact⟨ρ',S',h1,h2⟩
   ·rename_i hb;rw[Y0 (fun e=>by subst e;simp at hb)];exact⟨ρ',S',h1,h2⟩
  |_=>exact⟨ρ',S',h1,h2⟩
 | .loop c,S,Q,h=>h.out
 | .rangeFunc ..,_,_,h=>h.no.elim
 | .scope _,_,_,h=>h.no.elim
 | .goto _,_,_,h=>h.no.elim
 | .refuse _,_,_,h=>h.no.elim
noncomputable def QrS (tb:Tb) (l:List ResultVar):St->(List V->Prop)->Prop:=List.rec (motive:=fun _=>St->(List V->Prop)->Prop) (fun _ K=>K []) (fun r _ G S K=>match r with
 | .tmp t=>Qal (S.ev [] (.tmp t)) fun v=>G S fun vs=>K (v::vs)
 | .cell x t=>match tb.find t with
  |some ti=>QdN ti (Qi S.blks) (S.ev [] (.tmp x)) fun v=>G S fun vs=>K (v::vs)
  | none => Stuck "result type") l
theorem Qs2 {tb:Tb} {t:Nat} {r:List ResultVar} {S:St} {K:List V->Prop}:QrS tb (.tmp t::r) S K=Qal (S.ev [] (.tmp t)) fun v=>QrS tb r S fun vs=>K (v::vs):=rfl
theorem QrT {tb:Tb} {x:Nat} {t:TypeId} {r:List ResultVar} {S:St} {K:List V->Prop}:QrS tb (.cell x t::r) S K=match tb.find t with
  |some ti=>QdN ti (Qi S.blks) (S.ev [] (.tmp x)) fun v=>QrS tb r S fun vs=>K (v::vs)
  | none => Stuck "result type" := rfl
noncomputable def QqJ (tb:Tb) (rs:List ResultVar) (S:St) (K:V->Prop):Prop:=QrS tb rs S fun vs=>match vs with
 |[v]=>K v
 |vs=>K (.tup vs)
def Qow (tmps:Array Value):ResultVar->Sem Value
 | .tmp t=>pure (tmps.getD t undef)
 | .cell a t=>do loadVar t (<-asAddr (tmps.getD a undef))
theorem QrU (fn:Func) (tmps:Array Value):results fn tmps=(do
 let vs<-fn.results.mapM (Qow tmps)
 pure (if h:vs.size=1 then vs[0] else .tuple vs)):=rfl
theorem QhA (I:TOk P tb) (h:Sim P B w0 F ρ S a w):∀(rs:List ResultVar) (K:List V->Prop),QrS tb rs S K->
  ∃vs vals,(rs.mapM (Qow a.tmps)).run P w=.ok vals w∧Qhx w (ZL B S.blks ρ) ρ vs vals.toArray∧K vs
 |[],K,hk=>⟨[],[],rfl,⟨rfl,fun j v hj=>by simp at hj⟩,hk⟩
 | .tmp t::r,K,hk=>by
  rw[Qs2,QC] at hk;have⟨vs,vals,h1,h2,h3⟩:=QhA I h r _ hk;refine⟨_::vs,a.tmps.getD t undef::vals,?_,⟨by simpa using h2.1,fun j v hj=>?_⟩,h3⟩
  ·simp only[List.mapM_cons,Qow,Sem.run_bind,Sem.run_pure,Result.andThen_ok,h1]
  ·cases j with
   |zero=>simp at hj;subst hj;exact h.evR.at (.tmp t)
   |succ j=>simpa using h2.2 j v (by simpa using hj)
 | .cell x t::r,K,hk=>by
  rw[QrT] at hk;split at hk
  ·rename_i ti G;have U:=h.evR.at (.tmp x);have⟨v,y,h4,h5,h6⟩:=QjA (P:=P) (I.ok _ _ G) h.blks U hk;have⟨vs,vals,h1,h2,h3⟩:=QhA I h r _ h6;refine⟨y::vs,v::vals,?_,⟨by simpa using h2.1,fun j u hj=>?_⟩,h3⟩
   ·have J:(Qow a.tmps (.cell x t)).run P w=.ok v w:=by
     have e:a.eval (.tmp x)=a.tmps.getD x undef:=rfl;rw[e] at h4;simp only[Qow]
     revert h4
     generalize a.tmps.getD x undef=O;intro h4
     cases O with
     |pointer p=>cases p<;>simp_all [Instr.loadAt,Instr.sureAddr,asAddr]
     |_=>simp[Instr.loadAt,Instr.sureAddr] at h4
    simp only[List.mapM_cons,Sem.run_bind,J,Result.andThen_ok,h1,Sem.run_pure]
   ·cases j with
    |zero=>simp at hj;subst hj;simpa using h5
    |succ j=>simpa using h2.2 j u (by simpa using hj)
  ·exact hk.no.elim
theorem QiY (J:TOk P tb) (h:Sim P B w0 F ρ S a w) (fn:Func) (K:V->Prop) (hk:QqJ tb fn.results.toList S K):∃x v,(results fn a.tmps).run P w=.ok v w∧VR w (ZL B S.blks ρ) ρ x v∧K x:=by
 have⟨vs,vals,h1,h2,h3⟩:=QhA J h _ _ hk;have G:(results fn a.tmps).run P w=.ok (if h:vals.toArray.size=1 then vals.toArray[0] else .tuple vals.toArray) w:=by
  rw[QrU,Sem.run_bind,Array.mapM_eq_mapM_toList,Sem.run_map,h1]
  rfl
 have hs:=h2.1
 cases vs with
 |nil=>
  have:¬vals.toArray.size=1:=by rw[hs];simp
  rw[dif_neg this] at G;exact⟨_,_,G,.tup hs h2.2,h3⟩
 |cons v r=>
  cases r with
  |nil=>
   have I:vals.toArray.size=1:=by rw[hs];rfl
   rw[dif_pos I] at G;refine⟨v,_,G,?_,h3⟩;have:=h2.2 0 v rfl;rw[Y6,Xm (by omega)] at this;exact this
  |cons v' r'=>
   have:¬vals.toArray.size=1:=by rw[hs];simp
   rw[dif_neg this] at G;exact⟨_,_,G,.tup hs h2.2,h3⟩
end Go.Ab
