/-
  The operations that write, and functions walked: a part of the frame in which a given row's proof walks the program; no condition.
-/
import Derived.Test.YtjjkhncoafdfmaaGreatDoorAbz1
set_option linter.all false
namespace Go.Ab
open Go.RowKit
variable {P:Program} {tb:Tb} {w:World} {ow:Nat→Prop} {ρ:Env} {a:Act} {B:Bd} {w0:World} {F:List (Array Value)} {S:St} {K:V→St→Prop}
theorem Qod (v:Value):VR w ow ρ (QlG v) v:=by
 unfold QlG;split
 ·rename_i cs;split
  ·rename_i I;refine .agg (by simp) (fun j J=>?_) fun j u J=>?_
   ·have:=Ye.1 I (cs.getD j undef) (by simp[J]);exact this
   ·rw[Yu] at J;obtain⟨x,O,rfl⟩:=Yg.1 J;have:cs.getD j undef=x:=by
     have N:cs[j]? =some x:=by simpa using O
     simp[Y7,N]
    rw[this];exact Qkp x
  ·exact .any
 ·exact Qkp v
theorem Qr3:∀ {al:List (Nat×Bool)} {k:Nat} {w:Bool},QAF al k w=true->(k,w)∈al
 |(k',w')::r,k,w,h=>by
  simp only[QAF] at h;split at h
  ·rename_i h1 h2;have h1:=Y9 h1;have h2:w'=w:=by simpa using h2
   subst h1 h2;simp
  ·exact YM _ (Qr3 h)
 |[],_,_,h=>by simp[QAF] at h
theorem QeB:∀ {gs:List Gd} {t:Nat} {g:Gd},Qh4 gs t=some g->g∈gs∧g.t=t
 |x::r,t,g,h=>by
  simp only[Qh4] at h;split at h
  ·rename_i hb;cases h;exact⟨by simp,Y9 hb⟩
  ·have:=QeB h;exact⟨YM _ this.1,this.2⟩
 |[],_,_,h=>by simp[Qh4] at h
theorem Qs9 {f:Fr} {tm:Array Value} (h:FrR w ow ρ f tm) (t:Nat):VR w ow ρ (Qyd f.tmps t) (tm.getD t undef):=by
 unfold Qyd;split
 ·rename_i v hv;exact h.tmps t v hv
 ·exact .any
theorem Sim.evR (h:Sim P B w0 F ρ S a w):EvR w (ZM B S.blks ρ) ρ a S.ev:=by
 refine⟨fun al x I=>?_⟩
 cases x with
 |const v=>exact Qod v
 |func f=>exact .fn (by simp) fun j v N=>by simp at N
 |global g=>exact .any
 |tmp t=>
  show VR w (ZM B S.blks ρ) ρ (S.ev al (.tmp t)) (a.tmps.getD t undef);unfold St.ev;dsimp only;split
  ·rename_i g J;obtain⟨hm,rfl⟩:=QeB J;split
   ·rename_i O;have:=I _ _ (Qr3 O);rcases(h.top.gds g hm).h with h1|h1
    ·exact h1.2
    ·exact absurd this h1.1
   ·exact .any
  ·exact Qs9 h.top t
def Eff (P:Program) (B:Bd) (w0:World) (F:List (Array Value)) (a:Act) (w:World) (r:Sem Next) (K:V->St->Prop):Prop:=
 ∃n v w' ρ' x S',r.run P w=.ok n w'∧(n=.value v∨(n=.skip∧v=undef))∧Sim P B w0 F ρ' S' a w'∧VR w' (ZM B S'.blks ρ') ρ' x v∧K x S'
theorem QbJ (l vs:List Value) (o j:Nat) (h:o+vs.length<=l.length):
  ((l.take o++vs++l.drop (o+vs.length)).toArray).getD j undef=if o<=j∧j<o+vs.length then vs.getD (j-o) undef else l.getD j undef:=by
 simp only[Y7,List.getElem?_toArray,Y0]
 by_cases h1:j<o
 ·rw[Y3 (by omega),X5,YS (by simp;omega),YP,Y4 h1]
 ·by_cases h2:j<o+vs.length
  ·rw[Y4 ⟨by omega,h2⟩,X5,YZ (by simp;omega),YS (by simp;omega)];rw[Ym,Xa (by omega)]
  ·rw[Y3 (by omega),YZ (by simp;omega),YQ];simp only[Yj,Ym];rw[Xa (by omega),show o+vs.length+(j-(o+vs.length))=j by omega]
theorem Qbt (l vs:List Value) (o:Nat) (h:o+vs.length<=l.length):((l.take o++vs++l.drop (o+vs.length)).toArray).size=l.length:=by
 simp;omega
theorem Qg6:∀ {l:List V} {es:List D},Qs5 l=some es->es.length=l.length∧∀(j:Nat) (d:D),es[j]? =some d->l[j]? =some (V.d d)
 |[],es,he=>by simp[Qs5] at he;subst he;exact⟨rfl,fun j d h=>by simp at h⟩
 |u::r,es,he=>by
  cases u<;>simp only[Qs5] at he<;>first|cases he|skip
  split at he
  ·rename_i xs J;simp only[Yc] at he;subst he;have⟨O,N⟩:=Qg6 J;refine⟨by simp[O],fun j d I=>?_⟩
   cases j with
   |zero=>simp at I;subst I;simp
   |succ j=>simpa using N j d (by simpa using I)
  ·cases he
theorem Qkq {t ti} (J:TIok P t ti) {b o:Nat} {x:Value} {C:Array Value} {et:TypeId} (O:w.heap[b]? =some (.cells C et (0,0))) (hs:x.cells.size=ti.size)
  (h1:∀j,j<x.cells.size->(x.cells.getD j undef).oneCell'=true) (hfit:o+ti.size<=C.size):
  (Instr.storeAt t (.pointer (some ⟨b,o,none⟩)) x).run P w=.ok () (w.setRow b (C.toList.take o++x.cells.toList++C.toList.drop (o+x.cells.toList.length)).toArray):=by
 have I:=run_storeCells_at P b o et x.cells.toList 0 C w O (by simp;omega) (fun v hv=>by
  obtain⟨j,N,rfl⟩:=Y0o.1 hv;have:=h1 j (by simpa using N);simp at N;simpa[N] using this)
 simp only[X3] at I;simp only[Instr.storeAt,Instr.sureAddr,storeVar,Sem.run_bind,Sem.run_pure,Result.andThen_ok,Jc J];rw[Y3 (by omega)];exact I
theorem QqN {b o k:Nat} {C:Array Value} {et:TypeId} {news:List Value} (N:w.heap[b]? =some (.cells C et (0,0))) (I:o+news.length<=C.toList.length) (hk:k<o∨o+news.length<=k):
  (w.setRow b (C.toList.take o++news++C.toList.drop (o+news.length)).toArray).cell? ⟨b,k,none⟩=w.cell? ⟨b,k,none⟩:=by
 have hs:=Qbt C.toList news o I;have h1:=setRow_heap w b C (C.toList.take o++news++C.toList.drop (o+news.length)).toArray et _ N
 by_cases J:k<C.size
 ·have e1:=Qbr h1 (o:=k) (by rw[hs];simpa using J);rw[e1,Qbr N J,QbJ _ _ _ _ I,Y3 (by omega)]
  congr 1
  simp
 ·have U:(C.toList.take o++news++C.toList.drop (o+news.length)).toArray[k]? =none:=XS (by rw[hs];simp;omega);have O:C[k]? =none:=XS (by omega);unfold World.cell?;simp only[h1,N,U,O]
theorem Qta (t:TypeId) (x:Value):(newVar t x).run P w=.ok ⟨w.heap.size,0,none⟩ (w.alloc (.cells x.cells t)):=by
 simp[newVar,newRow]
theorem Qnh {id:Nat} {t:TypeId} {x:Value} {cs:List V} (h:Sim P B w0 F ρ S a w) (hm:S.mentions id=false) (hl:ListR w (ZM B S.blks ρ) ρ cs x.cells)
  (Y:K (.ref id 0 0) ⟨S.base,S.nt,S.tmps,S.gds,(id,.box t cs)::S.blks,S.frames⟩) (I:QU id cs=false) (O:Nat.blt t 1000000=true):
  ∃w' ρ',(newVar t x).run P w=.ok ⟨w.heap.size,0,none⟩ w'∧Sim P B w0 F ρ' ⟨S.base,S.nt,S.tmps,S.gds,(id,.box t cs)::S.blks,S.frames⟩ a w'∧
   VR w' (ZM B ((id,.box t cs)::S.blks) ρ') ρ' (.ref id 0 0) (.pointer (some ⟨w.heap.size,0,none⟩))∧K (.ref id 0 0) ⟨S.base,S.nt,S.tmps,S.gds,(id,.box t cs)::S.blks,S.frames⟩:=by
 refine⟨_,ρ.set id ⟨w.heap.size,0,cs.length,1,1,false⟩,Qta t x,?_,?_,Y⟩
 ·refine Qut h hm x.cells t rfl fun ow' keep=>?_;have U:bcl t=0:=by simp[bcl,O]
  have J:=hl.size;refine .box x.cells (et:=t) (by simp[Env.set]) (by simp[Env.set]) (by simp[Env.set]) (by simp[Env.set,U]) ?_ (by simp[Env.set,J]) (fun j N=>by simpa[Env.set] using hl.one j (by omega)) fun j v N=>?_
  ·simp only[Env.set,YE];exact heap_alloc_new w _
  ·have e0:((ρ.set id ⟨w.heap.size,0,cs.length,1,1,false⟩) id).o+j=j:=by simp[Env.set]
   rw[e0];refine(hl.vals j v N).keep keep fun i hi=>Env.set_other fun e=>?_;subst e;have:=Q9 N hi;rw[I] at this;cases this
 ·have:(⟨w.heap.size,0,none⟩:Addr)=⟨((ρ.set id ⟨w.heap.size,0,cs.length,1,1,false⟩) id).b,((ρ.set id ⟨w.heap.size,0,cs.length,1,1,false⟩) id).o+0*((ρ.set id ⟨w.heap.size,0,cs.length,1,1,false⟩) id).sz+0,none⟩:=by
   simp[Env.set]
  rw[this];exact .ref (by simp[Env.set]) (by simp[Env.set])
def flat (n sz:Nat) (f:Nat->Nat->Value):List Value:=(List.range (n*sz)).map fun k=>f (k/sz) (k%sz)
theorem ZP {n sz f}:(flat n sz f).length=n*sz:=by simp[flat]
theorem QfL {n sz:Nat} {f:Nat->Nat->Value} {i j:Nat} (hi:i<n) (J:j<sz):(flat n sz f)[i*sz+j]? =some (f i j):=by
 have I:i*sz+j<n*sz:=by
  have:(i+1)*sz<=n*sz:=Yf _ (by omega);rw[Yk] at this;omega
 have h1:(i*sz+j)/sz=i:=by rw[Xm,Nat.mul_add_div (by omega),Nat.div_eq_of_lt J];omega
 have h2:(i*sz+j)%sz=j:=by rw[Xm,Nat.mul_add_mod,Y0t J]
 simp only[flat];rw[Yu,List.getElem?_range I];simp[h1,h2]
structure Src (P:Program) (w:World) (ow:Nat→Prop) (sz n:Nat) (row:Nat→List D) (val:Value):Prop where
 hdr:∃ad c,val=.slice ad n c
 rows:∀i,i<n→(row i).length=sz
 cells:∃f:Nat→Nat→Value,(∀w',w'.heap=w.heap→(Builtin.firstCells sz n val).run P w'=.ok (flat n sz f).toArray w')∧
  (∀i j d,i<n→(row i)[j]? =some d→DR w ow d (f i j))∧(∀i j,i<n→j<sz→(f i j).oneCell'=true)
theorem Qni {sz n:Nat} {row:Nat->List D} {val:Value} {ad c} (I:val=.slice ad n c) (h:n=0∨ ∃(b o:Nat) (vals:Nat->Nat->Value),ad=some ⟨b,o,none⟩∧(∀i,i<n->(row i).length=sz)∧
  (∀i j d,i<n->(row i)[j]? =some d->w.cell? ⟨b,o+i*sz+j,none⟩=some (vals i j))∧(∀i j d,i<n->(row i)[j]? =some d->DR w ow d (vals i j))):Src P w ow sz n row val:=by
 rcases h with h0|⟨b,o,vals,U,h1,h2,h3⟩
 ·subst h0;refine⟨⟨ad,c,I⟩,fun i hi=>by omega,fun _ _=>undef,fun w' _=>?_,fun i j d hi=>by omega,fun i j hi=>by omega⟩;subst I
  cases ad<;>simp[Builtin.firstCells,loadCells,loadCellsFrom,flat]
 ·refine⟨⟨ad,c,I⟩,h1,vals,fun w' hw=>?_,h3,fun i j hi O=>(h3 i j _ hi (Y5 (by rw[h1 i hi];exact O))).oneCell⟩;subst I U;refine run_firstCells_some w' sz n ⟨b,o,none⟩ n c _ ZP fun j v O=>?_;have J:=(Ya.1 O).1;rw[ZP] at J;have Y:0<sz:=by
   rcases Xn sz with h|h
   ·rw[h,Y0z] at J;omega
   ·exact h
  have hi:j/sz<n:=Y05 (by rw[Xm];exact J);have N:j%sz<sz:=Y18 _ Y;have e:j/sz*sz+j%sz=j:=Y19 j sz;rw[<-e,QfL hi N] at O
  cases O
  have:=h2 (j/sz) (j%sz) _ hi (Y5 (by rw[h1 _ hi];exact N));rw[Xk,e] at this;rw[Addr.add_mid];simpa[World.cell?,hw] using this
theorem QdB {blk:Nat->Option Blk} {sz n:Nat} {row:Nat->List D} {v:V} {val:Value} (hb:∀id b,blk id=some b->BR w ow ρ id b) (hv:VR w ow ρ v val) (h:J0 blk sz v=some (n,row)):
  Src P w ow sz n row val:=by
 unfold J0 at h;split at h
 ·rename_i id off len;split at h
  ·rename_i t s n' J N;split at h
   ·rename_i hs;have hs:=Y9 hs;simp only[Yc,YX] at h;obtain⟨rfl,rfl⟩:=h;have⟨ad,c,h1,h2,h3⟩:=hv.osl_inv;rcases h3 with ⟨h3,_⟩|⟨h3,h4,h5,h6⟩
    ·exact Qni h1 (.inl h3)
    ·refine Qni h1 (.inr ?_)
     cases hb _ _ N with
     |arr0 h _ _ _=>rw[h] at h3;cases h3
     |arr C et0 g1 g2 g3 g4 g5 g6 g7 g8=>
     have I:∀i,ZB off J i=J (off+i):=fun i=>by cases off<;>simp[ZB]
     refine⟨(ρ id).b,(ρ id).o+off*(ρ id).sz,fun i j=>C.getD ((ρ id).o+(off+i)*s+j) undef,h5,fun i hi=>?_,fun i j d hi O=>?_,fun i j d hi O=>?_⟩
     ·rw[I,g5 _ (by omega),hs]
     ·rw[I] at O;have hj:=(Ya.1 O).1;rw[g5 _ (by omega)] at hj;have a1:(off+i+1)*s<=(ρ id).cap*s:=Yf _ (by omega);rw[Yk (off+i)] at a1;have:=Qbr (w:=w) (o:=(ρ id).o+(off+i)*s+j) g6 (by omega);rw[g2,<-hs,show(ρ id).o+off*s+i*s+j=(ρ id).o+(off+i)*s+j by rw[Yk];omega];exact this
     ·rw[I] at O;exact g8 (off+i) j d (by omega) O
   ·cases h
  ·cases h
 ·rename_i n' J;split at h
  ·rename_i hl;have hl:=Y9 hl;simp only[Yc,YX] at h;obtain⟨rfl,rfl⟩:=h;have⟨ad,c,h1,h2⟩:=hv.sl_inv;rcases h2 with h2|⟨b,o,Y,vals,h2,h3,h4,h5,h6,h7⟩
   ·exact Qni h1 (.inl h2)
   ·rcases Xn n' with U|U
    ·exact Qni h1 (.inl U)
    ·have:Y=sz:=by rw[<-h5 0 U,hl]
     subst this;exact Qni h1 (.inr ⟨b,o,vals,h2,h5,h6,h7⟩)
  ·cases h
 ·simp only[Yc,YX] at h;obtain⟨rfl,rfl⟩:=h
  cases hv with|d hv=>cases hv;exact Qni rfl (.inl rfl)
 ·cases h
end Go.Ab
namespace Go.Ab
open Go.RowKit
variable {P:Program} {tb:Tb} {w:World} {ow:Nat→Prop} {ρ:Env} {a:Act} {B:Bd} {w0:World} {F:List (Array Value)} {S:St} {K:V→St→Prop}
theorem QeC {t t' ty e e':TypeId} {te} (ht:P.underlying t=some (.slice e)) (Y:P.underlying t'=some (.slice e')) (U:TIok P e te)
  {g o n cap m:Nat} {x:Value} {ad c} (hx:x=.slice ad m c) {I:Array Value} {et:TypeId} (hg:w.heap[g]? =some (.cells I et (0,0))) {news:List Value} (hn:(Builtin.firstCells te.size m x).run P w=.ok news.toArray w)
  (h1:∀u∈news,u.oneCell'=true) (J:n+m<=cap) (O:o+n*te.size+news.length<=I.size):
  (Builtin.append_ #[t,t'] ty #[.slice (some ⟨g,o,none⟩) n cap,x]).run P w=
   .ok (.slice (some ⟨g,o,none⟩) (n+m) cap) (w.setRow g (I.toList.take (o+n*te.size)++news++I.toList.drop (o+n*te.size+news.length)).toArray):=by
 subst hx;have N:=run_storeCells_at P g (o+n*te.size) et news 0 I w hg (by simpa using O) h1;simp only[X3] at N;simp[Builtin.append_,run_underlying ht,run_underlying Y,Jc U,Builtin.lenOf,J,hn,Addr.add_mid,N]
theorem QeD {t N ty e Y:TypeId} {te} (O:P.underlying t=some (.slice e)) (J:P.underlying N=some (.slice Y)) (I:TIok P e te) {x:Value} {ad c} (U:x=.slice ad 0 c)
  (hn:(Builtin.firstCells te.size 0 x).run P w=.ok #[] w) {base:Option Addr} {cap:Nat}:
  (Builtin.append_ #[t,N] ty #[.slice base 0 cap,x]).run P w=.ok (.slice base 0 cap) w:=by
 subst U
 cases base<;>simp[Builtin.append_,run_underlying O,run_underlying J,Jc I,Builtin.lenOf,hn,storeCells]
theorem QeE {t t' ty e e':TypeId} {te} (ht:P.underlying t=some (.slice e)) (a9:P.underlying t'=some (.slice e')) (a5:TIok P e te)
  {n m:Nat} {r r':Nat->List D} {s x:Value} {base:Option Addr} {cap:Nat} (hs:s=.slice base n cap) (hS:Src P w ow te.size n r s) (hX:Src P w ow te.size m r' x) (J:cap<n+m)
  (hb:(n+m)*(te.bytes+1)<=70368744177664):
  ∃nc C,(Builtin.append_ #[t,t'] ty #[s,x]).run P w=.ok (.slice (some ⟨w.heap.size,0,none⟩) (n+m) nc) (w.drew.alloc (.cells C e))∧C.size=nc*te.size∧n+m<=nc∧
   ∀i,i<n+m->(QeY n r r' i).length=te.size∧∀j d,(QeY n r r' i)[j]? =some d->DR w ow d (C.getD (i*te.size+j) undef):=by
 have⟨i,z,hi,hs1,b0,hz,b1,hzl,hzr⟩:=a5.info;have⟨f,f1,f2,f3⟩:=hS.cells;have⟨O,g1,g2,g3⟩:=hX.cells;have⟨ad,c,hx⟩:=hX.hdr;have a7:n+m<=grownCap w (n+m) cap e:=grownCap_ge w _ _ e;have hbytes:(n+m)*te.bytes+(n+m)<=70368744177664:=by rw[Nat.mul_add,Nat.mul_one] at hb;exact hb
 have a6:¬(281474976710656<Builtin.nextslicecap (n+m) cap*i.bytes):=by
  have:=growslice_fits (bytes:=te.bytes) J (by omega);rw[b0];omega
 have b3:¬(9223372036854775807<((n:Int)+(m:Int))):=by omega
 have b2:¬(n+m<=cap):=by omega
 refine⟨grownCap w (n+m) cap e,(flat n te.size f).toArray++(flat m te.size O).toArray++Builtin.zeroCells z.cells (grownCap w (n+m) cap e-(n+m)),?_,?_,a7,fun q hq=>?_⟩
 ·have a1:=f1 w.drew rfl;have a2:=g1 w.drew rfl;subst hs hx;simp[Builtin.append_,run_underlying ht,run_underlying a9,Jc a5,zeroValue,typeInfo,hi,hz,Builtin.lenOf,b2,b3,a6,Question.forced,a1,a2,newRow,grownCap]
  congr 2;apply Xt;simp
 ·have h1:((flat n te.size f).toArray++(flat m te.size O).toArray++Builtin.zeroCells z.cells (grownCap w (n+m) cap e-(n+m))).size=n*te.size+m*te.size+(grownCap w (n+m) cap e-(n+m))*te.size:=by
   simp[ZP,Builtin.zeroCells,b1]
  rw[h1,<-Yk,<-Yk]
  congr 1;omega
 ·have e1:∀(q j:Nat),q<n+m->j<te.size->((flat n te.size f).toArray++(flat m te.size O).toArray++Builtin.zeroCells z.cells (grownCap w (n+m) cap e-(n+m))).getD (q*te.size+j) undef=if q<n then f q j else O (q-n) j:=by
   intro q j hq N;have a8:(q+1)*te.size<=(n+m)*te.size:=Yf _ (by omega);rw[Yk,Yk] at a8;rw[Y7,XL (by simp[ZP];omega)]
   by_cases I:q<n
   ·have Y:(q+1)*te.size<=n*te.size:=Yf _ (by omega);rw[Yk] at Y;rw[Y4 I,XL (by simp[ZP];omega)];simp[QfL I N]
   ·have Y:n*te.size<=q*te.size:=Yf _ (by omega);have e2:q*te.size+j-n*te.size=(q-n)*te.size+j:=by rw[Nat.sub_mul];omega
    rw[Y3 I,Array.getElem?_append_right (by simp[ZP];omega)];simp only[X6,ZP,e2];simp[QfL (n:=m) (f:=O) (show q-n<m by omega) N]
  simp only[QeY]
  by_cases I:q<n
  ·rw[Y4 I];refine⟨hS.rows q I,fun j d U=>?_⟩;have N:j<te.size:=by have:=(Ya.1 U).1;have:=hS.rows q I;omega
   rw[e1 q j hq N,Y4 I];exact f2 q j d I U
  ·rw[Y3 I];refine⟨hX.rows _ (by omega),fun j d U=>?_⟩;have N:j<te.size:=by have:=(Ya.1 U).1;have:=hX.rows (q-n) (by omega);omega
   rw[e1 q j hq N,Y3 I];exact g2 _ j d (by omega) U
theorem Qfn {id:Nat} {N:St} (h:SimO P ow B w0 F ρ N a w) (hm:N.mentions id=false) (U:∀b,ZM B N.blks ρ b->ow b) (how:∀b,ow b->b<w.heap.size) {n sz cap:Nat} {row:Nat->List D} {C:Array Value} {e:TypeId} {O:World}
  (Y:O=w∨O=w.drew) (hC:cap*sz<=C.size) (hn:n<=cap) (hr:∀i,i<n->(row i).length=sz∧∀j d,(row i)[j]? =some d->DR w ow d (C.getD (i*sz+j) undef)):
  Sim P B w0 F (ρ.set id ⟨w.heap.size,0,sz,n,cap,false⟩) ⟨N.base,N.nt,N.tmps,N.gds,(id,.arr e sz n row)::N.blks,N.frames⟩ a (O.alloc (.cells C e))∧
  VR (O.alloc (.cells C e)) (ZM B ((id,.arr e sz n row)::N.blks) (ρ.set id ⟨w.heap.size,0,sz,n,cap,false⟩)) (ρ.set id ⟨w.heap.size,0,sz,n,cap,false⟩) (.osl id 0 n) (.slice (some ⟨w.heap.size,0,none⟩) n cap):=by
 have I:(O.alloc (.cells C e)).heap=(w.alloc (.cells C e)).heap:=by rcases Y with rfl|rfl<;>rfl
 have J:O.os=w.os∧O.tape=w.tape∧O.output=w.output:=by rcases Y with rfl|rfl<;>exact⟨rfl,rfl,rfl⟩
 refine⟨QgE h hm U (by rw[I];simp) (fun b hb _=>by rw[I];exact Below.heap_alloc w _ b hb) (fun b hb=>by rw[I];exact Below.heap_alloc w _ b (h.hB b hb)) (fun b k hc=>World.cell?_of_block (by rw[I];exact Below.heap_alloc w _ b (YK (h.below.clt b k hc) h.below.size))) (fun _=>.inl (Yh _))
  (fun _=>⟨fun a1=>absurd (h.hB _ a1) (Nat.lt_irrefl _),fun k hc=>absurd (YK (h.below.clt _ k hc) h.below.size) (Nat.lt_irrefl _)⟩)
  J.1 J.2.1 J.2.2 fun keep=>?_,?_⟩
 ·refine .arr C e (by simp[Env.set]) (by simp[Env.set]) (by simp[Env.set]) (by simpa[Env.set] using hn) (fun i hi=>(hr i hi).1) ?_ (by simpa[Env.set] using hC) fun i j d hi hd=>?_
  ·rw[I];simp only[Env.set,YE];exact heap_alloc_new w _
  ·simp only[Env.set,YE,Yl];exact((hr i hi).2 j d hd).keep keep
 ·have e1:(Value.slice (some ⟨w.heap.size,0,none⟩) n cap)=.slice (some ⟨((ρ.set id ⟨w.heap.size,0,sz,n,cap,false⟩) id).b,((ρ.set id ⟨w.heap.size,0,sz,n,cap,false⟩) id).o+0*((ρ.set id ⟨w.heap.size,0,sz,n,cap,false⟩) id).sz,none⟩) n (((ρ.set id ⟨w.heap.size,0,sz,n,cap,false⟩) id).cap-0):=by
   simp[Env.set]
  rw[e1];exact .osl (by simp[Env.set]) (by simp[Env.set]) (by simpa[Env.set] using hn)
theorem QdL {id:Nat} {I:St} (h:SimO P ow B w0 F ρ I a w) (hm:I.mentions id=false) (J:∀b,ZM B I.blks ρ b->ow b) {sz:Nat} {row:Nat->List D} {e:TypeId} (ad:Option Addr):
  Sim P B w0 F (ρ.set id ⟨0,0,sz,0,0,true⟩) ⟨I.base,I.nt,I.tmps,I.gds,(id,.arr e sz 0 row)::I.blks,I.frames⟩ a w∧
  VR w (ZM B ((id,.arr e sz 0 row)::I.blks) (ρ.set id ⟨0,0,sz,0,0,true⟩)) (ρ.set id ⟨0,0,sz,0,0,true⟩) (.osl id 0 0) (.slice ad 0 0):=by
 refine⟨QgE h hm J (Yh _) (fun _ _ _=>rfl) (fun _ _=>rfl) (fun _ _ _=>rfl) (fun h=>by cases h) (fun h=>by cases h) rfl rfl rfl fun _=>.arr0 (by simp[Env.set]) (by simp[Env.set]) (by simp[Env.set]) rfl,.osl0 rfl (XW _)⟩
end Go.Ab
namespace Go.Ab
open Go.RowKit
variable {P:Program} {tb:Tb} {w:World} {ρ:Env} {a:Act} {B:Bd} {w0:World} {F:List (Array Value)} {S:St} {K:V→St→Prop}
theorem QfM {α:Type} (f:α->V) (id:Nat) (h:∀x,(f x).mentions id=false):∀l:List α,QU id (l.map f)=false
 |[]=>rfl
 |x::r=>by simp only[YI,QU,h x];exact QfM f id h r
theorem QgF (id:Nat) (v:Value):(Qnc v).mentions id=false:=by
 unfold Qnc;split<;>rfl
theorem QkN (id:Nat) (v:Value):(QlG v).mentions id=false:=by
 unfold QlG;split
 ·split
  ·simp only[V.mentions];exact QfM _ _ (QgF id) _
  ·rfl
 ·exact QgF id v
theorem QlO {id:Nat} (h:S.mentions id=false) (al:List (Nat×Bool)) (x:Operand):(S.ev al x).mentions id=false:=by
 have⟨h1,h2,_,_⟩:=St.mentions_parts h
 cases x with
 |const v=>exact QkN id v
 |func f=>rfl
 |global g=>rfl
 |tmp t=>
  unfold St.ev;dsimp only;split
  ·rename_i g I;split
   ·cases hm:g.v.mentions id
    ·rfl
    ·have:=Qe0 (QeB I).1 hm;rw[h2] at this;cases this
   ·rfl
  ·unfold Qyd;split
   ·rename_i v hv
    cases hm:v.mentions id
    ·rfl
    ·have:=QeZ hv hm;rw[h1] at this;cases this
   ·rfl
theorem QhJ {id:Nat} {v:V} (h:v.mentions id=false):QU id v.cells=false:=by
 cases v<;>simp_all [V.cells,V.mentions,QU]
theorem QdY (h:Sim P B w0 F ρ S a w) {b:Nat} (ho:ZM B S.blks ρ b):b<w.heap.size:=ho.elim (QAH h.blks) fun I=>h.hB _ (B.sub _ I)
theorem Qm6 {r:List D} {o:Nat} {ds:List D} {sz:Nat} (h:r.length=sz):(Qc2 r o ds).length=sz:=by rw[Qbs,h]
theorem QgG {id:Nat} {bs:List (Nat×Blk)} {b:Nat}:own (Qda id bs) ρ b->own bs ρ b:=by
 rintro⟨i,k,N,hp,rfl⟩;have⟨_,J,I,_⟩:=QbI N;exact⟨i,J,I,hp,rfl⟩
theorem QwF {id:Nat} {t:TypeId} {sz n:Nat} {row I:Nat->List D} (h:Sim P B w0 F ρ S a w) (O:Qk S.blks id=some (.arr t sz n row)) (hr:∀i,i<n->I i=row i):
  Sim P B w0 F ρ ⟨S.base,S.nt,S.tmps,S.gds,QhF S.blks id (.arr t sz n I),S.frames⟩ a w:=by
 have keep:Keep w (ZM B S.blks ρ) w (ZM B (QhF S.blks id (.arr t sz n I)) ρ):=⟨Yh _,fun b _ ho=>⟨rfl,fun h=>ho (h.imp (Qoc O) fun h=>h)⟩⟩;have J:∀i x,Qk (QhF S.blks id (.arr t sz n I)) i=some x->∃x0,Qk S.blks i=some x0:=fun i x N=>by
  rcases Qa6 N with ⟨rfl,_,b,hb⟩|⟨_,hb⟩
  ·exact⟨b,hb⟩
  ·exact⟨x,hb⟩
 refine⟨h.below,h.tab,h.hB,h.defers,h.nt,h.top.keep keep fun _ _=>rfl,fun i b hb=>?_,fun i j x y N hy=>?_,fun i x N=>?_,h.frames.1,fun i f' tm a2 a5=>(h.frames.2 i f' tm a2 a5).keep keep fun _ _=>rfl⟩
 ·rcases Qa6 hb with ⟨rfl,rfl,_⟩|⟨hn,hb⟩
  ·have a6:=h.blks i _ O;have:BR w (ZM B S.blks ρ) ρ i (.arr t sz n I):=by
    cases a6 with
    |arr0 k1 k2 Y k4=>exact .arr0 k1 k2 Y k4
    |arr C et k1 k2 Y k4 k5 k6 k7 k8=>exact .arr C et k1 k2 Y k4 (fun i hi=>by rw[hr i hi];exact k5 i hi) k6 k7 fun i j d hi hd=>k8 i j d hi (by rw[<-hr i hi];exact hd)
   exact this.keep keep rfl (fun _=>rfl) fun _ _=>rfl
  ·exact(h.blks i b hb).keep keep rfl (fun _=>rfl) fun _ _=>rfl
 ·have⟨x0,U⟩:=J i x N;have⟨y0,a1⟩:=J j y hy;exact h.sep i j x0 y0 U a1
 ·rcases Qa6 N with ⟨rfl,rfl,_⟩|⟨_,hb⟩
  ·have:=h.ge i (.arr t sz n row) O;exact this
  ·exact h.ge i x hb
theorem QeF (hT:TOk P tb) (h:Sim P B w0 F ρ S a w) (o:Oper) (he:evE tb o.dst o.op S K):Eff P B w0 F a w (execOp a.eval o) K:=by
 obtain⟨dst,op,ty,pos,after,guard⟩:=o;obtain⟨base,nt,ts,gs,bs,fs⟩:=S;have hev:=h.evR
 cases op<;>simp only[evE,St.idK_eq] at he<;>first|exact he.no.elim|skip
 case alloc t=>
  split at he
  ·rename_i ti dst' hti hbl;split at he
   ·exact he.no.elim
   ·rename_i hm;rw[Za] at he;obtain⟨i,z,hi,hs1,hby,hz,hzs,hzl,hzr⟩:=(hT.ok _ _ hti).info;have hl:ListR w (ZM B bs ρ) ρ (ti.zero.map .d) z.cells:=by
     refine⟨by rw[hzs,Yb,hzl],fun j hj=>?_,fun j u hj=>?_⟩
     ·exact(hzr w (ZM B bs ρ) j _ (Y5 (by omega))).oneCell
     ·rw[Yu] at hj;obtain⟨d,hd,rfl⟩:=Yg.1 hj;exact .d (hzr w _ j d hd)
    obtain⟨w',ρ',h1,h2,h3,h4⟩:=Qnh (P:=P) (t:=t) (x:=z) (K:=K) h hm hl he (QfM _ _ (fun _=>rfl) _) hbl;refine⟨_,_,w',ρ',_,_,?_,.inl rfl,h2,h3,h4⟩;simp only[execOp,Instr.alloc,Sem.run_bind,zeroValue,typeInfo,run_program,hi,hz,Result.andThen_ok,Sem.run_pure,h1]
  ·exact he.no.elim
 case box t x=>
  split at he
  ·rename_i dst' hbl;split at he
   ·exact he.no.elim
   ·rename_i hm;rw[Za] at he;simp only[XH,Bool.not_eq_false'] at hm;have hl:=Qes (hev.at x) hm.2;obtain⟨w',ρ',h1,h2,h3,h4⟩:=Qnh (P:=P) (t:=t) (x:=a.eval x) (K:=K) h hm.1 hl he (QhJ (QlO hm.1 _ _)) hbl;refine⟨_,_,w',ρ',_,_,?_,.inl rfl,h2,h3,h4⟩;simp only[execOp,Instr.box,Sem.run_bind,h1,Result.andThen_ok,Sem.run_pure]
  ·exact he.no.elim
 case store t p x=>
  split at he
  ·rename_i ti id row off hti hp;have hv:=hev.at x;obtain⟨h1,h2,h3⟩:=(hev.eq hp).ref_inv;split at he
   ·rename_i t' cs hcs hlk;simp only[Y2] at hcs;have hsz:=Y9 hcs.2;have hl:=Qes hv hcs.1;split at he
    ·rename_i hle;have hle:=Yt hle;rw[Za,Z4] at he;have hls:=hl.size
     cases h.blks id _ hlk with
     |box C g1 g2 g3 g4 g5 g6 g7 g8=>
     have e:(ρ id).o+0*(ρ id).sz+off=(ρ id).o+off:=by omega
     rw[e] at h1;have g6a:=g6.1;have gfit:cs.length<=(ρ id).cap*(ρ id).sz:=by rw[g3];exact Yf _ g4.2.1
     have hrun:=Qkq (P:=P) (w:=w) (hT.ok _ _ hti) g5 (o:=(ρ id).o+off) (x:=a.eval x) (by omega) hl.one (by omega);have hfit:(ρ id).o+off+(a.eval x).cells.toList.length<=C.toList.length:=by simp;omega
     refine⟨.skip,undef,_,ρ,.any,_,?_,.inr ⟨rfl,rfl⟩,QlN h hlk h2 (C.toList.take ((ρ id).o+off)++(a.eval x).cells.toList++C.toList.drop ((ρ id).o+off+(a.eval x).cells.toList.length)).toArray (by rfl) (fun _ k hk=>QqN g5 hfit (by simp;omega)) fun ow' keep=>?_,.any,he⟩
     ·simp only[execOp,h1,Sem.run_bind,hrun,Result.andThen_ok,Sem.run_pure]
     ·have hs':=Qbt C.toList (a.eval x).cells.toList ((ρ id).o+off) hfit;refine .box _ g1 g2 (by rw[Qbs];exact g3) g4 (setRow_heap w _ C _ _ _ g5) (by rw[hs',Qbs];simpa using g6) (fun j hj=>?_) fun j u hj=>?_
      ·rw[QbJ _ _ _ _ hfit];rw[Qbs] at hj
       by_cases hc:(ρ id).o+off<=(ρ id).o+j∧(ρ id).o+j<(ρ id).o+off+(a.eval x).cells.toList.length
       ·rw[Y4 hc];have:=hl.one (j-off) (by simp at hc;omega);rw[show(ρ id).o+j-((ρ id).o+off)=j-off by omega];simpa using this
       ·rw[Y3 hc];have:=g7 j hj;simpa using this
      ·rw[QbJ _ _ _ _ hfit];rw[QgC _ _ _ _ (by omega)] at hj;have hlen:(a.eval x).cells.toList.length=(St.ev ⟨base,nt,ts,gs,bs,fs⟩ [] x).cells.length:=by simpa using hls
       by_cases hc:off<=j∧j<off+(St.ev ⟨base,nt,ts,gs,bs,fs⟩ [] x).cells.length
       ·rw[Y4 hc] at hj;rw[Y4 (by omega)];have:=(hl.vals _ _ hj).keep (ρ':=ρ) keep fun _ _=>rfl;rw[show(ρ id).o+j-((ρ id).o+off)=j-off by omega];simpa using this
       ·rw[Y3 hc] at hj;rw[Y3 (by omega)];have:=(g8 _ _ hj).keep (ρ':=ρ) keep fun _ _=>rfl;simpa using this
    ·exact he.no.elim
   ·rename_i t' sz n rw' hcs hlk;simp only[Y2] at hcs;have hsz:=Y9 hcs.2;have hl:=Qes hv hcs.1;have hls:=hl.size;split at he
    ·rename_i ds hle hds;have hle:=Yt hle;obtain⟨rw1,hrw1,he⟩:=he;rw[Z4] at he;obtain⟨e1,e2⟩:=Qg6 hds
     cases h.blks id _ hlk with
     |arr0 g=>rw[g] at h2;cases h2
     |arr C et0 g1 g2 g3 g4 g5 g6 g7 g8=>
     have hm1:(row+1)*sz<=(ρ id).cap*sz:=Yf _ (by omega);rw[Yk] at hm1;rw[g2] at h1;have hrun:=Qkq (P:=P) (w:=w) (hT.ok _ _ hti) g6 (o:=(ρ id).o+row*sz+off) (x:=a.eval x) (by omega) hl.one (by omega);have hfit:(ρ id).o+row*sz+off+(a.eval x).cells.toList.length<=C.toList.length:=by simp;omega
     have hlen:(a.eval x).cells.toList.length=ds.length:=by simpa[e1] using hls
     refine⟨.skip,undef,_,ρ,.any,_,?_,.inr ⟨rfl,rfl⟩,QlN h hlk h2 (C.toList.take ((ρ id).o+row*sz+off)++(a.eval x).cells.toList++C.toList.drop ((ρ id).o+row*sz+off+(a.eval x).cells.toList.length)).toArray (by rfl) (fun e=>by cases e) fun ow' keep=>?_,.any,he⟩
     ·simp only[execOp,h1,Sem.run_bind,hrun,Result.andThen_ok,Sem.run_pure]
     ·have hs':=Qbt C.toList (a.eval x).cells.toList ((ρ id).o+row*sz+off) hfit;refine .arr _ et0 g1 g2 g3 g4 (fun i hi=>?_) (setRow_heap w _ C _ et0 _ g6) (by rw[hs'];simpa using g7) fun i j d hi hd=>?_
      ·rw[hrw1 i hi]
       by_cases hir:i=row
       ·simp only[hir,YE];exact Qm6 (g5 row (by omega))
       ·simp only[hir,Xi];exact g5 i hi
      ·rw[hrw1 i hi] at hd;rw[QbJ _ _ _ _ hfit]
       by_cases hir:i=row
       ·subst hir;simp only[YE] at hd;have hrl:=g5 i hi;rw[QgC _ _ _ _ (by omega)] at hd
        by_cases hc:off<=j∧j<off+ds.length
        ·rw[Y4 hc] at hd;rw[Y4 (by omega)];have:=hl.vals _ _ (e2 _ _ hd)
         cases this with|d this=>
         have:=this.keep keep;rw[show(ρ id).o+i*sz+j-((ρ id).o+i*sz+off)=j-off by omega];simpa using this
        ·rw[Y3 hc] at hd;rw[Y3 (by omega)];have:=(g8 i j d hi hd).keep keep;simpa using this
       ·simp only[hir,Xi] at hd;have hj:=(Ya.1 hd).1;rw[g5 i hi] at hj;have hdis:¬((ρ id).o+row*sz+off<=(ρ id).o+i*sz+j∧(ρ id).o+i*sz+j<(ρ id).o+row*sz+off+(a.eval x).cells.toList.length):=by
         intro hc;rcases Nat.lt_or_gt_of_ne hir with hlt|hgt
         ·have:(i+1)*sz<=row*sz:=Yf _ (by omega);rw[Yk] at this;omega
         ·have:(row+1)*sz<=i*sz:=Yf _ (by omega);rw[Yk] at this;omega
        rw[Y3 hdis];have:=(g8 i j d hi hd).keep keep;simpa using this
    ·exact he.no.elim
   ·exact he.no.elim
  ·exact he.no.elim
 case makeSlice t l c=>
  split at he
  ·rename_i e s' by' z' q dst' hti
   split at he
   ·rename_i k sz byt z q' n m hte hl hc;have hl:=(hev.eq hl).int_inv;have hc:=(hev.eq hc).int_inv;split at he
    ·exact he.no.elim
    ·rename_i hm;obtain⟨⟨b1,b2,b3,b4⟩,n1,rw1,hn1,hrw1,he⟩:=he;subst hn1;obtain⟨i,z0,hi,hs1,hby,hz,hzs,hzl,hzr⟩:=(hT.ok _ _ hte).info;dsimp only at hs1 hby hzs hzl hzr;have hrun:=run_make (P:=P) w t e i z0 (ZS (hT.ok _ _ hti) rfl) hi hz .i64 .i64 n m b1 b2 (by rw[hby,Int.mul_comm];omega) (by omega);have hsn:=Qfn (w:=w) h.o hm (fun _ h=>h) (fun _ ho=>QdY h ho) (n:=n.toNat) (sz:=sz) (cap:=m.toNat) (row:=rw1) (C:=madeCells z0.cells (m.toNat*i.size)) (e:=e) (.inl rfl)
      (by rw[size_madeCells,hs1];exact Yh _) (by omega) fun q hq=>⟨by rw[hrw1 q hq];exact hzl,fun j d hd=>by
       rw[hrw1 q hq] at hd;have hj:=(Ya.1 hd).1;have hlt:q*sz+j<m.toNat*sz:=by
        have:(q+1)*sz<=m.toNat*sz:=Yf _ (by omega);rw[Yk] at this;omega
       have e2:(q*sz+j)%sz=j:=by rw[Xm,Nat.mul_add_mod,Y0t (by omega)]
       have e3:(madeCells z0.cells (m.toNat*i.size)).getD (q*sz+j) undef=z0.cells.getD j undef:=by
        simp[madeCells,hs1,hlt,hzs,e2,show j<sz by omega]
       rw[e3];exact hzr w _ j d hd⟩
     refine⟨_,_,_,_,_,_,?_,.inl rfl,hsn.1,hsn.2,he⟩;simp only[execOp,hl,hc,Sem.run_bind,hrun,Result.andThen_ok,Sem.run_pure]
   ·exact he.no.elim
  ·exact he.no.elim
 case buildSlice t len parts=>
  split at he
  ·rename_i e s' by' z' q dst' hti
   split at he
   ·rename_i k sz byt z q' hte;split at he
    ·rename_i rs hrs hm hle;split at he
     ·rename_i hlen;have hlen:=Y9 hlen;obtain⟨hk,hr⟩:=QjI hev parts;obtain⟨n1,rw1,hn1,hrw1,he⟩:=he;rw[hn1] at hrw1 he;obtain⟨C,h1,h2,h3⟩:=QhG (P:=P) (w:=w) (ow:=ZM B bs ρ) (ρ:=ρ) hT hti rfl hte len (parts.map fun(i,x)=>(i,a.eval x)) hk hr hrs hlen (Yt hle);have hsn:=Qfn (w:=w) h.o hm (fun _ h=>h) (fun _ ho=>QdY h ho) (n:=len) (sz:=sz) (cap:=len) (row:=rw1) (C:=C) (e:=e) (.inl rfl) (by rw[h2];exact Yh _) (Yh _) fun q hq=>by rw[hrw1 q hq];exact h3 q hq
      refine⟨_,_,_,_,_,_,?_,.inl rfl,hsn.1,hsn.2,he⟩;simp only[execOp,Sem.run_bind,h1,Result.andThen_ok,Sem.run_pure]
     ·exact he.no.elim
    ·exact he.no.elim
   ·exact he.no.elim
  ·exact he.no.elim
 case call c=>
  split at he
  case h_3=>exact he.no.elim
  case h_2=>
   rename_i hcal;split at he
   case h_2=>exact he.no.elim
   rename_i s t hargs htys;have hargs:c.args=#[s]:=by apply Xt;simpa using hargs
   have htys:c.argTypes=#[t]:=by apply Xt;simpa using htys
   have hrun:∀w',(execOp a.eval ⟨dst,.call c,ty,pos,after,guard⟩).run P w'=((Builtin.clear_ #[t] ty #[a.eval s]>>=fun v=>(pure (.value v):Sem Next)).run P w'):=fun w'=>by
    simp only[execOp,resolve,hcal,hargs,htys,pure_bind,invoke,builtin,XX,YI,Y0s]
   have fin:∀ {v w' ρ' S'},(Builtin.clear_ #[t] ty #[a.eval s]).run P w=.ok v w'->Sim P B w0 F ρ' S' a w'->K .any S'->Eff P B w0 F a w (execOp a.eval ⟨dst,.call c,ty,pos,after,guard⟩) K:=
    fun h1 h2 h4=>⟨_,_,_,_,.any,_,by rw[hrun,Sem.run_bind,h1];rfl,.inl rfl,h2,.any,h4⟩
   split at he
   case h_2=>exact he.no.elim
   rename_i e s' by' z' q hti
   have hu:=ZS (hT.ok _ _ hti) rfl;split at he
   case h_2=>exact he.no.elim
   rename_i kk sz byt zz qq id off len hte hsv;split at he
   case h_2=>exact he.no.elim
   rename_i t' sz' n rw0 hlk;split at he
   case h_2=>exact he.no.elim
   rename_i hsz;have hsz:=Y9 hsz;subst hsz;obtain⟨rw1,hrw1,he⟩:=he;rw[Z4] at he;obtain⟨ad,cap,h1,h2,h3⟩:=(hev.eq hsv).osl_inv;obtain⟨i0,z0,hi0,hs1,hby,hz,hzs,hzl,hzr⟩:=(hT.ok _ _ hte).info;dsimp only at hs1 hzs hzl hzr;rcases Xn len with hl0|hl0
   ·subst hl0;have g1:(Builtin.clear_ #[t] ty #[a.eval s]).run P w=.ok (.tuple #[]) w:=by
     rw[h1]
     cases ad<;>simp[Builtin.clear_,run_underlying hu]
    refine fin g1 (QwF h hlk fun i hi=>?_) he;exact(hrw1 i hi).2 (by omega)
   ·rcases h3 with ⟨h3,_⟩|⟨hp,h4,h5,h6⟩
    ·omega
    ·have hb:=h.blks id _ hlk
     cases hb with
     |arr0 g=>rw[g] at hp;cases hp
     |arr C et0 g1 g2 g3 g4 g5 g6 g7 g8=>
     rw[g2] at h5;have hcm:(off+len)*sz'<=(ρ id).cap*sz':=Yf _ (by omega);rw[Yk] at hcm;have hzc:(Builtin.zeroCells z0.cells len).toList.length=len*sz':=by simp[Builtin.zeroCells,hzs]
     have hone:∀u∈(Builtin.zeroCells z0.cells len).toList,u.oneCell'=true:=fun u hu=>by
      simp only[Builtin.zeroCells,Array.toList_map,Yo] at hu;obtain⟨i,hi,rfl⟩:=hu;have hi:i<len*z0.cells.size:=by simpa using hi
      have hs:0<z0.cells.size:=by
       rcases Xn z0.cells.size with e|e
       ·rw[e,Y0z] at hi;omega
       ·exact e
      have hlt:i%z0.cells.size<z0.cells.size:=Y18 _ hs;have:=(hzr w (fun _=>False) (i%z0.cells.size) _ (Y5 (by omega))).oneCell;rw[Y10 z0.cells (i%z0.cells.size) hlt];simpa[Y7,hlt] using this
     have hfit:(ρ id).o+off*sz'+(Builtin.zeroCells z0.cells len).toList.length<=C.toList.length:=by rw[hzc];simp;omega
     have hst:=run_storeCells_at P (ρ id).b ((ρ id).o+off*sz') et0 (Builtin.zeroCells z0.cells len).toList 0 C w g6 (by simpa using hfit) hone;simp only[X3] at hst;have hzv:(zeroValue e).run P w=.ok z0 w:=by simp[zeroValue,typeInfo,hi0,hz]
     obtain⟨m,rfl⟩:∃m,len=m+1:=⟨len-1,by omega⟩;have g0:(Builtin.clear_ #[t] ty #[a.eval s]).run P w=.ok (.tuple #[]) (w.setRow (ρ id).b (C.toList.take ((ρ id).o+off*sz')++(Builtin.zeroCells z0.cells (m+1)).toList++C.toList.drop ((ρ id).o+off*sz'+(Builtin.zeroCells z0.cells (m+1)).toList.length)).toArray):=by
      rw[h1,h5];simp[Builtin.clear_,run_underlying hu,hzv,hst]
     refine fin g0 (QlN h hlk hp _ (by rfl) (fun e=>by cases e) fun ow' keep=>?_) he;have hs':=Qbt C.toList (Builtin.zeroCells z0.cells (m+1)).toList ((ρ id).o+off*sz') hfit;refine .arr _ et0 hp g2 g3 g4 (fun i hi=>?_) (setRow_heap w _ C _ et0 _ g6) (by rw[hs'];simpa using g7) fun i j d hi hd=>?_
     ·by_cases hc:off<=i∧i<off+(m+1)
      ·rw[<-((hrw1 i hi).1 hc).len];exact hzl
      ·rw[(hrw1 i hi).2 hc];exact g5 i hi
     ·rw[QbJ _ _ _ _ hfit]
      by_cases hc:off<=i∧i<off+(m+1)
      ·obtain⟨d0,hd0,hle⟩:=((hrw1 i hi).1 hc).get hd;refine DR.zle hle ?_;replace hd:=hd0;have hj:j<sz':=by have:=(Ya.1 hd).1;omega
       have hm1:(i-off+1)*sz'<=(m+1)*sz':=Yf _ (by omega);rw[Yk,Y0p] at hm1;have hm2:i*sz'=off*sz'+(i-off)*sz':=by rw[<-Yk];congr 1;omega
       rw[Y4 (by rw[hzc];omega)];have e4:(ρ id).o+i*sz'+j-((ρ id).o+off*sz')=(i-off)*sz'+j:=by omega
       rw[e4];have e5:(Builtin.zeroCells z0.cells (m+1)).toList.getD ((i-off)*sz'+j) undef=z0.cells.getD j undef:=by
        have e2:((i-off)*sz'+j)%sz'=j:=by rw[Xm,Nat.mul_add_mod,Y0t (by omega)]
        have e3:(i-off)*sz'+j<(m+1)*sz':=by omega
        simp[Builtin.zeroCells,hzs,e3,e2,Y0,Y7,show j<sz' by omega]
       rw[e5];exact hzr _ _ j d0 hd
      ·rw[(hrw1 i hi).2 hc] at hd;have hj:j<sz':=by have:=(Ya.1 hd).1;rw[g5 i hi] at this;exact this
       have hdis:¬((ρ id).o+off*sz'<=(ρ id).o+i*sz'+j∧(ρ id).o+i*sz'+j<(ρ id).o+off*sz'+(Builtin.zeroCells z0.cells (m+1)).toList.length):=by
        rw[hzc];intro hh;rcases YW i off with hlt|hge
        ·have:(i+1)*sz'<=off*sz':=Yf _ (by omega);rw[Yk] at this;omega
        ·have:(off+(m+1))*sz'<=i*sz':=Yf _ (by omega);rw[Yk] at this;omega
       rw[Y3 hdis];have:=(g8 i j d hi hd).keep keep;simpa using this
  rename_i hcal;split at he
  case h_2=>exact he.no.elim
  rename_i s x t t' hargs htys;have hargs:c.args=#[s,x]:=by apply Xt;simpa using hargs
  have htys:c.argTypes=#[t,t']:=by apply Xt;simpa using htys
  have hrun:∀w',(execOp a.eval ⟨dst,.call c,ty,pos,after,guard⟩).run P w'=((Builtin.append_ #[t,t'] ty #[a.eval s,a.eval x]>>=fun v=>(pure (.value v):Sem Next)).run P w'):=fun w'=>by
   simp only[execOp,resolve,hcal,hargs,htys,pure_bind,invoke,builtin,XX,YI,Y0s]
  have fin:∀ {v w' ρ' x' S'},(Builtin.append_ #[t,t'] ty #[a.eval s,a.eval x]).run P w=.ok v w'->Sim P B w0 F ρ' S' a w'->VR w' (ZM B S'.blks ρ') ρ' x' v->K x' S'->Eff P B w0 F a w (execOp a.eval ⟨dst,.call c,ty,pos,after,guard⟩) K:=
   fun h1 h2 h3 h4=>⟨_,_,_,_,_,_,by rw[hrun,Sem.run_bind,h1];rfl,.inl rfl,h2,h3,h4⟩
  split at he
  case h_2=>exact he.no.elim
  rename_i e s' by' z' q e' s2 by2 z2 q2 dst' hti hti'
  have hu:=ZS (hT.ok _ _ hti) rfl;have hu':=ZS (hT.ok _ _ hti') rfl;split at he
  case h_2=>exact he.no.elim
  rename_i kk sz byt zz qq hte;have hteok:=hT.ok _ _ hte;split at he
  case h_2=>exact he.no.elim
  rename_i n r m r' hcs hcx;have hS:=QdB (P:=P) (w:=w) (ow:=ZM B bs ρ) (ρ:=ρ) h.blks (hev.at s) hcs;have hX:=QdB (P:=P) (w:=w) (ow:=ZM B bs ρ) (ρ:=ρ) h.blks (hev.at x) hcx;obtain⟨adx,cx,hxv⟩:=hX.hdr;split at he
  ·rename_i id off len hsv;obtain⟨hb,n1,rw1,hn1,hrw1,he⟩:=he;rw[Qb2,Qb3,Z4,QdK] at he;subst hn1;have hk:=Qpu h.o id;have hkm:=St.kill_mentions ⟨base,nt,ts,gs,bs,fs⟩ id;obtain⟨ad,cap,h1,h2,h3⟩:=(hev.eq hsv).osl_inv;have hn:n=len:=by
    obtain⟨ad',c',h4⟩:=hS.hdr;rw[h1] at h4;cases h4;rfl
   subst hn;rcases YW cap (n+m) with hgrow|hroom
   ·obtain⟨nc,C,g1,g2,g3,g4⟩:=QeE (P:=P) (ty:=ty) hu hu' hteok h1 hS hX hgrow hb;have hsn:=Qfn (w:=w) hk hkm (fun _ h=>h.imp QgG fun h=>h) (fun _ ho=>QdY h ho) (n:=n+m) (sz:=sz) (cap:=nc) (row:=rw1) (C:=C) (e:=e) (.inr rfl) (by rw[g2];exact Yh _) g3 fun q hq=>by rw[hrw1 q hq];exact g4 q hq
    exact fin g1 hsn.1 hsn.2 he
   ·rcases h3 with ⟨h3,h4⟩|⟨h3,h4,h5,h6⟩
    ·have hm0:m=0:=by omega
     subst hm0 h3 h4;obtain⟨f,f1,_,_⟩:=hX.cells;have hf:=f1 w rfl;have g1:=QeD (P:=P) (w:=w) (ty:=ty) hu hu' hteok hxv (by simpa[flat] using hf) (base:=ad) (cap:=0);have hsn:=QdL (w:=w) hk hkm (fun _ h=>h.imp QgG fun h=>h) (sz:=sz) (row:=rw1) (e:=e) ad;exact fin (by rw[h1];exact g1) hsn.1 hsn.2 he
    ·obtain⟨t0,n0,row0,hlk⟩:∃t0 n0 row0,Qk bs id=some (.arr t0 sz n0 row0):=by
      rw[hsv] at hcs;simp only[J0] at hcs;split at hcs
      ·rename_i t1 s1 n1 row1 hlk;split at hcs
       ·rename_i hbq;exact⟨t1,n1,row1,by rw[<-Y9 hbq];exact hlk⟩
       ·cases hcs
      ·cases hcs
     cases h.blks id _ hlk with
     |arr0 g=>rw[g] at h3;cases h3
     |arr C et0 g1 g2 g3 g4 g5 g6 g7 g8=>
     obtain⟨f,f1,f2,f3⟩:=hX.cells;have hge:=h.ge id _ hlk h3;have hmul:(off+(n+m))*sz<=(ρ id).cap*sz:=Yf _ (by omega);rw[Yk,Yk] at hmul;subst h5;rw[g2] at h1;have hrm:=QeC (P:=P) (w:=w) (ty:=ty) (te:=⟨kk,sz,byt,zz,qq⟩) hu hu' hteok (n:=n) (cap:=cap) hxv g6 (o:=(ρ id).o+off*sz) (news:=flat m sz f) (f1 w rfl)
      (fun u hu=>by
       obtain⟨j,hj,rfl⟩:=Y0o.1 hu;rw[ZP] at hj;have hsz:0<sz:=by
        rcases Xn sz with h|h
        ·rw[h,Y0z] at hj;omega
        ·exact h
       have hi:j/sz<m:=Y05 (by rw[Xm];exact hj);have hj2:j%sz<sz:=Y18 _ hsz;have e0:=QfL (f:=f) hi hj2;rw[Y19 j sz] at e0;rw[(Ya.1 e0).2];exact f3 _ _ hi hj2) hroom (by rw[ZP];dsimp only;omega)
     dsimp only at hrm;have hfit:(ρ id).o+off*sz+n*sz+(flat m sz f).length<=C.toList.length:=by rw[ZP];simp;omega
     have hnown:¬own (Qda id bs) ρ (ρ id).b:=by
      rintro⟨i,k,hk,hp,hbi⟩;obtain⟨hne,k0,hk0,_⟩:=QbI hk;exact hne (h.sep i id _ _ hk0 hlk hp h3 hbi)
     have hsn:=QgE (loc:=⟨(ρ id).b,(ρ id).o+off*sz,sz,n+m,cap,false⟩) (blk:=.arr e sz (n+m) rw1)
      (w':=w.setRow (ρ id).b (C.toList.take ((ρ id).o+off*sz+n*sz)++flat m sz f++C.toList.drop ((ρ id).o+off*sz+n*sz+(flat m sz f).length)).toArray) hk hkm (fun _ h=>h.imp QgG fun h=>h) (by simp)
      (fun b hb0 hb1=>setRow_other w _ b _ fun e=>by
       subst e;rcases hb1 with hb1|hb1
       ·exact hb1 (.inl ⟨id,_,hlk,h3,rfl⟩)
       ·exact hnown hb1)
      (fun b hb0=>setRow_other w _ b _ (fun e=>hge.blk (e▸hb0))) (fun b k hc=>by
       by_cases e:b=(ρ id).b
       ·subst e;have:=(hge.cel k hc).1
        cases this
       ·exact World.cell?_of_block (setRow_other w _ b _ e)) (fun _=>.inr ⟨.inl ⟨id,_,hlk,h3,rfl⟩,hnown⟩)
      (fun _=>⟨hge.blk,fun k hc=>by have:=(hge.cel k hc).1;cases this⟩) rfl rfl rfl fun keep=>by
       have hsz':=Qbt C.toList (flat m sz f) ((ρ id).o+off*sz+n*sz) hfit;refine .arr _ et0 (by simp[Env.set]) (by simp[Env.set]) (by simp[Env.set]) (by simpa[Env.set] using hroom) (fun i hi=>?_) (by simp only[Env.set,YE];exact setRow_heap w _ C _ et0 _ g6) ?_ fun i j d hi hd=>?_
       ·rw[hrw1 i hi];simp only[QeY]
        by_cases hin:i<n
        ·rw[Y4 hin];exact hS.rows i hin
        ·rw[Y3 hin];exact hX.rows _ (by omega)
       ·rw[hsz'];simp only[Env.set,YE];have:off*sz+cap*sz=(ρ id).cap*sz:=by rw[<-Yk];congr 1;omega
        simp;omega
       ·rw[QbJ _ _ _ _ hfit];have hfl:(flat m sz f).length=m*sz:=ZP;simp only[Env.set,YE];rw[hrw1 i hi] at hd;simp only[QeY] at hd
        by_cases hin:i<n
        ·rw[Y4 hin] at hd;have hj:j<sz:=by have:=(Ya.1 hd).1;have:=hS.rows i hin;omega
         have hm3:(i+1)*sz<=n*sz:=Yf _ (by omega);rw[Yk] at hm3;rw[Y3 (by omega)];obtain⟨f0,_,h02,_⟩:=hS.cells;have hrow:∃row0,r=ZB off row0∧Qk bs id=some (.arr t0 sz n0 row0):=by
          rw[hsv] at hcs;simp only[J0,hlk] at hcs;split at hcs
          ·simp only[Yc,YX] at hcs;exact⟨_,hcs.2.symm,hlk⟩
          ·cases hcs
         obtain⟨row1,hr1,hr2⟩:=hrow;rw[hlk] at hr2
         cases hr2
         have hview:ZB off row0 i=row0 (off+i):=by cases off<;>simp[ZB]
         rw[hr1,hview] at hd;have:=(g8 (off+i) j d (by omega) hd).keep keep;rw[show(ρ id).o+off*sz+i*sz+j=(ρ id).o+(off+i)*sz+j by rw[Yk];omega];simpa using this
        ·rw[Y3 hin] at hd;have hj:j<sz:=by have:=(Ya.1 hd).1;have:=hX.rows (i-n) (by omega);omega
         have hm3:n*sz<=i*sz:=Yf _ (by omega);have hm4:(i+1)*sz<=(n+m)*sz:=Yf _ (by omega);rw[Yk,Yk] at hm4;rw[Y4 (by omega)];have e4:(ρ id).o+off*sz+i*sz+j-((ρ id).o+off*sz+n*sz)=(i-n)*sz+j:=by rw[Nat.sub_mul];omega
         rw[e4,Y0,QfL (n:=m) (by omega) hj];exact(f2 (i-n) j d (by omega) hd).keep keep
     refine fin (by rw[h1];exact hrm) hsn ?_ he;have e1:(Value.slice (some ⟨(ρ id).b,(ρ id).o+off*sz,none⟩) (n+m) cap)=.slice (some ⟨((ρ.set id ⟨(ρ id).b,(ρ id).o+off*sz,sz,n+m,cap,false⟩) id).b,((ρ.set id ⟨(ρ id).b,(ρ id).o+off*sz,sz,n+m,cap,false⟩) id).o+0*((ρ.set id ⟨(ρ id).b,(ρ id).o+off*sz,sz,n+m,cap,false⟩) id).sz,none⟩) (n+m) (((ρ.set id ⟨(ρ id).b,(ρ id).o+off*sz,sz,n+m,cap,false⟩) id).cap-0):=by
      simp[Env.set]
     rw[e1];exact .osl (by simp[Env.set]) (by simp[Env.set]) (by simpa[Env.set] using hroom)
  ·rename_i hsv;obtain⟨ad0,h1⟩:∃ad,a.eval s=.slice ad 0 0:=by
    have:=hev.eq hsv
    cases this with|d this=>generalize a.eval s=y at*;cases this;exact⟨_,rfl⟩
   have hn:n=0:=by
    obtain⟨ad',c',h4⟩:=hS.hdr;rw[h1] at h4;cases h4;rfl
   subst hn;split at he
   ·exact he.no.elim
   ·rename_i hm;obtain⟨hb,n1,rw1,hn1,hrw1,he⟩:=he;rw[hn1] at hrw1 he;rcases Xn m with hm0|hm0
    ·subst hm0;obtain⟨f,f1,_,_⟩:=hX.cells;have hf:=f1 w rfl;have g1:=QeD (P:=P) (w:=w) (ty:=ty) hu hu' hteok hxv (by simpa[flat] using hf) (base:=ad0) (cap:=0);have hsn:=QdL (w:=w) h.o hm (fun _ h=>h) (sz:=sz) (row:=rw1) (e:=e) ad0;exact fin (by rw[h1];exact g1) hsn.1 hsn.2 he
    ·obtain⟨nc,C,g1,g2,g3,g4⟩:=QeE (P:=P) (ty:=ty) hu hu' hteok h1 hS hX (by omega) hb;rw[Yl] at g1 g3;have hsn:=Qfn (w:=w) h.o hm (fun _ h=>h) (fun _ ho=>QdY h ho) (n:=m) (sz:=sz) (cap:=nc) (row:=rw1) (C:=C) (e:=e) (.inr rfl) (by rw[g2];exact Yh _) g3 fun i hi=>by
      rw[hrw1 i hi];have:=g4 i (by omega);simpa[QeY] using this
     exact fin g1 hsn.1 hsn.2 he
  ·exact he.no.elim
end Go.Ab
namespace Go.Ab
open Go.RowKit
variable {P:Program} {tb:Tb} {w:World} {ow ow':Nat→Prop} {ρ:Env} {a:Act} {B:Bd} {w0:World} {F:List (Array Value)} {S:St}
theorem Zs (off:Nat) (row:Nat->List D) (i:Nat):ZB off row i=row (off+i):=by cases off<;>simp[ZB]
def Qy1:Option Blk->Option (Nat->List D)
 |some (.arr _ _ _ row)=>some row
 |some (.box t cs)=>(match bcl t,Qs5 cs with
  |n+1,some ds=>some (QqJ (cs.length/(n+1)) ds)
  |0,some ds=>some fun _=>ds
  |_,none=>none)
 |none=>none
structure FR (w:World) (ow:Nat→Prop) (l:Loc) (row:Nat→List D):Prop where
 cells:l.ph=false→∃C et,w.heap[l.b]? =some (.cells C et (0,0))∧(∀i,i<l.n→(row i).length=l.sz)∧∀i j d,i<l.n→(row i)[j]? =some d→l.o+i*l.sz+j<C.size∧DR w ow d (C.getD (l.o+i*l.sz+j) undef)
theorem Qtb {id:Nat} {b:Blk} {row:Nat->List D} (hb:BR w ow ρ id b) (h:Qy1 (some b)=some row):FR w ow (ρ id) row:=by
 cases hb with
 |arr0 k1=>exact⟨fun h0=>by rw[k1] at h0;cases h0⟩
 | @arr t sz n row0 C et k1 k2 k3 Y U k6 k7 k8=>
  simp only[Qy1,Yc] at h;subst h;refine⟨fun _=>⟨C,et,k6,fun i hi=>by rw[k2];exact U i (by omega),fun i j d hi I=>?_⟩⟩;have hj:j<sz:=by
   have:=U i (by omega);have:=(Ya.1 I).1;omega
  have hm:(i+1)*sz<=(ρ id).cap*sz:=Yf _ (by omega);rw[Yk] at hm;rw[k2];exact⟨by omega,k8 i j d (by omega) I⟩
 | @box t cs C et k1 k2 k3 Y U k6 k7 k8=>
  simp only[Qy1] at h;split at h
  ·rename_i n ds hn O;simp only[Yc] at h;subst h;have⟨e1,e2⟩:=Qg6 O;rw[hn] at Y;have en:(ρ id).n=n+1:=by rw[Y.1];omega
   have N:cs.length/(n+1)=(ρ id).sz:=by rw[k3,en,Xm,Nat.mul_div_cancel _ (by omega)]
   rw[N];have J:∀i,i<(ρ id).n->(i+1)*(ρ id).sz<=(ρ id).n*(ρ id).sz:=fun i hi=>Yf _ (by omega);refine⟨fun _=>⟨C,et,U,fun i hi=>?_,fun i j d hi I=>?_⟩⟩
   ·have:=J i hi;rw[Yk] at this;simp[QqJ];omega
   ·have hm:=J i hi;rw[Yk] at hm;simp only[QqJ,YP,YQ] at I;split at I
    ·rename_i hj;have h1:=e2 _ _ I;have a2:=(Ya.1 h1).1;have h2:=k8 _ _ h1;rw[Xk];refine⟨by omega,?_⟩
     cases h2 with|d h2=>exact h2
    ·cases I
  ·rename_i ds hn O;simp only[Yc] at h;subst h;have⟨e1,e2⟩:=Qg6 O;rw[hn] at Y;have en:(ρ id).n=1:=by rw[Y.1];rfl
   have N:cs.length=(ρ id).sz:=by rw[k3,en];omega
   refine⟨fun _=>⟨C,et,U,fun i hi=>by rw[e1,N],fun i j d hi I=>?_⟩⟩;have a1:i=0:=by omega
   subst a1;have h1:=e2 _ _ I;have a2:=(Ya.1 h1).1;have h2:=k8 _ _ h1;rw[Nat.zero_mul,X3];refine⟨by omega,?_⟩
   cases h2 with|d h2=>exact h2
  ·cases h
mutual
def V.frz (id:Nat) (row:Nat->List D):V->V
 | .ref i r o=>match Nat.beq i id with
  |true=>.rp ((row r).drop o)
  |false=>.ref i r o
 | .osl i o l=>match Nat.beq i id with
  |true=>.d (.sl l (ZB o row))
  |false=>.osl i o l
 | .agg vs=>.agg (Qui id row vs)
 | .tup vs=>.tup (Qui id row vs)
 | .fn f vs=>.fn f (Qui id row vs)
 | .any=>.any
 | .d x=>.d x
 | .rp cs=>.rp cs
def Qui (id:Nat) (row:Nat->List D):List V->List V
 |[]=>[]
 |v::r=>v.frz id row::Qui id row r
end
def QAq (id:Nat) (row:Nat->List D) (ts:List (Nat×V)):List (Nat×V):=ts.map fun p=>(p.1,p.2.frz id row)
def QAr (id:Nat) (row:Nat->List D) (gs:List Gd):List Gd:=gs.map fun g=>⟨g.t,g.key,g.want,g.v.frz id row⟩
def Blk.frz (id:Nat) (row:Nat->List D):Blk->Blk
 | .box t cs=>.box t (Qui id row cs)
 | .arr t sz n r=>.arr t sz n r
theorem Blk.frz_bx (id:Nat) (row:Nat->List D) (b:Blk):(b.frz id row).bx=b.bx:=by cases b<;>rfl
def Quj (id:Nat) (row:Nat->List D):List (Nat×Blk)->List (Nat×Blk)
 |[]=>[]
 |(i,b)::r=>match Nat.beq i id with
  |true=>Quj id row r
  |false=>(i,b.frz id row)::Quj id row r
def QAs (id:Nat) (row:Nat->List D) (fs:List Fr):List Fr:=fs.map fun f=>⟨QAq id row f.tmps,QAr id row f.gds⟩
def St.frz (S:St) (id:Nat) (row:Nat->List D):St:=match S with
 |⟨base,nt,ts,gs,bs,fs⟩=>⟨base,nt,QAq id row ts,QAr id row gs,Quj id row bs,QAs id row fs⟩
theorem Qg7 {id:Nat} {row:Nat->List D}:∀(vs:List V) (j:Nat),(Qui id row vs)[j]? =(vs[j]?).map (V.frz id row)
 |[],j=>by simp[Qui]
 |v::r,0=>by simp[Qui]
 |v::r,j+1=>by simpa[Qui] using Qg7 r j
theorem Qbu {id:Nat} {row:Nat->List D}:∀(vs:List V),(Qui id row vs).length=vs.length
 |[]=>rfl
 |v::r=>by simp[Qui,Qbu r]
theorem QiS (hs:∀b,ow' b->ow b):Keep w ow w ow':=⟨Yh _,fun b _ ho=>⟨rfl,fun h=>ho (hs b h)⟩⟩
theorem VR.frz {v:V} {x:Value} {id:Nat} {row:Nat->List D} (h:VR w ow ρ v x) (hb:FR w ow (ρ id) row) (hs:∀b,ow' b->ow b) (hn:(ρ id).ph=false->¬ow' (ρ id).b):VR w ow' ρ (v.frz id row) x:=by
 induction h with
 |any=>exact .any
 |d h=>exact .d (h.keep (QiS hs))
 |ref h1 h2=>
  rename_i i r off;simp only[V.frz];split
  ·rename_i hi;have:=Y9 hi;subst this;have⟨C,et,U,k5,k8⟩:=hb.cells h1;have a1:∀ {j:Nat} {d:D},((row r).drop off)[j]? =some d->(row r)[off+j]? =some d:=fun {j d} h=>by rwa[YQ] at h
   refine .rp (fun j=>C.getD ((ρ i).o+r*(ρ i).sz+off+j) undef) (hn h1) ((Ys.1 U).1) (fun j d I=>?_) fun j d I=>?_
   ·have:=(k8 r (off+j) d h2 (a1 I)).1;exact Qbr U (by omega)
   ·have:=(k8 r (off+j) d h2 (a1 I)).2;rw[<-Xk] at this;exact this.keep (QiS hs)
  ·exact .ref h1 h2
 |osl0 h0 h1=>
  simp only[V.frz];split
  ·exact .d (.sl0 h0)
  ·exact .osl0 h0 h1
 |osl h1 h2 h3=>
  rename_i i off len;simp only[V.frz];split
  ·rename_i hi;have:=Y9 hi;subst this;have⟨C,et,U,k5,k8⟩:=hb.cells h1;refine .d (.sl (sz:=(ρ i).sz) (fun q j=>C.getD ((ρ i).o+off*(ρ i).sz+q*(ρ i).sz+j) undef) (hn h1) ?_ (fun q hq=>?_) (fun q j d hq I=>?_) (fun q j d hq I=>?_) (by omega))
   ·exact(Ys.1 U).1
   ·rw[Zs];exact k5 _ (by omega)
   ·rw[Zs] at I;have:=(k8 (off+q) j d (by omega) I).1;rw[Yk] at this;exact Qbr U (by omega)
   ·rw[Zs] at I;have:=(k8 (off+q) j d (by omega) I).2;have e:(ρ i).o+(off+q)*(ρ i).sz+j=(ρ i).o+off*(ρ i).sz+q*(ρ i).sz+j:=by rw[Yk];omega
    rw[<-e];exact this.keep (QiS hs)
  ·exact .osl h1 h2 h3
 |rp vals ho hb hc I=>exact .rp vals (fun h=>ho (hs _ h)) hb hc fun j d O=>(I j d O).keep (QiS hs)
 |agg N h1 hv Y=>
  refine .agg (by rw[Qbu];exact N) h1 fun j v O=>?_;rw[Qg7] at O;obtain⟨v',J,rfl⟩:=Yg.1 O;exact Y j v' J
 |tup N hv Y=>
  refine .tup (by rw[Qbu];exact N) fun j v O=>?_;rw[Qg7] at O;obtain⟨v',J,rfl⟩:=Yg.1 O;exact Y j v' J
 |fn N hv Y=>
  refine .fn (by rw[Qbu];exact N) fun j v O=>?_;rw[Qg7] at O;obtain⟨v',J,rfl⟩:=Yg.1 O;exact Y j v' J
theorem QdM {id:Nat} {row:Nat->List D}:∀ {bs:List (Nat×Blk)} {i:Nat} {b:Blk},Qk (Quj id row bs) i=some b->i≠id∧∃I,Qk bs i=some I∧b=I.frz id row
 |(u,x)::r,i,b,h=>by
  simp only[Quj] at h;split at h
  ·rename_i hb;have:=Y9 hb;subst this;have⟨h1,I,h2,h3⟩:=QdM h;exact⟨h1,I,by rw[QO (YY h1)];exact h2,h3⟩
  ·rename_i hb;rcases QY h with ⟨rfl,rfl⟩|⟨J,h⟩
   ·exact⟨fun e=>by subst e;simp at hb,x,Zl,rfl⟩
   ·have⟨h1,I,h2,h3⟩:=QdM h;exact⟨h1,I,by rw[QO J];exact h2,h3⟩
 |[],_,_,h=>by simp[Quj,Qk] at h
theorem FrR.frz {f:Fr} {tm:Array Value} {id:Nat} {row:Nat->List D} (h:FrR w ow ρ f tm) (hb:FR w ow (ρ id) row) (hs:∀b,ow' b->ow b) (N:(ρ id).ph=false->¬ow' (ρ id).b):
  FrR w ow' ρ ⟨QAq id row f.tmps,QAr id row f.gds⟩ tm:=by
 refine⟨fun u v hv=>?_,fun g O=>?_⟩
 ·have hv:Qk (f.tmps.map fun p=>(p.1,p.2.frz id row)) u=some v:=hv;rw[Qob] at hv;obtain⟨v',J,rfl⟩:=Yg.1 hv;exact(h.tmps u v' J).frz hb hs N
 ·obtain⟨U,I,rfl⟩:=Yo.1 O;rcases(h.gds U I).h with h1|h1
  ·exact⟨.inl ⟨h1.1,h1.2.frz hb hs N⟩⟩
  ·exact⟨.inr h1⟩
theorem Sim.frz {id:Nat} {row:Nat->List D} (h:Sim P B w0 F ρ S a w) (I:Qy1 (Qk S.blks id)=some row):
  Sim P B w0 F ρ (S.frz id row) a w∧∀v x,VR w (ZM B S.blks ρ) ρ v x->VR w (ZM B (S.frz id row).blks ρ) ρ (v.frz id row) x:=by
 have⟨base,nt,ts,gs,bs,fs⟩:=S;simp only[St.frz];dsimp only at I;obtain⟨blk0,hb⟩:∃b,Qk bs id=some b:=by
  cases hl:Qk bs id with
  |none=>rw[hl] at I;cases I
  |some b=>exact⟨b,rfl⟩
 rw[hb] at I;have Y:=Qtb (h.blks id _ hb) I;have J:∀b,ZM B (Quj id row bs) ρ b->ZM B bs ρ b:=by
  rintro b (⟨i,k,hk,hp,rfl⟩|hf)
  ·have⟨_,k0,O,_⟩:=QdM hk;exact .inl ⟨i,k0,O,hp,rfl⟩
  ·exact .inr hf
 have N:(ρ id).ph=false->¬ZM B (Quj id row bs) ρ (ρ id).b:=by
  rintro hp (⟨i,k,hk,a5,e⟩|hf)
  ·have⟨a7,k0,O,_⟩:=QdM hk;exact a7 (h.sep i id k0 _ O hb a5 hp e)
  ·exact(h.ge id _ hb hp).blk (B.sub _ hf)
 have hv:∀v x,VR w (ZM B bs ρ) ρ v x->VR w (ZM B (Quj id row bs) ρ) ρ (v.frz id row) x:=fun v x hx=>hx.frz Y J N;refine⟨⟨h.below,h.tab,h.hB,h.defers,h.nt,h.top.frz Y J N,fun i b a8=>?_,fun i j x y hx hy=>?_,fun i x hx=>?_,by simpa[QAs] using h.frames.1,fun i f tm hf ht=>?_⟩,hv⟩
 ·obtain⟨_,b0,a9,rfl⟩:=QdM a8;have h1:=h.blks i b0 a9
  cases h1 with
  |box C k1 k2 k3 k4 k5 k6 k7 k8=>
   refine .box C k1 k2 (by rw[Qbu];exact k3) k4 k5 (by rw[Qbu];exact k6) (by rw[Qbu];exact k7) fun j v hj=>?_;rw[Qg7] at hj;obtain⟨v',a2,rfl⟩:=Yg.1 hj;exact hv _ _ (k8 j v' a2)
  |arr0 k1 k2 k3 k4=>exact .arr0 k1 k2 k3 k4
  |arr C et k1 k2 k3 k4 k5 k6 k7 k8=>exact .arr C et k1 k2 k3 k4 k5 k6 k7 fun i j d hi hd=>(k8 i j d hi hd).keep (QiS J)
 ·have⟨_,x0,U,_⟩:=QdM hx;have⟨_,y0,a6,_⟩:=QdM hy;exact h.sep i j x0 y0 U a6
 ·obtain⟨_,x0,U,rfl⟩:=QdM hx;rw[Blk.frz_bx];exact h.ge i x0 U
 ·simp only[QAs,Yu] at hf;obtain⟨f0,a1,rfl⟩:=Yg.1 hf;exact(h.frames.2 i f0 tm a1 ht).frz Y J N
mutual
def V.ids:V->List Nat
 | .osl i _ _=>[i]
 | .agg vs=>QBo vs
 |_=>[]
def QBo:List V->List Nat
 |[]=>[]
 |v::r=>match v.ids with
  |[]=>QBo r
  |l=>l++QBo r
end
def Qnj:List Nat->St->(St->Prop)->Prop
 |[],S,K=>K S
 |id::r,⟨base,nt,ts,gs,bs,fs⟩,K=>match Qk bs id with
  |some (.arr _ _ _ row)=>Qgf (QAq id row ts) fun ts=>Qgg (QAr id row gs) fun gs=>Qa5 (Quj id row bs) fun bs=>QiP (QAs id row fs) fun fs=>Qnj r ⟨base,nt,ts,gs,bs,fs⟩ K
  |_=>Qnj r ⟨base,nt,ts,gs,bs,fs⟩ K
theorem Qe2 {K:St->Prop}:∀ {l:List Nat} {S:St},Sim P B w0 F ρ S a w->Qnj l S K->∃S',Sim P B w0 F ρ S' a w∧K S'
 |[],S,h,hk=>⟨S,h,hk⟩
 |id::r,⟨base,nt,ts,gs,bs,fs⟩,h,hk=>by
  simp only[Qnj] at hk;split at hk
  ·rename_i row hb;rw[Qb2,Qb3,Z4,QdK] at hk;exact Qe2 (h.frz (show Qy1 (Qk bs id)=some row by rw[hb];rfl)).1 hk
  ·exact Qe2 h hk
def QAJ (op:Op) (S:St):List Nat:=match op with
 | .store _ a x=>(match S.ev [] a with
  | .ref id _ _=>(match Qk S.blks id with
   |some (.arr ..)=>(S.ev [] x).ids
   |_=>[])
  |_=>[])
 | .buildSlice _ _ I=>QBo (I.toList.map fun p=>S.ev [] p.2)
 |_=>[]
def evF (tb:Tb) (dst:Option Nat) (op:Op) (S:St) (K:V->St->Prop):Prop:=match op with
 | .store t a x=>Qnj (QAJ (.store t a x) S) S fun S=>evE tb dst (.store t a x) S K
 | .buildSlice t len I=>Qnj (QAJ (.buildSlice t len I) S) S fun S=>evE tb dst (.buildSlice t len I) S K
 |op=>evE tb dst op S K
theorem Quu (N:TOk P tb) {K:V->St->Prop} (h:Sim P B w0 F ρ S a w) (o:Oper) (J:evF tb o.dst o.op S K):Eff P B w0 F a w (execOp a.eval o) K:=by
 unfold evF at J;split at J
 ·rename_i t x y I;have⟨S',h1,h2⟩:=Qe2 h J;rw[<-I] at h2;exact QeF N h1 o h2
 ·rename_i t len parts I;have⟨S',h1,h2⟩:=Qe2 h J;rw[<-I] at h2;exact QeF N h1 o h2
 ·exact QeF N h o J
end Go.Ab
namespace Go.Ab
open Go.RowKit
def Qhq (w:World) (ow:Nat->Prop) (ρ:Env) (vs:List V) (vals:Array Value):Prop:=
 vals.size=vs.length∧∀j v,vs[j]? =some v->VR w ow ρ v (vals.getD j undef)
structure Callable (P:Program) (f:FuncId):Prop where
 out : ∃ fn, P.funcs[f]? = some fn ∧ (fn.name == "runtime.NumGoroutine") = false ∧ fn.body.isNone = false
structure CallP (P:Program) (f:FuncId) (args:List V) (S:St) (K:V→St→Prop):Prop where
 can:Callable P f
 out:∀B w0 F ρ a w vals,Sim P B w0 F ρ S a w→Qhq w (ZM B S.blks ρ) ρ args vals→
  Calls P f vals w fun e w'=>∃v ρ' x S',e=.returned v∧Sim P B w0 F ρ' S' a w'∧VR w' (ZM B S'.blks ρ') ρ' x v∧K x S'
structure CallG (P:Program) (sc scN:Prop→Prop) (f:FuncId) (args:List V) (S:St) (K:V→St→Prop):Prop where
 can:Callable P f
 out:∃x S',K x S'∧sc (∀B w0 F ρ a w vals,Sim P B w0 F ρ S a w→Qhq w (ZM B S.blks ρ) ρ args vals→
  Calls P f vals w fun e w'=>∃v ρ',e=.returned v∧Sim P B w0 F ρ' S' a w'∧VR w' (ZM B S'.blks ρ') ρ' x v)∧
  scN (∀B w0 F ρ a w,Sim P B w0 F ρ S a w→∃ρ',Sim P B w0 F ρ' S' a w)
def WP (P:Program) (c:Code) (S:St) (Q:Exit->St->Prop):Prop:=
 ∀B w0 F ρ a w,Sim P B w0 F ρ S a w->c.wp P (fun e I w'=>∃ρ' S',Sim P B w0 F ρ' S' I w'∧Q e S') a w
def isJ:Code->Bool
 | .cond ..=>true
 | .block ..=>true
 | .seq x y=>match isJ x with
  |true=>true
  |false=>isJ y
 |_=>false
structure SeqP (P:Program) (x y:Code) (S:St) (Q:Exit→St→Prop):Prop where
 out:WP P (.seq x y) S Q
structure LoopP (P:Program) (c:Code) (S:St) (Q:Exit→St→Prop):Prop where
 out:WP P (.loop c) S Q
structure DrawP (P:Program) (id:Nat) (ops:Array Oper) (S:St) (K:St→Prop):Prop where
 out:WP P (.region id ops true) S fun e S'=>e=.normal∧K S'
def isE:Op->Bool
 | .store ..=>true
 | .alloc _=>true
 | .box ..=>true
 | .makeSlice ..=>true
 | .buildSlice _ len _=>!Nat.beq len 0
 | .call c=>(match c.callee with
  | .builtin .append=>true
  | .builtin .clear=>true
  |_=>false)
 |_=>false
def Qpv (t:Nat):List Gd->Bool
 |[]=>true
 |g::r=>match Nat.beq g.t t,Nat.beq g.key t with
  |false,false=>Qpv t r
  |_,_=>false
def St.put (S:St) (dst:Option Nat) (v:V) (K:St->Prop):Prop:=match S,dst with
 |⟨base,nt,ts,gs,bs,fs⟩,none=>K ⟨base,nt,ts,gs,bs,fs⟩
 |⟨base,nt,ts,gs,bs,fs⟩,some t=>match Qpv t gs,Nat.blt t nt with
  |true,true=>K ⟨base,nt,(t,v)::ts,gs,bs,fs⟩
  | _, _ => Stuck "put"
def St.putG (S:St) (dst:Option Nat) (key:Nat) (want:Bool) (v:V) (K:St->Prop):Prop:=match S,dst with
 |⟨base,nt,ts,gs,bs,fs⟩,none=>K ⟨base,nt,ts,gs,bs,fs⟩
 |⟨base,nt,ts,gs,bs,fs⟩,some t=>match Qpv t gs,Nat.blt t nt,Nat.beq key t with
  |true,true,false=>K ⟨base,nt,(t,.any)::ts,⟨t,key,want,v⟩::gs,bs,fs⟩
  | _, _, _ => Stuck "putG"
def closure (gs:List Gd):Nat->Nat->Bool->List (Nat×Bool)
 |0,k,w=>[(k,w)]
 |n+1,k,w=>(k,w)::match Qh4 gs k with
  |some g=>closure gs n g.key g.want
  |none=>[]
def QaL (S:St) (al:List (Nat×Bool)):List (Nat×Bool)->Prop->Prop
 |[],p=>p
 |(k,w)::r,p=>match S.ev al (.tmp k) with
  | .d (.bool b)=>(b=w->QaL S al r p)
  |_=>QaL S al r p
def QjJ (S:St) (key:Nat) (want:Bool) (p:Prop):Prop:=match S.ev [] (.tmp key) with
 | .d (.bool b)=>b=(!want)->p
 |_=>p
theorem QwG {S:St} {key:Nat} {want:Bool} {p:Prop} (h:p):QjJ S key want p:=by
 unfold QjJ;split
 ·exact fun _=>h
 ·exact h
def QeQ (S:St) (key:Nat) (want:Bool) (p:Prop):Prop:=match Qh4 S.gds key with
 |none=>QjJ S key want p
 |some g=>(match S.ev [] (.tmp g.key),g.v with
  | .d (.bool b0),.d (.bool b)=>(b0=g.want->b=(!want)->p)∧(b0=(!g.want)->p)
  |_,_=>p)
theorem Qr4 {S:St} {key:Nat} {want:Bool} {p:Prop} (h:p):QeQ S key want p:=by
 unfold QeQ;split
 ·exact QwG h
 ·split
  ·exact⟨fun _ _=>h,fun _=>h⟩
  ·exact h
theorem Qnk {S:St} {key:Nat} {want:Bool} {p q:Prop} (I:p->q) (hp:QeQ S key want p):QeQ S key want q:=by
 unfold QeQ QjJ at hp|-;split
 ·rename_i N;rw[N] at hp;dsimp only at hp;split
  ·rename_i hb;rw[hb] at hp;exact fun e=>I (hp e)
  ·rename_i J;split at hp
   ·rename_i b hb;exact absurd hb (J b)
   ·exact I hp
 ·rename_i g N;rw[N] at hp;dsimp only at hp;split
  ·rename_i O b h1 h2;rw[h1,h2] at hp;exact⟨fun e1 U=>I (hp.1 e1 U),fun e=>I (hp.2 e)⟩
  ·rename_i J;split at hp
   ·rename_i O b h1 h2;exact absurd h2 (J O b h1)
   ·exact I hp
noncomputable def Qe9 (P:Program) (tb:Tb) (ops:List Oper) (l:List Oper):St->(St->Prop)->Prop:=List.rec (motive:=fun _=>St->(St->Prop)->Prop) (fun S K=>K S) (fun o _ I S K=>match o.guard with
  |none=>(match isE o.op with
   |true=>evF tb o.dst o.op S fun v S=>S.put o.dst v fun S=>I S K
   |false=>(match o.op with
    | .call ⟨.value f,args,_⟩=>(match S.ev [] f with
     | .fn g cap=>QaK (args.toList.map (S.ev [])++cap) fun vs=>CallP P g vs S fun v S=>S.put o.dst v fun S=>I S K
     | .d (.fn g caps)=>QaK (args.toList.map (S.ev [])) fun vs=>CallP P g (vs++caps.map .rp) S fun v S=>S.put o.dst v fun S=>I S K
     | _ => Stuck "call no function")
    |op=>evP tb S.ev (Qk S.blks) id op fun v=>S.put o.dst v fun S=>I S K))
  |some (j,want)=>(match ops[j]? with
   |some ⟨some key,_,_,_,_,_⟩=>(match o.op with
    | .call ⟨.value f,args,_⟩=>(match S.ev (closure S.gds 9 key want) f with
     | .fn g cap=>QaK (args.toList.map (S.ev (closure S.gds 9 key want))++cap) fun vs=>
       CallG P (QaL S (closure S.gds 9 key want) (closure S.gds 9 key want)) (QeQ S key want) g vs S fun v S=>S.putG o.dst key want v fun S=>I S K
     | _ => Stuck "guarded call no function")
    |op=>evP tb (fun J x=>S.ev (J++closure S.gds 9 key want) x) (Qk S.blks) (QaL S (closure S.gds 9 key want) (closure S.gds 9 key want)) op fun v=>S.putG o.dst key want v fun S=>I S K)
   | _ => Stuck "guard")) l
theorem Qtc {P:Program} {tb:Tb} {ops:List Oper} {o:Oper} {rest:List Oper} {S:St} {K:St->Prop}:Qe9 P tb ops (o::rest) S K=match o.guard with
  |none=>(match isE o.op with
   |true=>evF tb o.dst o.op S fun v S=>S.put o.dst v fun S=>Qe9 P tb ops rest S K
   |false=>(match o.op with
    | .call ⟨.value f,args,_⟩=>(match S.ev [] f with
     | .fn g cap=>QaK (args.toList.map (S.ev [])++cap) fun vs=>CallP P g vs S fun v S=>S.put o.dst v fun S=>Qe9 P tb ops rest S K
     | .d (.fn g caps)=>QaK (args.toList.map (S.ev [])) fun vs=>CallP P g (vs++caps.map .rp) S fun v S=>S.put o.dst v fun S=>Qe9 P tb ops rest S K
     | _ => Stuck "call no function")
    |op=>evP tb S.ev (Qk S.blks) id op fun v=>S.put o.dst v fun S=>Qe9 P tb ops rest S K))
  |some (j,want)=>(match ops[j]? with
   |some ⟨some key,_,_,_,_,_⟩=>(match o.op with
    | .call ⟨.value f,args,_⟩=>(match S.ev (closure S.gds 9 key want) f with
     | .fn g cap=>QaK (args.toList.map (S.ev (closure S.gds 9 key want))++cap) fun vs=>
       CallG P (QaL S (closure S.gds 9 key want) (closure S.gds 9 key want)) (QeQ S key want) g vs S fun v S=>S.putG o.dst key want v fun S=>Qe9 P tb ops rest S K
     | _ => Stuck "guarded call no function")
    |op=>evP tb (fun I x=>S.ev (I++closure S.gds 9 key want) x) (Qk S.blks) (QaL S (closure S.gds 9 key want) (closure S.gds 9 key want)) op fun v=>S.putG o.dst key want v fun S=>Qe9 P tb ops rest S K)
   | _ => Stuck "guard") := rfl
def St.noGds (S:St) (K:St->Prop):Prop:=match S with
 |⟨base,nt,ts,_,bs,fs⟩=>K ⟨base,nt,ts,[],bs,fs⟩
noncomputable def wpc (P:Program) (tb:Tb) (c:Code):St->(Exit->St->Prop)->Prop:=Code.rec (motive:=fun _=>St->(Exit->St->Prop)->Prop)
 (fun S Q=>Q .normal S)
 (fun id ops I S Q=>match I with
  |false=>S.noGds fun S=>Qe9 P tb ops.toList ops.toList S fun S=>S.noGds fun S=>Q .normal S
  |true=>S.noGds fun S=>DrawP P id ops S fun S=>Q .normal S)
 (fun x y J O S Q=>match isJ x with
  |true=>SeqP P x y S Q
  |false=>J S fun e S=>match e with
   | .normal=>O S Q
   |e=>Q e S)
 (fun c _ _ N U S Q=>match S.ev [] c with
  | .d (.bool b)=>(b=true->N S Q)∧(b=false->U S Q)
  | _ => Stuck "cond")
 (fun id _ Y S Q=>Y S fun e S=>match e with
  | .exit i=>(match Nat.beq i id with
   |true=>Q .normal S
   |false=>Q (.exit i) S)
  |e=>Q e S)
 (fun c _ S Q=>LoopP P c S Q)
 (fun _ _ _ _ _ _ _ _ => Stuck "code")
 (fun id S Q=>Q (.exit id) S)
 (fun _ _ _ _ => Stuck "code")
 (fun _ S Q=>Q .normal S)
 (fun _ _ _ => Stuck "code")
 (fun S Q=>Q .ret S)
 (fun _ _ _ => Stuck "code") c
theorem Qk3 {P:Program} {tb:Tb} {id:Nat} {ops:Array Oper} {S:St} {Q:Exit->St->Prop}:wpc P tb (.region id ops false) S Q=S.noGds fun S=>Qe9 P tb ops.toList ops.toList S fun S=>S.noGds fun S=>Q .normal S:=rfl
theorem Qk4 {P:Program} {tb:Tb} {id:Nat} {ops:Array Oper} {S:St} {Q:Exit->St->Prop}:wpc P tb (.region id ops true) S Q=S.noGds fun S=>DrawP P id ops S fun S=>Q .normal S:=rfl
theorem QlP {P:Program} {tb:Tb} {a b:Code} {S:St} {Q:Exit->St->Prop}:wpc P tb (.seq a b) S Q=match isJ a with
  |true=>SeqP P a b S Q
  |false=>wpc P tb a S fun e S=>match e with
   | .normal=>wpc P tb b S Q
   |e=>Q e S:=rfl
theorem Qk5 {P:Program} {tb:Tb} {c:Operand} {x y:Code} {S:St} {Q:Exit->St->Prop}:wpc P tb (.cond c x y) S Q=match S.ev [] c with
  | .d (.bool b)=>(b=true->wpc P tb x S Q)∧(b=false->wpc P tb y S Q)
  | _ => Stuck "cond" := rfl
theorem QiT {P:Program} {tb:Tb} {id:Nat} {c:Code} {S:St} {Q:Exit->St->Prop}:wpc P tb (.block id c) S Q=wpc P tb c S fun e S=>match e with
  | .exit i=>(match Nat.beq i id with
   |true=>Q .normal S
   |false=>Q (.exit i) S)
  |e=>Q e S:=rfl
variable {P:Program} {tb:Tb} {w:World} {ρ:Env} {a:Act} {B:Bd} {w0:World} {F:List (Array Value)} {S:St}
theorem Qh8 {t:Nat}:∀ {gs:List Gd},Qpv t gs=true->∀g∈gs,g.t≠t∧g.key≠t
 |g::r,h,x,I=>by
  simp only[Qpv] at h;split at h
  ·rename_i h1 h2;rcases Yi.1 I with I|I
   ·subst I;exact⟨fun e=>by subst e;simp at h1,fun e=>by rw[e] at h2;simp at h2⟩
   ·exact Qh8 h x I
  ·cases h
 |[],_,_,I=>by simp at I
theorem QiU {a:Act} {t u:Nat} {v:Value}:(a.put (some t) v).tmps.getD u undef=if u=t∧t<a.tmps.size then v else a.tmps.getD u undef:=by
 simp only[Act.put,Y7,YO]
 by_cases h:t=u
 ·subst h
  by_cases hl:t<a.tmps.size
  ·simp[hl]
  ·simp[hl]
 ·simp[h,YY h]
theorem QqO {t:Nat} {v:V} {x:Value} (h:Sim P B w0 F ρ S a w) (hv:VR w (ZM B S.blks ρ) ρ v x) (O:∀g∈S.gds,g.t≠t∧g.key≠t) (U:t<S.nt):
  Sim P B w0 F ρ ⟨S.base,S.nt,(t,v)::S.tmps,S.gds,S.blks,S.frames⟩ (a.put (some t) x) w:=by
 have N:t<a.tmps.size:=by rw[h.nt];exact U
 refine⟨h.below,h.tab,h.hB,h.defers,by simp[Act.put,h.nt],⟨fun u y J=>?_,fun g I=>?_⟩,h.blks,h.sep,h.ge,h.frames⟩
 ·rw[QiU];rcases QY J with ⟨rfl,rfl⟩|⟨Y,J⟩
  ·rw[Y4 ⟨rfl,N⟩];exact hv
  ·rw[Y3 (fun e=>Y e.1.symm)];exact h.top.tmps u y J
 ·have⟨h1,h2⟩:=O g I;have:=(h.top.gds g I).h;refine⟨?_⟩;rw[QiU,QiU,Y3 (fun e=>h2 e.1),Y3 (fun e=>h1 e.1)];exact this
theorem Qr5 {t key:Nat} {want:Bool} {v:V} {x:Value} (h:Sim P B w0 F ρ S a w)
  (hv:(a.tmps.getD key undef=.bool want∧VR w (ZM B S.blks ρ) ρ v x)∨(a.tmps.getD key undef≠ .bool want∧x=undef)) (O:∀g∈S.gds,g.t≠t∧g.key≠t) (U:key≠t) (N:t<S.nt):
  Sim P B w0 F ρ ⟨S.base,S.nt,(t,.any)::S.tmps,⟨t,key,want,v⟩::S.gds,S.blks,S.frames⟩ (a.put (some t) x) w:=by
 have J:t<a.tmps.size:=by rw[h.nt];exact N
 have h1:=QqO (v:=.any) (x:=x) h .any O N;refine⟨h1.below,h1.tab,h1.hB,h1.defers,h1.nt,⟨h1.top.tmps,fun g I=>?_⟩,h1.blks,h1.sep,h1.ge,h1.frames⟩;rcases Yi.1 I with I|I
 ·subst I;refine⟨?_⟩;rw[QiU,QiU,Y3 (fun e=>U e.1),Y4 ⟨rfl,J⟩];exact hv
 ·exact h1.top.gds g I
theorem QiV {dst:Option Nat} {v:V} {x:Value} {K:St->Prop} (h:Sim P B w0 F ρ S a w) (hv:VR w (ZM B S.blks ρ) ρ v x) (hp:S.put dst v K):∃S',Sim P B w0 F ρ S' (a.put dst x) w∧K S':=by
 have⟨base,nt,ts,gs,bs,fs⟩:=S
 cases dst with
 |none=>exact⟨_,h,hp⟩
 |some t=>
  simp only[St.put] at hp;split at hp
  ·rename_i h1 h2;exact⟨_,QqO h hv (Qh8 h1) (by simpa[Y0a] using h2),hp⟩
  ·exact hp.no.elim
theorem Qg8 {dst:Option Nat} {key want} {v:V} {x:Value} {K:St->Prop} (h:Sim P B w0 F ρ S a w)
  (hv:(a.tmps.getD key undef=.bool want∧VR w (ZM B S.blks ρ) ρ v x)∨(a.tmps.getD key undef≠ .bool want∧x=undef)) (hp:S.putG dst key want v K):∃S',Sim P B w0 F ρ S' (a.put dst x) w∧K S':=by
 have⟨base,nt,ts,gs,bs,fs⟩:=S
 cases dst with
 |none=>exact⟨_,h,hp⟩
 |some t=>
  simp only[St.putG] at hp;split at hp
  ·rename_i h1 h2 h3;exact⟨_,Qr5 h hv (Qh8 h1) (fun e=>by subst e;simp at h3) (by simpa[Y0a] using h2),hp⟩
  ·exact hp.no.elim
theorem Quv (h:Sim P B w0 F ρ S a w):Sim P B w0 F ρ ⟨S.base,S.nt,S.tmps,[],S.blks,S.frames⟩ a w:=
 ⟨h.below,h.tab,h.hB,h.defers,h.nt,⟨h.top.tmps,fun _ I=>by simp at I⟩,h.blks,h.sep,h.ge,h.frames⟩
theorem QeG {K:St->Prop} (h:Sim P B w0 F ρ S a w) (I:S.noGds K):∃S',Sim P B w0 F ρ S' a w∧K S':=⟨_,Quv h,I⟩
theorem Qem (h:Sim P B w0 F ρ S a w):∀(n k:Nat) (b:Bool),a.tmps.getD k undef=.bool b->∀I b',(I,b')∈closure S.gds n k b->a.tmps.getD I undef=.bool b'
 |0,k,b,h0,I,b',hm=>by simp[closure] at hm;obtain⟨rfl,rfl⟩:=hm;exact h0
 |n+1,k,b,h0,I,b',hm=>by
  simp only[closure,Yi,YX] at hm;rcases hm with ⟨rfl,rfl⟩|hm
  ·exact h0
  ·split at hm
   ·rename_i g N;obtain⟨J,rfl⟩:=QeB N;rcases(h.top.gds g J).h with h1|h1
    ·exact Qem h n g.key g.want h1.1 I b' hm
    ·rw[h0] at h1;cases h1.2
   ·cases hm
theorem QeH (h:Sim P B w0 F ρ S a w) (al:List (Nat×Bool)) (I:∀k b,(k,b)∈al->a.tmps.getD k undef=.bool b):∀(l:List (Nat×Bool)) (p:Prop),(∀x∈l,x∈al)->QaL S al l p->p
 |[],_,_,hp=>hp
 |(k,b)::r,p,hl,hp=>by
  simp only[QaL] at hp;split at hp
  ·rename_i c hc;refine QeH h al I r p (fun x J=>hl x (by simp[J])) (hp ?_);have h1:=h.evR.h al (.tmp k) I;rw[hc] at h1;have h2:=h1.bool_inv;have h3:a.eval (.tmp k)=.bool b:=I k b (hl _ (by simp));rw[h3] at h2
   cases h2;rfl
  ·exact QeH h al I r p (fun x J=>hl x (by simp[J])) hp
theorem Qh9 {ops:Array Oper} {j key:Nat} {tmps:Array Value} {want:Bool} {o:Oper} (J:ops[j]? =some o) (I:o.dst=some key):
  (yielded ops tmps j==some want)=true↔tmps.getD key undef=.bool want:=by
 simp only[yielded,J,Y17,I]
 cases h:tmps[key]? with
 |none=>simp[Y7,h,undef]
 |some v=>cases v<;>simp[Y7,h]
theorem QfN {f:Operand} {args:Array Operand} {I:Array TypeId} {g:FuncId} {cs:Array Value} {dst ty pos after guard} (J:a.eval f=.func (.func g) #[] cs) (hc:Callable P g) (w:World):
  (execOp a.eval ⟨dst,.call ⟨.value f,args,I⟩,ty,pos,after,guard⟩).run P w=.ok (.enter g (args.map a.eval++cs)) w:=by
 have⟨fn,h1,h2,h3⟩:=hc.out;have hc:(callFunc g (args.map a.eval++cs)).run P w=.ok (.enter g (args.map a.eval++cs)) w:=by
  simp only[callFunc,Sem.run_bind,run_program,Result.andThen_ok,h1,h2,h3,Yw,Xi,Sem.run_pure]
 simpa[execOp,resolve,J,Deferred.ofValue,invoke] using hc
theorem Qdd {ow:Nat->Prop} {ev:List (Nat×Bool)->Operand->V} {al:List (Nat×Bool)} (U:∀x,VR w ow ρ (ev al x) (a.eval x)) (args:Array Operand) {cap:List V} {cs:Array Value} (Y:cs.size=cap.length)
  (O:∀(j:Nat) (u:V),cap[j]? =some u->VR w ow ρ u (cs.getD j undef)):Qhq w ow ρ (args.toList.map (ev al)++cap) (args.map a.eval++cs):=by
 refine⟨by simp[Y],fun j v J=>?_⟩;rw[Y7]
 by_cases I:j<args.size
 ·rw[YS (by simpa using I)] at J;rw[XL (by simpa using I),<-Y7];rw[Yu] at J;obtain⟨x,hx,rfl⟩:=Yg.1 J;have N:args[j]? =some x:=by simpa using hx
  have:(args.map a.eval).getD j undef=a.eval x:=by simp[Y7,N]
  rw[this];exact U x
 ·rw[YZ (by simp;omega)] at J;rw[Array.getElem?_append_right (by simp;omega),<-Y7];simpa using O _ _ (by simpa using J)
theorem QlQ {ow:Nat->Prop} {g:FuncId} {cap:List V} {y:Value} (h:VR w ow ρ (.fn g cap) y):∃cs,y=.func (.func g) #[] cs∧cs.size=cap.length∧∀(j:Nat) (u:V),cap[j]? =some u->VR w ow ρ u (cs.getD j undef):=by
 cases h with|fn h1 h2=>exact⟨_,rfl,h1,h2⟩
theorem Qy2 {ow:Nat->Prop} {g:FuncId} {caps:List (List D)} {y:Value} (h:VR w ow ρ (.d (.fn g caps)) y):VR w ow ρ (.fn g (caps.map .rp)) y:=by
 cases h with|d h=>exact h.fnRp ρ
theorem QqP {ti:TI} {blk:Nat->Option Blk} {p:V} {K:V->Prop} (h:Qd5 ti blk p K):∃x,K x:=by
 unfold Qd5 at h
 repeat' split at h
 all_goals first|exact h.no.elim|(rw[QC] at h;exact⟨_,h⟩)
theorem Qtd {sc:Prop->Prop} {op k x y} {K:V->Prop} (h:QlI sc op k x y K):∃z,K z:=by
 cases op<;>simp only[QlI] at h<;>first|exact h.no.elim|exact⟨_,h.2⟩|exact⟨_,h⟩
theorem Qg9 {ev:List (Nat×Bool)->Operand->V} {blk:Nat->Option Blk} {sc:Prop->Prop} {op:Op} {K:V->Prop} (h:evP tb ev blk sc op K):∃x,K x:=by
 cases op<;>simp only[evP,QC,Za,Qer] at h
 all_goals repeat' split at h
 all_goals first
  |exact h.no.elim
  |exact QqP h
  |exact Qtd h
  |exact h.2.no.elim
  |exact⟨_,h.2⟩
  |exact⟨_,h⟩
theorem QlR (h:Sim P B w0 F ρ S a w) {key:Nat} {want:Bool} (hw:a.tmps.getD key undef≠ .bool want) {p:Prop} (hp:QjJ S key want p):p:=by
 unfold QjJ at hp;split at hp
 ·rename_i b hb;refine hp ?_;have h1:=h.evR.h [] (.tmp key) (fun k g hm=>by simp at hm);rw[hb] at h1
  cases h1 with|d h1=>
  generalize hv:a.eval (.tmp key)=v at h1
  cases h1
  simp only[Act.eval] at hv
  cases b<;>cases want<;>simp_all
 ·exact hp
theorem Qte (h:Sim P B w0 F ρ S a w) {k:Nat} {b:Bool} (hb:S.ev [] (.tmp k)=.d (.bool b)):a.tmps.getD k undef=.bool b:=by
 have h1:=h.evR.h [] (.tmp k) (fun k g hm=>by simp at hm);rw[hb] at h1;exact h1.bool_inv
theorem QqQ (h:Sim P B w0 F ρ S a w) {key:Nat} {want:Bool} (O:a.tmps.getD key undef≠ .bool want) {p:Prop} (hp:QeQ S key want p):p:=by
 unfold QeQ at hp;split at hp
 ·exact QlR h O hp
 ·rename_i g U;obtain⟨J,rfl⟩:=QeB U;split at hp
  ·rename_i Y b I hb;have N:=Qte h I;rcases(h.top.gds g J).h with ⟨h1,h2⟩|⟨h1,_⟩
   ·refine hp.1 ?_ ?_
    ·rw[N] at h1;cases h1;rfl
    ·rw[hb] at h2;have h3:=h2.bool_inv;rw[h3] at O
     cases b<;>cases want<;>simp_all
   ·refine hp.2 ?_;rw[N] at h1
    cases Y<;>cases hgw:g.want<;>simp_all
  ·exact hp
theorem QfO (hT:TOk P tb) (ops:Array Oper) (Q:Exit->St->Prop) (F:List (Array Value)):∀(l:List Nat) (os:List Oper),os.length=l.length->(∀(i k:Nat),l[i]? =some k->ops[k]? =os[i]?)->
  ∀(S:St) (ρ:Env) (a:Act) (w:World),Sim P B w0 F ρ S a w->Qe9 P tb ops.toList os S (fun S=>Q .normal S)->
  wpOps P ops (fun e a' w'=>∃ρ' S',Sim P B w0 F ρ' S' a' w'∧Q e S') l a w
 |[],os,hl,_,S,ρ,a,w,h,he=>by
  have:os=[]:=by simpa using hl
  subst this;exact⟨ρ,S,h,he⟩
 |k::l,[],hl,_,S,ρ,a,w,h,he=>by simp at hl
 |k::l,o::os,hl,hi,S,ρ,a,w,h,he=>by
  have hk:ops[k]? =some o:=by simpa using hi 0 k rfl
  have ih:=QfO hT ops Q F l os (by simpa using hl) (fun i k hk=>by simpa using hi (i+1) k (by simpa using hk));simp only[wpOps,hk];rw[Qtc] at he;split at he
  ·rename_i hg;have hw:Region.wanted o (yielded ops a.tmps)=true:=by simp[Region.wanted,hg]
   rw[Y4 hw];refine .inl ?_;split at he
   ·have⟨n,v,w',ρ',x,S',h1,h2,h3,h4,h5⟩:=Quu hT h o he;have⟨I,h6,U⟩:=QiV h3 h4 h5;unfold Oper.wp;rw[h1];rcases h2 with rfl|⟨rfl,rfl⟩
    ·exact ih I ρ' _ w' h6 U
    ·exact ih I ρ' _ w' h6 U
   ·split at he
    ·rename_i f args a9 O;split at he
     ·rename_i g cap hf;rw[Za] at he;have⟨cs,Y,a2,a1⟩:=QlQ (h.evR.eq hf);have N:=Qdd (ev:=S.ev) (al:=[]) h.evR.at args a2 a1;have J:=he.out B w0 F ρ a w _ h N;unfold Oper.wp;have⟨dst,op,ty,pos,after,guard⟩:=o;dsimp only at O;subst O;rw[QfN Y he.can,Oper.upon_enter];refine Calls.mono J ?_;rintro e w' ⟨v,ρ',x,S',rfl,h1,h2,h3⟩;have⟨I,h6,U⟩:=QiV h1 h2 h3;exact ih I ρ' _ w' h6 U
     ·rename_i g caps hf;rw[Za] at he;have⟨cs,Y,a2,a1⟩:=QlQ (Qy2 (h.evR.eq hf));have N:=Qdd (ev:=S.ev) (al:=[]) h.evR.at args a2 a1;have J:=he.out B w0 F ρ a w _ h N;unfold Oper.wp;have⟨dst,op,ty,pos,after,guard⟩:=o;dsimp only at O;subst O;rw[QfN Y he.can,Oper.upon_enter];refine Calls.mono J ?_;rintro e w' ⟨v,ρ',x,S',rfl,h1,h2,h3⟩;have⟨I,h6,U⟩:=QiV h1 h2 h3;exact ih I ρ' _ w' h6 U
     ·exact he.no.elim
    ·have⟨v,w',x,h1,h2,h3,h4⟩:=QgD hT h.evR h.blks (fun _ ho=>QdY h ho) (fun p hp=>hp) o he;have⟨I,h6,U⟩:=QiV (h.pure h2) h3 h4;unfold Oper.wp;rw[h1];exact ih I ρ _ w' h6 U
  ·rename_i j want hg;split at he
   case h_2=>exact he.no.elim
   rename_i key b2 b8 b1 b6 b4 hj;have b3:ops[j]? =some ⟨some key,b2,b8,b1,b6,b4⟩:=by simpa using hj
   have hy:=Qh9 (tmps:=a.tmps) (want:=want) b3 rfl;have a8:Region.wanted o (yielded ops a.tmps)=(yielded ops a.tmps j==some want):=by simp[Region.wanted,hg]
   by_cases hw:a.tmps.getD key undef=.bool want
   ·have b7:Region.wanted o (yielded ops a.tmps)=true:=by rw[a8];exact hy.2 hw
    rw[Y4 b7];refine .inl ?_;have a5:=Qem h 9 key want hw;have a7:∀p,QaL S (closure S.gds 9 key want) (closure S.gds 9 key want) p->p:=fun p=>QeH h _ a5 _ p (fun _ hx=>hx);have a6:EvR w (ZM B S.blks ρ) ρ a (fun ex x=>S.ev (ex++closure S.gds 9 key want) x):=⟨fun al x hx=>h.evR.h _ x fun k g hm=>by
     rcases Yx.1 hm with hm|hm
     ·exact hx k g hm
     ·exact a5 k g hm⟩
    split at he
    ·rename_i f args a9 O;split at he
     ·rename_i g cap hf;rw[Za] at he;have b0:=h.evR.h (closure S.gds 9 key want) f a5;rw[hf] at b0;have⟨cs,Y,a2,a1⟩:=QlQ b0;have N:=Qdd (ev:=S.ev) (al:=closure S.gds 9 key want) (fun x=>h.evR.h _ x a5) args a2 a1;have⟨x,S1,hK,hc,_⟩:=he.out;have J:=a7 _ hc B w0 F ρ a w _ h N;unfold Oper.wp;have⟨dst,op,ty,pos,after,guard⟩:=o;dsimp only at O;subst O;rw[QfN Y he.can,Oper.upon_enter];refine Calls.mono J ?_;rintro e w' ⟨v,ρ',rfl,h1,h2⟩;have⟨I,h6,U⟩:=Qg8 h1 (.inl ⟨hw,h2⟩) hK;exact ih I ρ' _ w' h6 U
     ·exact he.no.elim
    ·have⟨v,w',x,h1,h2,h3,h4⟩:=QgD hT a6 h.blks (fun _ ho=>QdY h ho) a7 o he;have⟨I,h6,U⟩:=Qg8 (h.pure h2) (.inl ⟨hw,h3⟩) h4;unfold Oper.wp;rw[h1];exact ih I ρ _ w' h6 U
   ·have b5:¬Region.wanted o (yielded ops a.tmps)=true:=by rw[a8];exact fun e=>hw (hy.1 e)
    rw[Y3 b5];split at he
    ·rename_i f args a9 O;split at he
     ·rw[Za] at he;have⟨x,S1,hK,_,hc⟩:=he.out;have⟨ρ',h1⟩:=QqQ h hw hc B w0 F ρ a w h;have⟨I,h6,U⟩:=Qg8 h1 (.inr ⟨hw,rfl⟩) hK;exact ih I ρ' _ w h6 U
     ·exact he.no.elim
    ·have⟨x,hK⟩:=Qg9 he;have⟨I,h6,U⟩:=Qg8 h (.inr ⟨hw,rfl⟩) hK;exact ih I ρ _ w h6 U
end Go.Ab
namespace Go.Ab
open Go.RowKit
variable {P:Program} {tb:Tb} {w:World} {ow:Nat→Prop} {ρ:Env} {a:Act} {B:Bd} {w0:World} {F:List (Array Value)} {S:St}
theorem QaM (I:TOk P tb):∀(c:Code) (S:St) (Q:Exit->St->Prop),wpc P tb c S Q->WP P c S Q
 | .skip,S,Q,h=>fun B w0 F ρ a w hs=>wp_skip ⟨ρ,S,hs,h⟩
 | .label l,S,Q,h=>fun B w0 F ρ a w hs=>wp_label ⟨ρ,S,hs,h⟩
 | .exit id,S,Q,h=>fun B w0 F ρ a w hs=>wp_exit ⟨ρ,S,hs,h⟩
 | .ret,S,Q,h=>fun B w0 F ρ a w hs=>wp_ret ⟨ρ,S,hs,h⟩
 | .region id ops false,S,Q,h=>fun B w0 F ρ a w hs=>by
  first|rw[Qk3] at h|rw[Qk4] at h|rw[QlP] at h|rw[Qk5] at h|rw[QiT] at h
  have⟨Y,h1,h2⟩:=QeG hs h;refine wp_mono (wp_region (QfO (B:=B) (w0:=w0) I ops (fun e S=>match e with| .normal=>S.noGds fun S=>Q .normal S|_=>False) F (List.range ops.size) ops.toList (by simp) (fun i k U=>?_) Y ρ a w h1 h2)) ?_
  ·have O:=(Ya.1 U).1;rw[List.getElem?_range (by simpa using O)] at U
   cases U
   simp
  ·rintro e J w' ⟨ρ',S',h3,h4⟩
   cases e with
   |normal=>exact⟨ρ',(QeG h3 h4).elim fun N h5=>⟨N,h5⟩⟩
   |_=>exact h4.elim
 | .region id ops true,S,Q,h=>fun B w0 F ρ a w hs=>by
  first|rw[Qk3] at h|rw[Qk4] at h|rw[QlP] at h|rw[Qk5] at h|rw[QiT] at h
  have⟨Y,h1,h2⟩:=QeG hs h;refine wp_mono (h2.out B w0 F ρ a w h1) ?_;rintro e J w' ⟨ρ',S',h3,rfl,h4⟩;exact⟨ρ',S',h3,h4⟩
 | .seq x y,S,Q,h=>by
  rw[QlP] at h;split at h
  ·exact h.out
  ·intro B w0 F ρ a w hs;refine wp_seq (wp_mono (QaM I x S _ h B w0 F ρ a w hs) ?_);rintro e J w' ⟨ρ',S',h1,h2⟩
   cases e with
   |normal=>exact QaM I y S' Q h2 B w0 F ρ' J w' h1
   |_=>exact⟨ρ',S',h1,h2⟩
 | .cond c x y,S,Q,h=>fun B w0 F ρ a w hs=>by
  first|rw[Qk3] at h|rw[Qk4] at h|rw[QlP] at h|rw[Qk5] at h|rw[QiT] at h
  split at h
  ·rename_i b hb;have hc:=(hs.evR.eq hb).bool_inv;refine wp_cond hc ?_
   cases b with
   |true=>exact QaM I x S Q (h.1 rfl) B w0 F ρ a w hs
   |false=>exact QaM I y S Q (h.2 rfl) B w0 F ρ a w hs
  ·exact h.no.elim
 | .block id c,S,Q,h=>fun B w0 F ρ a w hs=>by
  first|rw[Qk3] at h|rw[Qk4] at h|rw[QlP] at h|rw[Qk5] at h|rw[QiT] at h
  refine wp_block (wp_mono (QaM I c S _ h B w0 F ρ a w hs) ?_);rintro e J w' ⟨ρ',S',h1,h2⟩
  cases e with
  |exit i=>
   dsimp only at h2;simp only[Exit.inBlock];split at h2
   ·rename_i hb;rw[Y4 (Y9 hb)];exact⟨ρ',S',h1,h2⟩
   ·rename_i hb;rw[Y3 (fun e=>by subst e;simp at hb)];exact⟨ρ',S',h1,h2⟩
  |_=>exact⟨ρ',S',h1,h2⟩
 | .loop c,S,Q,h=>h.out
 | .rangeFunc ..,_,_,h=>h.no.elim
 | .scope _,_,_,h=>h.no.elim
 | .goto _,_,_,h=>h.no.elim
 | .refuse _,_,_,h=>h.no.elim
noncomputable def Qtf (tb:Tb) (l:List ResultVar):St->(List V->Prop)->Prop:=List.rec (motive:=fun _=>St->(List V->Prop)->Prop) (fun _ K=>K []) (fun r _ I S K=>match r with
 | .tmp t=>Qaq (S.ev [] (.tmp t)) fun v=>I S fun vs=>K (v::vs)
 | .cell x t=>match tb.find t with
  |some ti=>Qd5 ti (Qk S.blks) (S.ev [] (.tmp x)) fun v=>I S fun vs=>K (v::vs)
  | none => Stuck "result type") l
theorem Quw {tb:Tb} {t:Nat} {r:List ResultVar} {S:St} {K:List V->Prop}:Qtf tb (.tmp t::r) S K=Qaq (S.ev [] (.tmp t)) fun v=>Qtf tb r S fun vs=>K (v::vs):=rfl
theorem Qtg {tb:Tb} {x:Nat} {t:TypeId} {r:List ResultVar} {S:St} {K:List V->Prop}:Qtf tb (.cell x t::r) S K=match tb.find t with
  |some ti=>Qd5 ti (Qk S.blks) (S.ev [] (.tmp x)) fun v=>Qtf tb r S fun vs=>K (v::vs)
  | none => Stuck "result type" := rfl
noncomputable def Qr6 (tb:Tb) (I:List ResultVar) (S:St) (K:V->Prop):Prop:=Qtf tb I S fun vs=>match vs with
 |[v]=>K v
 |vs=>K (.tup vs)
def Qpw (tmps:Array Value):ResultVar->Sem Value
 | .tmp t=>pure (tmps.getD t undef)
 | .cell a t=>do loadVar t (<-asAddr (tmps.getD a undef))
theorem Qth (fn:Func) (tmps:Array Value):results fn tmps=(do
 let vs<-fn.results.mapM (Qpw tmps)
 pure (if h:vs.size=1 then vs[0] else .tuple vs)):=rfl
theorem Qia (N:TOk P tb) (h:Sim P B w0 F ρ S a w):∀(O:List ResultVar) (K:List V->Prop),Qtf tb O S K->
  ∃vs vals,(O.mapM (Qpw a.tmps)).run P w=.ok vals w∧Qhq w (ZM B S.blks ρ) ρ vs vals.toArray∧K vs
 |[],K,hk=>⟨[],[],rfl,⟨rfl,fun j v I=>by simp at I⟩,hk⟩
 | .tmp t::r,K,hk=>by
  rw[Quw,QC] at hk;have⟨vs,vals,h1,h2,h3⟩:=Qia N h r _ hk;refine⟨_::vs,a.tmps.getD t undef::vals,?_,⟨by simpa using h2.1,fun j v I=>?_⟩,h3⟩
  ·simp only[List.mapM_cons,Qpw,Sem.run_bind,Sem.run_pure,Result.andThen_ok,h1]
  ·cases j with
   |zero=>simp at I;subst I;exact h.evR.at (.tmp t)
   |succ j=>simpa using h2.2 j v (by simpa using I)
 | .cell x t::r,K,hk=>by
  rw[Qtg] at hk;split at hk
  ·rename_i ti J;have U:=h.evR.at (.tmp x);have⟨v,y,h4,h5,h6⟩:=Qko (P:=P) (N.ok _ _ J) h.blks U hk;have⟨vs,vals,h1,h2,h3⟩:=Qia N h r _ h6;refine⟨y::vs,v::vals,?_,⟨by simpa using h2.1,fun j u I=>?_⟩,h3⟩
   ·have h7:(Qpw a.tmps (.cell x t)).run P w=.ok v w:=by
     have e:a.eval (.tmp x)=a.tmps.getD x undef:=rfl;rw[e] at h4;simp only[Qpw]
     revert h4
     generalize a.tmps.getD x undef=Y;intro h4
     cases Y with
     |pointer p=>cases p<;>simp_all [Instr.loadAt,Instr.sureAddr,asAddr]
     |_=>simp[Instr.loadAt,Instr.sureAddr] at h4
    simp only[List.mapM_cons,Sem.run_bind,h7,Result.andThen_ok,h1,Sem.run_pure]
   ·cases j with
    |zero=>simp at I;subst I;simpa using h5
    |succ j=>simpa using h2.2 j u (by simpa using I)
  ·exact hk.no.elim
theorem QjK (J:TOk P tb) (h:Sim P B w0 F ρ S a w) (fn:Func) (K:V->Prop) (N:Qr6 tb fn.results.toList S K):∃x v,(results fn a.tmps).run P w=.ok v w∧VR w (ZM B S.blks ρ) ρ x v∧K x:=by
 have⟨vs,vals,h1,h2,h3⟩:=Qia J h _ _ N;have I:(results fn a.tmps).run P w=.ok (if h:vals.toArray.size=1 then vals.toArray[0] else .tuple vals.toArray) w:=by
  rw[Qth,Sem.run_bind,Array.mapM_eq_mapM_toList,Sem.run_map,h1]
  rfl
 have hs:=h2.1
 cases vs with
 |nil=>
  have:¬vals.toArray.size=1:=by rw[hs];simp
  rw[dif_neg this] at I;exact⟨_,_,I,.tup hs h2.2,h3⟩
 |cons v r=>
  cases r with
  |nil=>
   have O:vals.toArray.size=1:=by rw[hs];rfl
   rw[dif_pos O] at I;refine⟨v,_,I,?_,h3⟩;have:=h2.2 0 v rfl;rw[Y7,X8 (by omega)] at this;exact this
  |cons v' r'=>
   have:¬vals.toArray.size=1:=by rw[hs];simp
   rw[dif_neg this] at I;exact⟨_,_,I,.tup hs h2.2,h3⟩
end Go.Ab
