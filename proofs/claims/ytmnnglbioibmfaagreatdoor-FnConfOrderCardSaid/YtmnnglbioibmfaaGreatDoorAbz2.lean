/-
  The operations that write, and functions walked: a part of the frame in which a given row's proof walks the program; no condition.
-/
import Derived.Test.YtmnnglbioibmfaaGreatDoorAbz1
set_option linter.all false
namespace Go.Ab
open Go.RowKit
variable {P:Program} {tb:Tb} {w:World} {ow:Nat→Prop} {ρ:Env} {a:Act} {B:Bd} {w0:World} {F:List (Array Value)} {S:St} {K:V→St→Prop}
theorem Ql7 (v:Value):VR w ow ρ (QjM v) v:=by
 unfold QjM;split
 ·rename_i cs;split
  ·rename_i hall;refine .agg (by simp) (fun j hj=>?_) fun j u hj=>?_
   ·have:=List.all_eq_true.1 hall (cs.getD j undef) (by simp[hj]);exact this
   ·rw[List.getElem?_map] at hj;obtain⟨x,hx,rfl⟩:=Option.map_eq_some_iff.1 hj;have:cs.getD j undef=x:=by
     have hx':cs[j]? =some x:=by simpa using hx
     simp[Array.getD_eq_getD_getElem?,hx']
    rw[this];exact Qiz x
  ·exact .any
 ·exact Qiz v
theorem Qph:∀ {al:List (Nat×Bool)} {k:Nat} {w:Bool},QwH al k w=true→(k,w)∈al
 |(k',w')::r,k,w,h=>by
  simp only[QwH] at h;split at h
  ·rename_i h1 h2;have h1:=Nat.eq_of_beq_eq_true h1;have h2:w'=w:=by simpa using h2
   subst h1 h2;simp
  ·exact List.mem_cons_of_mem _ (Qph h)
 |[],_,_,h=>by simp[QwH] at h
theorem QdH:∀ {gs:List Gd} {t:Nat} {g:Gd},Qgw gs t=some g→g∈gs∧g.t=t
 |x::r,t,g,h=>by
  simp only[Qgw] at h;split at h
  ·rename_i hb;cases h;exact⟨by simp,Nat.eq_of_beq_eq_true hb⟩
  ·have:=QdH h;exact⟨List.mem_cons_of_mem _ this.1,this.2⟩
 |[],_,_,h=>by simp[Qgw] at h
theorem Qqf {f:Fr} {tm:Array Value} (h:FrR w ow ρ f tm) (t:Nat):VR w ow ρ (Quy f.tmps t) (tm.getD t undef):=by
 unfold Quy;split
 ·rename_i v hv;exact h.tmps t v hv
 ·exact .any
theorem Sim.evR (h:Sim P B w0 F ρ S a w):EvR w (ZM B S.blks ρ) ρ a S.ev:=by
 refine⟨fun al x hal=>?_⟩
 cases x with
 |const v=>exact Ql7 v
 |func f=>exact .fn (by simp) fun j v hj=>by simp at hj
 |global g=>exact .any
 |tmp t=>
  show VR w (ZM B S.blks ρ) ρ (S.ev al (.tmp t)) (a.tmps.getD t undef);unfold St.ev;dsimp only;split
  ·rename_i g hg;obtain⟨hm,rfl⟩:=QdH hg;split
   ·rename_i hh;have:=hal _ _ (Qph hh);rcases(h.top.gds g hm).h with h1|h1
    ·exact h1.2
    ·exact absurd this h1.1
   ·exact .any
  ·exact Qqf h.top t
def Eff (P:Program) (B:Bd) (w0:World) (F:List (Array Value)) (a:Act) (w:World) (r:Sem Next) (K:V→St→Prop):Prop:=
 ∃n v w' ρ' x S',r.run P w=.ok n w'∧(n=.value v∨(n=.skip∧v=undef))∧Sim P B w0 F ρ' S' a w'∧VR w' (ZM B S'.blks ρ') ρ' x v∧K x S'
theorem Qbk (l vs:List Value) (o j:Nat) (h:o+vs.length≤l.length):
  ((l.take o++vs++l.drop (o+vs.length)).toArray).getD j undef=if o≤j∧j<o+vs.length then vs.getD (j-o) undef else l.getD j undef:=by
 simp only[Array.getD_eq_getD_getElem?,List.getElem?_toArray,List.getD_eq_getElem?_getD]
 by_cases h1:j<o
 ·rw[if_neg (by omega),List.append_assoc,List.getElem?_append_left (by simp;omega),List.getElem?_take,if_pos h1]
 ·by_cases h2:j<o+vs.length
  ·rw[if_pos ⟨by omega,h2⟩,List.append_assoc,List.getElem?_append_right (by simp;omega),List.getElem?_append_left (by simp;omega)];rw[List.length_take,Nat.min_eq_left (by omega)]
  ·rw[if_neg (by omega),List.getElem?_append_right (by simp;omega),List.getElem?_drop];simp only[List.length_append,List.length_take];rw[Nat.min_eq_left (by omega),show o+vs.length+(j-(o+vs.length))=j by omega]
theorem Qba (l vs:List Value) (o:Nat) (h:o+vs.length≤l.length):((l.take o++vs++l.drop (o+vs.length)).toArray).size=l.length:=by
 simp;omega
theorem QfU:∀ {l:List V} {es:List D},Qqb l=some es→es.length=l.length∧∀(j:Nat) (d:D),es[j]? =some d→l[j]? =some (V.d d)
 |[],es,he=>by simp[Qqb] at he;subst he;exact⟨rfl,fun j d h=>by simp at h⟩
 |u::r,es,he=>by
  cases u<;>simp only[Qqb] at he<;>first|cases he|skip
  split at he
  ·rename_i xs hxs;simp only[Option.some.injEq] at he;subst he;obtain⟨i1,i2⟩:=QfU hxs;refine⟨by simp[i1],fun j d hj=>?_⟩
   cases j with
   |zero=>simp at hj;subst hj;simp
   |succ j=>simpa using i2 j d (by simpa using hj)
  ·cases he
theorem QiA {t ti} (hti:TIok P t ti) {b o:Nat} {x:Value} {C:Array Value} {et:TypeId} (hg:w.heap[b]? =some (.cells C et (0,0))) (hs:x.cells.size=ti.size)
  (h1:∀j,j<x.cells.size→(x.cells.getD j undef).oneCell'=true) (hfit:o+ti.size≤C.size):
  (Instr.storeAt t (.pointer (some ⟨b,o,none⟩)) x).run P w=.ok () (w.setRow b (C.toList.take o++x.cells.toList++C.toList.drop (o+x.cells.toList.length)).toArray):=by
 have hst:=run_storeCells_at P b o et x.cells.toList 0 C w hg (by simp;omega) (fun v hv=>by
  obtain⟨j,hj,rfl⟩:=List.mem_iff_getElem.1 hv;have:=h1 j (by simpa using hj);simp at hj;simpa[hj] using this)
 simp only[Nat.add_zero] at hst;simp only[Instr.storeAt,Instr.sureAddr,storeVar,Sem.run_bind,Sem.run_pure,Result.andThen_ok,Jh hti];rw[if_neg (by omega)];exact hst
theorem Qoj {b o k:Nat} {C:Array Value} {et:TypeId} {news:List Value} (hg:w.heap[b]? =some (.cells C et (0,0))) (hfit:o+news.length≤C.toList.length) (hk:k<o∨o+news.length≤k):
  (w.setRow b (C.toList.take o++news++C.toList.drop (o+news.length)).toArray).cell? ⟨b,k,none⟩=w.cell? ⟨b,k,none⟩:=by
 have hs:=Qba C.toList news o hfit;have h1:=setRow_heap w b C (C.toList.take o++news++C.toList.drop (o+news.length)).toArray et _ hg
 by_cases hlt:k<C.size
 ·have e1:=QbJ h1 (o:=k) (by rw[hs];simpa using hlt);rw[e1,QbJ hg hlt,Qbk _ _ _ _ hfit,if_neg (by omega)]
  congr 1
  simp
 ·have e2:(C.toList.take o++news++C.toList.drop (o+news.length)).toArray[k]? =none:=Array.getElem?_eq_none (by rw[hs];simp;omega);have e3:C[k]? =none:=Array.getElem?_eq_none (by omega);unfold World.cell?;simp only[h1,hg,e2,e3]
theorem Qqg (t:TypeId) (x:Value):(newVar t x).run P w=.ok ⟨w.heap.size,0,none⟩ (w.alloc (.cells x.cells t)):=by
 simp[newVar,newRow]
theorem Qlf {id:Nat} {t:TypeId} {x:Value} {cs:List V} (h:Sim P B w0 F ρ S a w) (hm:S.mentions id=false) (hl:ListR w (ZM B S.blks ρ) ρ cs x.cells)
  (hK:K (.ref id 0 0) ⟨S.base,S.nt,S.tmps,S.gds,(id,.box t cs)::S.blks,S.frames⟩) (hcs:QN id cs=false) (hbl:Nat.blt t 1000000=true):
  ∃w' ρ',(newVar t x).run P w=.ok ⟨w.heap.size,0,none⟩ w'∧Sim P B w0 F ρ' ⟨S.base,S.nt,S.tmps,S.gds,(id,.box t cs)::S.blks,S.frames⟩ a w'∧
   VR w' (ZM B ((id,.box t cs)::S.blks) ρ') ρ' (.ref id 0 0) (.pointer (some ⟨w.heap.size,0,none⟩))∧K (.ref id 0 0) ⟨S.base,S.nt,S.tmps,S.gds,(id,.box t cs)::S.blks,S.frames⟩:=by
 refine⟨_,ρ.set id ⟨w.heap.size,0,cs.length,1,1,false⟩,Qqg t x,?_,?_,hK⟩
 ·refine Qrx h hm x.cells t rfl fun ow' keep=>?_;have hbc:bcl t=0:=by simp[bcl,hbl]
  have hls:=hl.size;refine .box x.cells (et:=t) (by simp[Env.set]) (by simp[Env.set]) (by simp[Env.set]) (by simp[Env.set,hbc]) ?_ (by simp[Env.set,hls]) (fun j hj=>by simpa[Env.set] using hl.one j (by omega)) fun j v hj=>?_
  ·simp only[Env.set,if_true];exact heap_alloc_new w _
  ·have e0:((ρ.set id ⟨w.heap.size,0,cs.length,1,1,false⟩) id).o+j=j:=by simp[Env.set]
   rw[e0];refine(hl.vals j v hj).keep keep fun i hi=>Env.set_other fun e=>?_;subst e;have:=Q9 hj hi;rw[hcs] at this;cases this
 ·have:(⟨w.heap.size,0,none⟩:Addr)=⟨((ρ.set id ⟨w.heap.size,0,cs.length,1,1,false⟩) id).b,((ρ.set id ⟨w.heap.size,0,cs.length,1,1,false⟩) id).o+0*((ρ.set id ⟨w.heap.size,0,cs.length,1,1,false⟩) id).sz+0,none⟩:=by
   simp[Env.set]
  rw[this];exact .ref (by simp[Env.set]) (by simp[Env.set])
def flat (n sz:Nat) (f:Nat→Nat→Value):List Value:=(List.range (n*sz)).map fun k=>f (k/sz) (k%sz)
theorem ZT {n sz f}:(flat n sz f).length=n*sz:=by simp[flat]
theorem QeK {n sz:Nat} {f:Nat→Nat→Value} {i j:Nat} (hi:i<n) (hj:j<sz):(flat n sz f)[i*sz+j]? =some (f i j):=by
 have hlt:i*sz+j<n*sz:=by
  have:(i+1)*sz≤n*sz:=Nat.mul_le_mul_right _ (by omega);rw[Nat.add_mul] at this;omega
 have h1:(i*sz+j)/sz=i:=by rw[Nat.mul_comm,Nat.mul_add_div (by omega),Nat.div_eq_of_lt hj];omega
 have h2:(i*sz+j)%sz=j:=by rw[Nat.mul_comm,Nat.mul_add_mod,Nat.mod_eq_of_lt hj]
 simp only[flat];rw[List.getElem?_map,List.getElem?_range hlt];simp[h1,h2]
structure Src (P:Program) (w:World) (ow:Nat→Prop) (sz n:Nat) (row:Nat→List D) (val:Value):Prop where
 hdr:∃ad c,val=.slice ad n c
 rows:∀i,i<n→(row i).length=sz
 cells:∃f:Nat→Nat→Value,(∀w',w'.heap=w.heap→(Builtin.firstCells sz n val).run P w'=.ok (flat n sz f).toArray w')∧
  (∀i j d,i<n→(row i)[j]? =some d→DR w ow d (f i j))∧(∀i j,i<n→j<sz→(f i j).oneCell'=true)
theorem Qlg {sz n:Nat} {row:Nat→List D} {val:Value} {ad c} (hval:val=.slice ad n c) (h:n=0∨ ∃(b o:Nat) (vals:Nat→Nat→Value),ad=some ⟨b,o,none⟩∧(∀i,i<n→(row i).length=sz)∧
  (∀i j d,i<n→(row i)[j]? =some d→w.cell? ⟨b,o+i*sz+j,none⟩=some (vals i j))∧(∀i j d,i<n→(row i)[j]? =some d→DR w ow d (vals i j))):Src P w ow sz n row val:=by
 rcases h with h0|⟨b,o,vals,had,h1,h2,h3⟩
 ·subst h0;refine⟨⟨ad,c,hval⟩,fun i hi=>by omega,fun _ _=>undef,fun w' _=>?_,fun i j d hi=>by omega,fun i j hi=>by omega⟩;subst hval
  cases ad<;>simp[Builtin.firstCells,loadCells,loadCellsFrom,flat]
 ·refine⟨⟨ad,c,hval⟩,h1,vals,fun w' hw=>?_,h3,fun i j hi hj=>(h3 i j _ hi (List.getElem?_eq_getElem (by rw[h1 i hi];exact hj))).oneCell⟩;subst hval had;refine run_firstCells_some w' sz n ⟨b,o,none⟩ n c _ ZT fun j v hj=>?_;have hlt:=(List.getElem?_eq_some_iff.1 hj).1;rw[ZT] at hlt;have hsz:0<sz:=by
   rcases Nat.eq_zero_or_pos sz with h|h
   ·rw[h,Nat.mul_zero] at hlt;omega
   ·exact h
  have hi:j/sz<n:=Nat.div_lt_of_lt_mul (by rw[Nat.mul_comm];exact hlt);have hj2:j%sz<sz:=Nat.mod_lt _ hsz;have e:j/sz*sz+j%sz=j:=Nat.div_add_mod' j sz;rw[←e,QeK hi hj2] at hj
  cases hj
  have:=h2 (j/sz) (j%sz) _ hi (List.getElem?_eq_getElem (by rw[h1 _ hi];exact hj2));rw[Nat.add_assoc,e] at this;rw[Addr.add_mid];simpa[World.cell?,hw] using this
theorem QcS {blk:Nat→Option Blk} {sz n:Nat} {row:Nat→List D} {v:V} {val:Value} (hb:∀id b,blk id=some b→BR w ow ρ id b) (hv:VR w ow ρ v val) (h:J7 blk sz v=some (n,row)):
  Src P w ow sz n row val:=by
 unfold J7 at h;split at h
 ·rename_i id off len;split at h
  ·rename_i t s n' row' hblk;split at h
   ·rename_i hs;have hs:=Nat.eq_of_beq_eq_true hs;simp only[Option.some.injEq,Prod.mk.injEq] at h;obtain⟨rfl,rfl⟩:=h;obtain⟨ad,c,h1,h2,h3⟩:=hv.osl_inv;rcases h3 with ⟨h3,_⟩|⟨h3,h4,h5,h6⟩
    ·exact Qlg h1 (.inl h3)
    ·refine Qlg h1 (.inr ?_)
     cases hb _ _ hblk with
     |arr0 h _ _ _=>rw[h] at h3;cases h3
     |arr C et0 g1 g2 g3 g4 g5 g6 g7 g8=>
     have hview:∀i,ZA off row' i=row' (off+i):=fun i=>by cases off<;>simp[ZA]
     refine⟨(ρ id).b,(ρ id).o+off*(ρ id).sz,fun i j=>C.getD ((ρ id).o+(off+i)*s+j) undef,h5,fun i hi=>?_,fun i j d hi hd=>?_,fun i j d hi hd=>?_⟩
     ·rw[hview,g5 _ (by omega),hs]
     ·rw[hview] at hd;have hj:=(List.getElem?_eq_some_iff.1 hd).1;rw[g5 _ (by omega)] at hj;have hle:(off+i+1)*s≤(ρ id).cap*s:=Nat.mul_le_mul_right _ (by omega);rw[Nat.add_mul (off+i)] at hle;have:=QbJ (w:=w) (o:=(ρ id).o+(off+i)*s+j) g6 (by omega);rw[g2,←hs,show(ρ id).o+off*s+i*s+j=(ρ id).o+(off+i)*s+j by rw[Nat.add_mul];omega];exact this
     ·rw[hview] at hd;exact g8 (off+i) j d (by omega) hd
   ·cases h
  ·cases h
 ·rename_i n' row';split at h
  ·rename_i hl;have hl:=Nat.eq_of_beq_eq_true hl;simp only[Option.some.injEq,Prod.mk.injEq] at h;obtain⟨rfl,rfl⟩:=h;obtain⟨ad,c,h1,h2⟩:=hv.sl_inv;rcases h2 with h2|⟨b,o,sz',vals,h2,h3,h4,h5,h6,h7⟩
   ·exact Qlg h1 (.inl h2)
   ·rcases Nat.eq_zero_or_pos n' with h0|h0
    ·exact Qlg h1 (.inl h0)
    ·have:sz'=sz:=by rw[←h5 0 h0,hl]
     subst this;exact Qlg h1 (.inr ⟨b,o,vals,h2,h5,h6,h7⟩)
  ·cases h
 ·simp only[Option.some.injEq,Prod.mk.injEq] at h;obtain⟨rfl,rfl⟩:=h
  cases hv with|d hv=>cases hv;exact Qlg rfl (.inl rfl)
 ·cases h
end Go.Ab
namespace Go.Ab
open Go.RowKit
variable {P:Program} {tb:Tb} {w:World} {ow:Nat→Prop} {ρ:Env} {a:Act} {B:Bd} {w0:World} {F:List (Array Value)} {S:St} {K:V→St→Prop}
theorem QdI {t t' ty e e':TypeId} {te} (ht:P.underlying t=some (.slice e)) (ht':P.underlying t'=some (.slice e')) (hte:TIok P e te)
  {g o n cap m:Nat} {x:Value} {ad c} (hx:x=.slice ad m c) {cur:Array Value} {et:TypeId} (hg:w.heap[g]? =some (.cells cur et (0,0))) {news:List Value} (hn:(Builtin.firstCells te.size m x).run P w=.ok news.toArray w)
  (h1:∀u∈news,u.oneCell'=true) (hroom:n+m≤cap) (hfit:o+n*te.size+news.length≤cur.size):
  (Builtin.append_ #[t,t'] ty #[.slice (some ⟨g,o,none⟩) n cap,x]).run P w=
   .ok (.slice (some ⟨g,o,none⟩) (n+m) cap) (w.setRow g (cur.toList.take (o+n*te.size)++news++cur.toList.drop (o+n*te.size+news.length)).toArray):=by
 subst hx;have hst:=run_storeCells_at P g (o+n*te.size) et news 0 cur w hg (by simpa using hfit) h1;simp only[Nat.add_zero] at hst;simp[Builtin.append_,run_underlying ht,run_underlying ht',Jh hte,Builtin.lenOf,hroom,hn,Addr.add_mid,hst]
theorem QdJ {t t' ty e e':TypeId} {te} (ht:P.underlying t=some (.slice e)) (ht':P.underlying t'=some (.slice e')) (hte:TIok P e te) {x:Value} {ad c} (hx:x=.slice ad 0 c)
  (hn:(Builtin.firstCells te.size 0 x).run P w=.ok #[] w) {base:Option Addr} {cap:Nat}:
  (Builtin.append_ #[t,t'] ty #[.slice base 0 cap,x]).run P w=.ok (.slice base 0 cap) w:=by
 subst hx
 cases base<;>simp[Builtin.append_,run_underlying ht,run_underlying ht',Jh hte,Builtin.lenOf,hn,storeCells]
theorem QdK {t t' ty e e':TypeId} {te} (ht:P.underlying t=some (.slice e)) (ht':P.underlying t'=some (.slice e')) (hte:TIok P e te)
  {n m:Nat} {r r':Nat→List D} {s x:Value} {base:Option Addr} {cap:Nat} (hs:s=.slice base n cap) (hS:Src P w ow te.size n r s) (hX:Src P w ow te.size m r' x) (hgrow:cap<n+m)
  (hb:(n+m)*(te.bytes+1)≤70368744177664):
  ∃nc C,(Builtin.append_ #[t,t'] ty #[s,x]).run P w=.ok (.slice (some ⟨w.heap.size,0,none⟩) (n+m) nc) (w.drew.alloc (.cells C e))∧C.size=nc*te.size∧n+m≤nc∧
   ∀i,i<n+m→(QdY n r r' i).length=te.size∧∀j d,(QdY n r r' i)[j]? =some d→DR w ow d (C.getD (i*te.size+j) undef):=by
 obtain⟨i,z,hi,hs1,hby,hz,hzs,hzl,hzr⟩:=hte.info;obtain⟨f,f1,f2,f3⟩:=hS.cells;obtain⟨f',g1,g2,g3⟩:=hX.cells;obtain⟨ad,c,hx⟩:=hX.hdr;have hnc:n+m≤grownCap w (n+m) cap e:=grownCap_ge w _ _ e;have hbytes:(n+m)*te.bytes+(n+m)≤70368744177664:=by rw[Nat.mul_add,Nat.mul_one] at hb;exact hb
 have h48:¬(281474976710656<Builtin.nextslicecap (n+m) cap*i.bytes):=by
  have:=growslice_fits (bytes:=te.bytes) hgrow (by omega);rw[hby];omega
 have h63:¬(9223372036854775807<((n:Int)+(m:Int))):=by omega
 have hnr:¬(n+m≤cap):=by omega
 refine⟨grownCap w (n+m) cap e,(flat n te.size f).toArray++(flat m te.size f').toArray++Builtin.zeroCells z.cells (grownCap w (n+m) cap e-(n+m)),?_,?_,hnc,fun q hq=>?_⟩
 ·have a1:=f1 w.drew rfl;have a2:=g1 w.drew rfl;subst hs hx;simp[Builtin.append_,run_underlying ht,run_underlying ht',Jh hte,zeroValue,typeInfo,hi,hz,Builtin.lenOf,hnr,h63,h48,Question.forced,a1,a2,newRow,grownCap]
  congr 2;apply Array.ext';simp
 ·have h1:((flat n te.size f).toArray++(flat m te.size f').toArray++Builtin.zeroCells z.cells (grownCap w (n+m) cap e-(n+m))).size=n*te.size+m*te.size+(grownCap w (n+m) cap e-(n+m))*te.size:=by
   simp[ZT,Builtin.zeroCells,hzs]
  rw[h1,←Nat.add_mul,←Nat.add_mul]
  congr 1;omega
 ·have e1:∀(q j:Nat),q<n+m→j<te.size→((flat n te.size f).toArray++(flat m te.size f').toArray++Builtin.zeroCells z.cells (grownCap w (n+m) cap e-(n+m))).getD (q*te.size+j) undef=if q<n then f q j else f' (q-n) j:=by
   intro q j hq hj;have hm1:(q+1)*te.size≤(n+m)*te.size:=Nat.mul_le_mul_right _ (by omega);rw[Nat.add_mul,Nat.add_mul] at hm1;rw[Array.getD_eq_getD_getElem?,Array.getElem?_append_left (by simp[ZT];omega)]
   by_cases hqn:q<n
   ·have hm2:(q+1)*te.size≤n*te.size:=Nat.mul_le_mul_right _ (by omega);rw[Nat.add_mul] at hm2;rw[if_pos hqn,Array.getElem?_append_left (by simp[ZT];omega)];simp[QeK hqn hj]
   ·have hm2:n*te.size≤q*te.size:=Nat.mul_le_mul_right _ (by omega);have e2:q*te.size+j-n*te.size=(q-n)*te.size+j:=by rw[Nat.sub_mul];omega
    rw[if_neg hqn,Array.getElem?_append_right (by simp[ZT];omega)];simp only[List.size_toArray,ZT,e2];simp[QeK (n:=m) (f:=f') (show q-n<m by omega) hj]
  simp only[QdY]
  by_cases hqn:q<n
  ·rw[if_pos hqn];refine⟨hS.rows q hqn,fun j d hd=>?_⟩;have hj:j<te.size:=by have:=(List.getElem?_eq_some_iff.1 hd).1;have:=hS.rows q hqn;omega
   rw[e1 q j hq hj,if_pos hqn];exact f2 q j d hqn hd
  ·rw[if_neg hqn];refine⟨hX.rows _ (by omega),fun j d hd=>?_⟩;have hj:j<te.size:=by have:=(List.getElem?_eq_some_iff.1 hd).1;have:=hX.rows (q-n) (by omega);omega
   rw[e1 q j hq hj,if_neg hqn];exact g2 _ j d (by omega) hd
theorem Qep {id:Nat} {S1:St} (h:SimO P ow B w0 F ρ S1 a w) (hm:S1.mentions id=false) (hown:∀b,ZM B S1.blks ρ b→ow b) (how:∀b,ow b→b<w.heap.size) {n sz cap:Nat} {row:Nat→List D} {C:Array Value} {e:TypeId} {w1:World}
  (hw1:w1=w∨w1=w.drew) (hC:cap*sz≤C.size) (hn:n≤cap) (hr:∀i,i<n→(row i).length=sz∧∀j d,(row i)[j]? =some d→DR w ow d (C.getD (i*sz+j) undef)):
  Sim P B w0 F (ρ.set id ⟨w.heap.size,0,sz,n,cap,false⟩) ⟨S1.base,S1.nt,S1.tmps,S1.gds,(id,.arr e sz n row)::S1.blks,S1.frames⟩ a (w1.alloc (.cells C e))∧
  VR (w1.alloc (.cells C e)) (ZM B ((id,.arr e sz n row)::S1.blks) (ρ.set id ⟨w.heap.size,0,sz,n,cap,false⟩)) (ρ.set id ⟨w.heap.size,0,sz,n,cap,false⟩) (.osl id 0 n) (.slice (some ⟨w.heap.size,0,none⟩) n cap):=by
 have hheap:(w1.alloc (.cells C e)).heap=(w.alloc (.cells C e)).heap:=by rcases hw1 with rfl|rfl<;>rfl
 have hsame:w1.os=w.os∧w1.tape=w.tape∧w1.output=w.output:=by rcases hw1 with rfl|rfl<;>exact⟨rfl,rfl,rfl⟩
 refine⟨Qfv h hm hown (by rw[hheap];simp) (fun b hb _=>by rw[hheap];exact Below.heap_alloc w _ b hb) (fun b hb=>by rw[hheap];exact Below.heap_alloc w _ b (h.hB b hb)) (fun b k hc=>World.cell?_of_block (by rw[hheap];exact Below.heap_alloc w _ b (Nat.lt_of_lt_of_le (h.below.clt b k hc) h.below.size))) (fun _=>.inl (Nat.le_refl _))
  (fun _=>⟨fun hb'=>absurd (h.hB _ hb') (Nat.lt_irrefl _),fun k hc=>absurd (Nat.lt_of_lt_of_le (h.below.clt _ k hc) h.below.size) (Nat.lt_irrefl _)⟩)
  hsame.1 hsame.2.1 hsame.2.2 fun keep=>?_,?_⟩
 ·refine .arr C e (by simp[Env.set]) (by simp[Env.set]) (by simp[Env.set]) (by simpa[Env.set] using hn) (fun i hi=>(hr i hi).1) ?_ (by simpa[Env.set] using hC) fun i j d hi hd=>?_
  ·rw[hheap];simp only[Env.set,if_true];exact heap_alloc_new w _
  ·simp only[Env.set,if_true,Nat.zero_add];exact((hr i hi).2 j d hd).keep keep
 ·have e1:(Value.slice (some ⟨w.heap.size,0,none⟩) n cap)=.slice (some ⟨((ρ.set id ⟨w.heap.size,0,sz,n,cap,false⟩) id).b,((ρ.set id ⟨w.heap.size,0,sz,n,cap,false⟩) id).o+0*((ρ.set id ⟨w.heap.size,0,sz,n,cap,false⟩) id).sz,none⟩) n (((ρ.set id ⟨w.heap.size,0,sz,n,cap,false⟩) id).cap-0):=by
   simp[Env.set]
  rw[e1];exact .osl (by simp[Env.set]) (by simp[Env.set]) (by simpa[Env.set] using hn)
theorem Qc4 {id:Nat} {S1:St} (h:SimO P ow B w0 F ρ S1 a w) (hm:S1.mentions id=false) (hown:∀b,ZM B S1.blks ρ b→ow b) {sz:Nat} {row:Nat→List D} {e:TypeId} (ad:Option Addr):
  Sim P B w0 F (ρ.set id ⟨0,0,sz,0,0,true⟩) ⟨S1.base,S1.nt,S1.tmps,S1.gds,(id,.arr e sz 0 row)::S1.blks,S1.frames⟩ a w∧
  VR w (ZM B ((id,.arr e sz 0 row)::S1.blks) (ρ.set id ⟨0,0,sz,0,0,true⟩)) (ρ.set id ⟨0,0,sz,0,0,true⟩) (.osl id 0 0) (.slice ad 0 0):=by
 refine⟨Qfv h hm hown (Nat.le_refl _) (fun _ _ _=>rfl) (fun _ _=>rfl) (fun _ _ _=>rfl) (fun h=>by cases h) (fun h=>by cases h) rfl rfl rfl fun _=>.arr0 (by simp[Env.set]) (by simp[Env.set]) (by simp[Env.set]) rfl,.osl0 rfl (Nat.zero_le _)⟩
end Go.Ab
namespace Go.Ab
open Go.RowKit
variable {P:Program} {tb:Tb} {w:World} {ρ:Env} {a:Act} {B:Bd} {w0:World} {F:List (Array Value)} {S:St} {K:V→St→Prop}
theorem QeL {α:Type} (f:α→V) (id:Nat) (h:∀x,(f x).mentions id=false):∀l:List α,QN id (l.map f)=false
 |[]=>rfl
 |x::r=>by simp only[List.map_cons,QN,h x];exact QeL f id h r
theorem Qfw (id:Nat) (v:Value):(Qla v).mentions id=false:=by
 unfold Qla;split<;>rfl
theorem QiT (id:Nat) (v:Value):(QjM v).mentions id=false:=by
 unfold QjM;split
 ·split
  ·simp only[V.mentions];exact QeL _ _ (Qfw id) _
  ·rfl
 ·exact Qfw id v
theorem QjU {id:Nat} (h:S.mentions id=false) (al:List (Nat×Bool)) (x:Operand):(S.ev al x).mentions id=false:=by
 obtain⟨h1,h2,_,_⟩:=St.mentions_parts h
 cases x with
 |const v=>exact QiT id v
 |func f=>rfl
 |global g=>rfl
 |tmp t=>
  unfold St.ev;dsimp only;split
  ·rename_i g hg;split
   ·cases hm:g.v.mentions id
    ·rfl
    ·have:=Qd0 (QdH hg).1 hm;rw[h2] at this;cases this
   ·rfl
  ·unfold Quy;split
   ·rename_i v hv
    cases hm:v.mentions id
    ·rfl
    ·have:=QdZ hv hm;rw[h1] at this;cases this
   ·rfl
theorem Qgh {id:Nat} {v:V} (h:v.mentions id=false):QN id v.cells=false:=by
 cases v<;>simp_all [V.cells,V.mentions,QN]
theorem Qdb (h:Sim P B w0 F ρ S a w) {b:Nat} (ho:ZM B S.blks ρ b):b<w.heap.size:=ho.elim (QwJ h.blks) fun hf=>h.hB _ (B.sub _ hf)
theorem Qk3 {r:List D} {o:Nat} {ds:List D} {sz:Nat} (h:r.length=sz):(Qcf r o ds).length=sz:=by rw[Qa9,h]
theorem Qfx {id:Nat} {bs:List (Nat×Blk)} {b:Nat}:own (Qcn id bs) ρ b→own bs ρ b:=by
 rintro⟨i,k,hk,hp,rfl⟩;obtain⟨_,k0,hk0,_⟩:=Qbj hk;exact⟨i,k0,hk0,hp,rfl⟩
theorem Qtj {id:Nat} {t:TypeId} {sz n:Nat} {row row':Nat→List D} (h:Sim P B w0 F ρ S a w) (h0:Qh S.blks id=some (.arr t sz n row)) (hr:∀i,i<n→row' i=row i):
  Sim P B w0 F ρ ⟨S.base,S.nt,S.tmps,S.gds,Qe5 S.blks id (.arr t sz n row'),S.frames⟩ a w:=by
 have keep:Keep w (ZM B S.blks ρ) w (ZM B (Qe5 S.blks id (.arr t sz n row')) ρ):=⟨Nat.le_refl _,fun b _ ho=>⟨rfl,fun h=>ho (h.imp (Qi9 h0) fun h=>h)⟩⟩;have lift:∀i x,Qh (Qe5 S.blks id (.arr t sz n row')) i=some x→∃x0,Qh S.blks i=some x0:=fun i x hx=>by
  rcases JI hx with ⟨rfl,_,b,hb⟩|⟨_,hb⟩
  ·exact⟨b,hb⟩
  ·exact⟨x,hb⟩
 refine⟨h.below,h.tab,h.hB,h.defers,h.nt,h.top.keep keep fun _ _=>rfl,fun i b hb=>?_,fun i j x y hx hy=>?_,fun i x hx=>?_,h.frames.1,fun i f' tm hf' htm=>(h.frames.2 i f' tm hf' htm).keep keep fun _ _=>rfl⟩
 ·rcases JI hb with ⟨rfl,rfl,_⟩|⟨hn,hb⟩
  ·have hb0:=h.blks i _ h0;have:BR w (ZM B S.blks ρ) ρ i (.arr t sz n row'):=by
    cases hb0 with
    |arr0 k1 k2 k3 k4=>exact .arr0 k1 k2 k3 k4
    |arr C et k1 k2 k3 k4 k5 k6 k7 k8=>exact .arr C et k1 k2 k3 k4 (fun i hi=>by rw[hr i hi];exact k5 i hi) k6 k7 fun i j d hi hd=>k8 i j d hi (by rw[←hr i hi];exact hd)
   exact this.keep keep rfl (fun _=>rfl) fun _ _=>rfl
  ·exact(h.blks i b hb).keep keep rfl (fun _=>rfl) fun _ _=>rfl
 ·obtain⟨x0,hx0⟩:=lift i x hx;obtain⟨y0,hy0⟩:=lift j y hy;exact h.sep i j x0 y0 hx0 hy0
 ·rcases JI hx with ⟨rfl,rfl,_⟩|⟨_,hb⟩
  ·have:=h.ge i (.arr t sz n row) h0;exact this
  ·exact h.ge i x hb
theorem QdL (hT:TOk P tb) (h:Sim P B w0 F ρ S a w) (o:Oper) (he:evE tb o.dst o.op S K):Eff P B w0 F a w (execOp a.eval o) K:=by
 obtain⟨dst,op,ty,pos,after,guard⟩:=o;obtain⟨base,nt,ts,gs,bs,fs⟩:=S;have hev:=h.evR
 cases op<;>simp only[evE,St.idK_eq] at he<;>first|exact he.no.elim|skip
 case alloc t=>
  split at he
  ·rename_i ti dst' hti hbl;split at he
   ·exact he.no.elim
   ·rename_i hm;rw[Q2] at he;obtain⟨i,z,hi,hs1,hby,hz,hzs,hzl,hzr⟩:=(hT.ok _ _ hti).info;have hl:ListR w (ZM B bs ρ) ρ (ti.zero.map .d) z.cells:=by
     refine⟨by rw[hzs,List.length_map,hzl],fun j hj=>?_,fun j u hj=>?_⟩
     ·exact(hzr w (ZM B bs ρ) j _ (List.getElem?_eq_getElem (by omega))).oneCell
     ·rw[List.getElem?_map] at hj;obtain⟨d,hd,rfl⟩:=Option.map_eq_some_iff.1 hj;exact .d (hzr w _ j d hd)
    obtain⟨w',ρ',h1,h2,h3,h4⟩:=Qlf (P:=P) (t:=t) (x:=z) (K:=K) h hm hl he (QeL _ _ (fun _=>rfl) _) hbl;refine⟨_,_,w',ρ',_,_,?_,.inl rfl,h2,h3,h4⟩;simp only[execOp,Instr.alloc,Sem.run_bind,zeroValue,typeInfo,run_program,hi,hz,Result.andThen_ok,Sem.run_pure,h1]
  ·exact he.no.elim
 case box t x=>
  split at he
  ·rename_i dst' hbl;split at he
   ·exact he.no.elim
   ·rename_i hm;rw[Q2] at he;simp only[Bool.or_eq_false_iff,Bool.not_eq_false'] at hm;have hl:=Qdx (hev.at x) hm.2;obtain⟨w',ρ',h1,h2,h3,h4⟩:=Qlf (P:=P) (t:=t) (x:=a.eval x) (K:=K) h hm.1 hl he (Qgh (QjU hm.1 _ _)) hbl;refine⟨_,_,w',ρ',_,_,?_,.inl rfl,h2,h3,h4⟩;simp only[execOp,Instr.box,Sem.run_bind,h1,Result.andThen_ok,Sem.run_pure]
  ·exact he.no.elim
 case store t p x=>
  split at he
  ·rename_i ti id row off hti hp;have hv:=hev.at x;obtain⟨h1,h2,h3⟩:=(hev.eq hp).ref_inv;split at he
   ·rename_i t' cs hcs hlk;simp only[Bool.and_eq_true] at hcs;have hsz:=Nat.eq_of_beq_eq_true hcs.2;have hl:=Qdx hv hcs.1;split at he
    ·rename_i hle;have hle:=Nat.le_of_ble_eq_true hle;rw[Q2,ZD] at he;have hls:=hl.size
     cases h.blks id _ hlk with
     |box C g1 g2 g3 g4 g5 g6 g7 g8=>
     have e:(ρ id).o+0*(ρ id).sz+off=(ρ id).o+off:=by omega
     rw[e] at h1;have g6a:=g6.1;have gfit:cs.length≤(ρ id).cap*(ρ id).sz:=by rw[g3];exact Nat.mul_le_mul_right _ g4.2.1
     have hrun:=QiA (P:=P) (w:=w) (hT.ok _ _ hti) g5 (o:=(ρ id).o+off) (x:=a.eval x) (by omega) hl.one (by omega);have hfit:(ρ id).o+off+(a.eval x).cells.toList.length≤C.toList.length:=by simp;omega
     refine⟨.skip,undef,_,ρ,.any,_,?_,.inr ⟨rfl,rfl⟩,QjT h hlk h2 (C.toList.take ((ρ id).o+off)++(a.eval x).cells.toList++C.toList.drop ((ρ id).o+off+(a.eval x).cells.toList.length)).toArray (by rfl) (fun _ k hk=>Qoj g5 hfit (by simp;omega)) fun ow' keep=>?_,.any,he⟩
     ·simp only[execOp,h1,Sem.run_bind,hrun,Result.andThen_ok,Sem.run_pure]
     ·have hs':=Qba C.toList (a.eval x).cells.toList ((ρ id).o+off) hfit;refine .box _ g1 g2 (by rw[Qa9];exact g3) g4 (setRow_heap w _ C _ _ _ g5) (by rw[hs',Qa9];simpa using g6) (fun j hj=>?_) fun j u hj=>?_
      ·rw[Qbk _ _ _ _ hfit];rw[Qa9] at hj
       by_cases hc:(ρ id).o+off≤(ρ id).o+j∧(ρ id).o+j<(ρ id).o+off+(a.eval x).cells.toList.length
       ·rw[if_pos hc];have:=hl.one (j-off) (by simp at hc;omega);rw[show(ρ id).o+j-((ρ id).o+off)=j-off by omega];simpa using this
       ·rw[if_neg hc];have:=g7 j hj;simpa using this
      ·rw[Qbk _ _ _ _ hfit];rw[Qft _ _ _ _ (by omega)] at hj;have hlen:(a.eval x).cells.toList.length=(St.ev ⟨base,nt,ts,gs,bs,fs⟩ [] x).cells.length:=by simpa using hls
       by_cases hc:off≤j∧j<off+(St.ev ⟨base,nt,ts,gs,bs,fs⟩ [] x).cells.length
       ·rw[if_pos hc] at hj;rw[if_pos (by omega)];have:=(hl.vals _ _ hj).keep (ρ':=ρ) keep fun _ _=>rfl;rw[show(ρ id).o+j-((ρ id).o+off)=j-off by omega];simpa using this
       ·rw[if_neg hc] at hj;rw[if_neg (by omega)];have:=(g8 _ _ hj).keep (ρ':=ρ) keep fun _ _=>rfl;simpa using this
    ·exact he.no.elim
   ·rename_i t' sz n rw' hcs hlk;simp only[Bool.and_eq_true] at hcs;have hsz:=Nat.eq_of_beq_eq_true hcs.2;have hl:=Qdx hv hcs.1;have hls:=hl.size;split at he
    ·rename_i ds hle hds;have hle:=Nat.le_of_ble_eq_true hle;obtain⟨rw1,hrw1,he⟩:=he;rw[ZD] at he;obtain⟨e1,e2⟩:=QfU hds
     cases h.blks id _ hlk with
     |arr0 g=>rw[g] at h2;cases h2
     |arr C et0 g1 g2 g3 g4 g5 g6 g7 g8=>
     have hm1:(row+1)*sz≤(ρ id).cap*sz:=Nat.mul_le_mul_right _ (by omega);rw[Nat.add_mul] at hm1;rw[g2] at h1;have hrun:=QiA (P:=P) (w:=w) (hT.ok _ _ hti) g6 (o:=(ρ id).o+row*sz+off) (x:=a.eval x) (by omega) hl.one (by omega);have hfit:(ρ id).o+row*sz+off+(a.eval x).cells.toList.length≤C.toList.length:=by simp;omega
     have hlen:(a.eval x).cells.toList.length=ds.length:=by simpa[e1] using hls
     refine⟨.skip,undef,_,ρ,.any,_,?_,.inr ⟨rfl,rfl⟩,QjT h hlk h2 (C.toList.take ((ρ id).o+row*sz+off)++(a.eval x).cells.toList++C.toList.drop ((ρ id).o+row*sz+off+(a.eval x).cells.toList.length)).toArray (by rfl) (fun e=>by cases e) fun ow' keep=>?_,.any,he⟩
     ·simp only[execOp,h1,Sem.run_bind,hrun,Result.andThen_ok,Sem.run_pure]
     ·have hs':=Qba C.toList (a.eval x).cells.toList ((ρ id).o+row*sz+off) hfit;refine .arr _ et0 g1 g2 g3 g4 (fun i hi=>?_) (setRow_heap w _ C _ et0 _ g6) (by rw[hs'];simpa using g7) fun i j d hi hd=>?_
      ·rw[hrw1 i hi]
       by_cases hir:i=row
       ·simp only[hir,if_true];exact Qk3 (g5 row (by omega))
       ·simp only[hir,if_false];exact g5 i hi
      ·rw[hrw1 i hi] at hd;rw[Qbk _ _ _ _ hfit]
       by_cases hir:i=row
       ·subst hir;simp only[if_true] at hd;have hrl:=g5 i hi;rw[Qft _ _ _ _ (by omega)] at hd
        by_cases hc:off≤j∧j<off+ds.length
        ·rw[if_pos hc] at hd;rw[if_pos (by omega)];have:=hl.vals _ _ (e2 _ _ hd)
         cases this with|d this=>
         have:=this.keep keep;rw[show(ρ id).o+i*sz+j-((ρ id).o+i*sz+off)=j-off by omega];simpa using this
        ·rw[if_neg hc] at hd;rw[if_neg (by omega)];have:=(g8 i j d hi hd).keep keep;simpa using this
       ·simp only[hir,if_false] at hd;have hj:=(List.getElem?_eq_some_iff.1 hd).1;rw[g5 i hi] at hj;have hdis:¬((ρ id).o+row*sz+off≤(ρ id).o+i*sz+j∧(ρ id).o+i*sz+j<(ρ id).o+row*sz+off+(a.eval x).cells.toList.length):=by
         intro hc;rcases Nat.lt_or_gt_of_ne hir with hlt|hgt
         ·have:(i+1)*sz≤row*sz:=Nat.mul_le_mul_right _ (by omega);rw[Nat.add_mul] at this;omega
         ·have:(row+1)*sz≤i*sz:=Nat.mul_le_mul_right _ (by omega);rw[Nat.add_mul] at this;omega
        rw[if_neg hdis];have:=(g8 i j d hi hd).keep keep;simpa using this
    ·exact he.no.elim
   ·exact he.no.elim
  ·exact he.no.elim
 case makeSlice t l c=>
  split at he
  ·rename_i e s' by' z' q dst' hti
   split at he
   ·rename_i k sz byt z q' n m hte hl hc;have hl:=(hev.eq hl).int_inv;have hc:=(hev.eq hc).int_inv;split at he
    ·exact he.no.elim
    ·rename_i hm;obtain⟨⟨b1,b2,b3,b4⟩,n1,rw1,hn1,hrw1,he⟩:=he;subst hn1;obtain⟨i,z0,hi,hs1,hby,hz,hzs,hzl,hzr⟩:=(hT.ok _ _ hte).info;dsimp only at hs1 hby hzs hzl hzr;have hrun:=run_make (P:=P) w t e i z0 (Z0 (hT.ok _ _ hti) rfl) hi hz .i64 .i64 n m b1 b2 (by rw[hby,Int.mul_comm];omega) (by omega);have hsn:=Qep (w:=w) h.o hm (fun _ h=>h) (fun _ ho=>Qdb h ho) (n:=n.toNat) (sz:=sz) (cap:=m.toNat) (row:=rw1) (C:=madeCells z0.cells (m.toNat*i.size)) (e:=e) (.inl rfl)
      (by rw[size_madeCells,hs1];exact Nat.le_refl _) (by omega) fun q hq=>⟨by rw[hrw1 q hq];exact hzl,fun j d hd=>by
       rw[hrw1 q hq] at hd;have hj:=(List.getElem?_eq_some_iff.1 hd).1;have hlt:q*sz+j<m.toNat*sz:=by
        have:(q+1)*sz≤m.toNat*sz:=Nat.mul_le_mul_right _ (by omega);rw[Nat.add_mul] at this;omega
       have e2:(q*sz+j)%sz=j:=by rw[Nat.mul_comm,Nat.mul_add_mod,Nat.mod_eq_of_lt (by omega)]
       have e3:(madeCells z0.cells (m.toNat*i.size)).getD (q*sz+j) undef=z0.cells.getD j undef:=by
        simp[madeCells,hs1,hlt,hzs,e2,show j<sz by omega]
       rw[e3];exact hzr w _ j d hd⟩
     refine⟨_,_,_,_,_,_,?_,.inl rfl,hsn.1,hsn.2,he⟩;simp only[execOp,hl,hc,Sem.run_bind,hrun,Result.andThen_ok,Sem.run_pure]
   ·exact he.no.elim
  ·exact he.no.elim
 case buildSlice t len parts=>
  split at he
  ·rename_i e s' by' z' q dst' hti
   split at he
   ·rename_i k sz byt z q' hte;split at he
    ·rename_i rs hrs hm hle;split at he
     ·rename_i hlen;have hlen:=Nat.eq_of_beq_eq_true hlen;obtain⟨hk,hr⟩:=QhS hev parts;obtain⟨n1,rw1,hn1,hrw1,he⟩:=he;rw[hn1] at hrw1 he;obtain⟨C,h1,h2,h3⟩:=Qge (P:=P) (w:=w) (ow:=ZM B bs ρ) (ρ:=ρ) hT hti rfl hte len (parts.map fun(i,x)=>(i,a.eval x)) hk hr hrs hlen (Nat.le_of_ble_eq_true hle);have hsn:=Qep (w:=w) h.o hm (fun _ h=>h) (fun _ ho=>Qdb h ho) (n:=len) (sz:=sz) (cap:=len) (row:=rw1) (C:=C) (e:=e) (.inl rfl) (by rw[h2];exact Nat.le_refl _) (Nat.le_refl _) fun q hq=>by rw[hrw1 q hq];exact h3 q hq
      refine⟨_,_,_,_,_,_,?_,.inl rfl,hsn.1,hsn.2,he⟩;simp only[execOp,Sem.run_bind,h1,Result.andThen_ok,Sem.run_pure]
     ·exact he.no.elim
    ·exact he.no.elim
   ·exact he.no.elim
  ·exact he.no.elim
 case call c=>
  split at he
  case h_3=>exact he.no.elim
  case h_2=>
   rename_i hcal;split at he
   case h_2=>exact he.no.elim
   rename_i s t hargs htys;have hargs:c.args=#[s]:=by apply Array.ext';simpa using hargs
   have htys:c.argTypes=#[t]:=by apply Array.ext';simpa using htys
   have hrun:∀w',(execOp a.eval ⟨dst,.call c,ty,pos,after,guard⟩).run P w'=((Builtin.clear_ #[t] ty #[a.eval s]>>=fun v=>(pure (.value v):Sem Next)).run P w'):=fun w'=>by
    simp only[execOp,resolve,hcal,hargs,htys,pure_bind,invoke,builtin,List.map_toArray,List.map_cons,List.map_nil]
   have fin:∀ {v w' ρ' S'},(Builtin.clear_ #[t] ty #[a.eval s]).run P w=.ok v w'→Sim P B w0 F ρ' S' a w'→K .any S'→Eff P B w0 F a w (execOp a.eval ⟨dst,.call c,ty,pos,after,guard⟩) K:=
    fun h1 h2 h4=>⟨_,_,_,_,.any,_,by rw[hrun,Sem.run_bind,h1];rfl,.inl rfl,h2,.any,h4⟩
   split at he
   case h_2=>exact he.no.elim
   rename_i e s' by' z' q hti
   have hu:=Z0 (hT.ok _ _ hti) rfl;split at he
   case h_2=>exact he.no.elim
   rename_i kk sz byt zz qq id off len hte hsv;split at he
   case h_2=>exact he.no.elim
   rename_i t' sz' n rw0 hlk;split at he
   case h_2=>exact he.no.elim
   rename_i hsz;have hsz:=Nat.eq_of_beq_eq_true hsz;subst hsz;obtain⟨rw1,hrw1,he⟩:=he;rw[ZD] at he;obtain⟨ad,cap,h1,h2,h3⟩:=(hev.eq hsv).osl_inv;obtain⟨i0,z0,hi0,hs1,hby,hz,hzs,hzl,hzr⟩:=(hT.ok _ _ hte).info;dsimp only at hs1 hzs hzl hzr;rcases Nat.eq_zero_or_pos len with hl0|hl0
   ·subst hl0;have g1:(Builtin.clear_ #[t] ty #[a.eval s]).run P w=.ok (.tuple #[]) w:=by
     rw[h1]
     cases ad<;>simp[Builtin.clear_,run_underlying hu]
    refine fin g1 (Qtj h hlk fun i hi=>?_) he;exact(hrw1 i hi).2 (by omega)
   ·rcases h3 with ⟨h3,_⟩|⟨hp,h4,h5,h6⟩
    ·omega
    ·have hb:=h.blks id _ hlk
     cases hb with
     |arr0 g=>rw[g] at hp;cases hp
     |arr C et0 g1 g2 g3 g4 g5 g6 g7 g8=>
     rw[g2] at h5;have hcm:(off+len)*sz'≤(ρ id).cap*sz':=Nat.mul_le_mul_right _ (by omega);rw[Nat.add_mul] at hcm;have hzc:(Builtin.zeroCells z0.cells len).toList.length=len*sz':=by simp[Builtin.zeroCells,hzs]
     have hone:∀u∈(Builtin.zeroCells z0.cells len).toList,u.oneCell'=true:=fun u hu=>by
      simp only[Builtin.zeroCells,Array.toList_map,List.mem_map] at hu;obtain⟨i,hi,rfl⟩:=hu;have hi:i<len*z0.cells.size:=by simpa using hi
      have hs:0<z0.cells.size:=by
       rcases Nat.eq_zero_or_pos z0.cells.size with e|e
       ·rw[e,Nat.mul_zero] at hi;omega
       ·exact e
      have hlt:i%z0.cells.size<z0.cells.size:=Nat.mod_lt _ hs;have:=(hzr w (fun _=>False) (i%z0.cells.size) _ (List.getElem?_eq_getElem (by omega))).oneCell;rw[getElem!_pos z0.cells (i%z0.cells.size) hlt];simpa[Array.getD_eq_getD_getElem?,hlt] using this
     have hfit:(ρ id).o+off*sz'+(Builtin.zeroCells z0.cells len).toList.length≤C.toList.length:=by rw[hzc];simp;omega
     have hst:=run_storeCells_at P (ρ id).b ((ρ id).o+off*sz') et0 (Builtin.zeroCells z0.cells len).toList 0 C w g6 (by simpa using hfit) hone;simp only[Nat.add_zero] at hst;have hzv:(zeroValue e).run P w=.ok z0 w:=by simp[zeroValue,typeInfo,hi0,hz]
     obtain⟨m,rfl⟩:∃m,len=m+1:=⟨len-1,by omega⟩;have g0:(Builtin.clear_ #[t] ty #[a.eval s]).run P w=.ok (.tuple #[]) (w.setRow (ρ id).b (C.toList.take ((ρ id).o+off*sz')++(Builtin.zeroCells z0.cells (m+1)).toList++C.toList.drop ((ρ id).o+off*sz'+(Builtin.zeroCells z0.cells (m+1)).toList.length)).toArray):=by
      rw[h1,h5];simp[Builtin.clear_,run_underlying hu,hzv,hst]
     refine fin g0 (QjT h hlk hp _ (by rfl) (fun e=>by cases e) fun ow' keep=>?_) he;have hs':=Qba C.toList (Builtin.zeroCells z0.cells (m+1)).toList ((ρ id).o+off*sz') hfit;refine .arr _ et0 hp g2 g3 g4 (fun i hi=>?_) (setRow_heap w _ C _ et0 _ g6) (by rw[hs'];simpa using g7) fun i j d hi hd=>?_
     ·by_cases hc:off≤i∧i<off+(m+1)
      ·rw[←((hrw1 i hi).1 hc).len];exact hzl
      ·rw[(hrw1 i hi).2 hc];exact g5 i hi
     ·rw[Qbk _ _ _ _ hfit]
      by_cases hc:off≤i∧i<off+(m+1)
      ·obtain⟨d0,hd0,hle⟩:=((hrw1 i hi).1 hc).get hd;refine DR.zle hle ?_;replace hd:=hd0;have hj:j<sz':=by have:=(List.getElem?_eq_some_iff.1 hd).1;omega
       have hm1:(i-off+1)*sz'≤(m+1)*sz':=Nat.mul_le_mul_right _ (by omega);rw[Nat.add_mul,Nat.one_mul] at hm1;have hm2:i*sz'=off*sz'+(i-off)*sz':=by rw[←Nat.add_mul];congr 1;omega
       rw[if_pos (by rw[hzc];omega)];have e4:(ρ id).o+i*sz'+j-((ρ id).o+off*sz')=(i-off)*sz'+j:=by omega
       rw[e4];have e5:(Builtin.zeroCells z0.cells (m+1)).toList.getD ((i-off)*sz'+j) undef=z0.cells.getD j undef:=by
        have e2:((i-off)*sz'+j)%sz'=j:=by rw[Nat.mul_comm,Nat.mul_add_mod,Nat.mod_eq_of_lt (by omega)]
        have e3:(i-off)*sz'+j<(m+1)*sz':=by omega
        simp[Builtin.zeroCells,hzs,e3,e2,List.getD_eq_getElem?_getD,Array.getD_eq_getD_getElem?,show j<sz' by omega]
       rw[e5];exact hzr _ _ j d0 hd
      ·rw[(hrw1 i hi).2 hc] at hd;have hj:j<sz':=by have:=(List.getElem?_eq_some_iff.1 hd).1;rw[g5 i hi] at this;exact this
       have hdis:¬((ρ id).o+off*sz'≤(ρ id).o+i*sz'+j∧(ρ id).o+i*sz'+j<(ρ id).o+off*sz'+(Builtin.zeroCells z0.cells (m+1)).toList.length):=by
        rw[hzc];intro hh;rcases Nat.lt_or_ge i off with hlt|hge
        ·have:(i+1)*sz'≤off*sz':=Nat.mul_le_mul_right _ (by omega);rw[Nat.add_mul] at this;omega
        ·have:(off+(m+1))*sz'≤i*sz':=Nat.mul_le_mul_right _ (by omega);rw[Nat.add_mul] at this;omega
       rw[if_neg hdis];have:=(g8 i j d hi hd).keep keep;simpa using this
  rename_i hcal;split at he
  case h_2=>exact he.no.elim
  rename_i s x t t' hargs htys;have hargs:c.args=#[s,x]:=by apply Array.ext';simpa using hargs
  have htys:c.argTypes=#[t,t']:=by apply Array.ext';simpa using htys
  have hrun:∀w',(execOp a.eval ⟨dst,.call c,ty,pos,after,guard⟩).run P w'=((Builtin.append_ #[t,t'] ty #[a.eval s,a.eval x]>>=fun v=>(pure (.value v):Sem Next)).run P w'):=fun w'=>by
   simp only[execOp,resolve,hcal,hargs,htys,pure_bind,invoke,builtin,List.map_toArray,List.map_cons,List.map_nil]
  have fin:∀ {v w' ρ' x' S'},(Builtin.append_ #[t,t'] ty #[a.eval s,a.eval x]).run P w=.ok v w'→Sim P B w0 F ρ' S' a w'→VR w' (ZM B S'.blks ρ') ρ' x' v→K x' S'→Eff P B w0 F a w (execOp a.eval ⟨dst,.call c,ty,pos,after,guard⟩) K:=
   fun h1 h2 h3 h4=>⟨_,_,_,_,_,_,by rw[hrun,Sem.run_bind,h1];rfl,.inl rfl,h2,h3,h4⟩
  split at he
  case h_2=>exact he.no.elim
  rename_i e s' by' z' q e' s2 by2 z2 q2 dst' hti hti'
  have hu:=Z0 (hT.ok _ _ hti) rfl;have hu':=Z0 (hT.ok _ _ hti') rfl;split at he
  case h_2=>exact he.no.elim
  rename_i kk sz byt zz qq hte;have hteok:=hT.ok _ _ hte;split at he
  case h_2=>exact he.no.elim
  rename_i n r m r' hcs hcx;have hS:=QcS (P:=P) (w:=w) (ow:=ZM B bs ρ) (ρ:=ρ) h.blks (hev.at s) hcs;have hX:=QcS (P:=P) (w:=w) (ow:=ZM B bs ρ) (ρ:=ρ) h.blks (hev.at x) hcx;obtain⟨adx,cx,hxv⟩:=hX.hdr;split at he
  ·rename_i id off len hsv;obtain⟨hb,n1,rw1,hn1,hrw1,he⟩:=he;rw[QaP,Qbv,ZD,Qc2] at he;subst hn1;have hk:=Qm8 h.o id;have hkm:=St.kill_mentions ⟨base,nt,ts,gs,bs,fs⟩ id;obtain⟨ad,cap,h1,h2,h3⟩:=(hev.eq hsv).osl_inv;have hn:n=len:=by
    obtain⟨ad',c',h4⟩:=hS.hdr;rw[h1] at h4;cases h4;rfl
   subst hn;rcases Nat.lt_or_ge cap (n+m) with hgrow|hroom
   ·obtain⟨nc,C,g1,g2,g3,g4⟩:=QdK (P:=P) (ty:=ty) hu hu' hteok h1 hS hX hgrow hb;have hsn:=Qep (w:=w) hk hkm (fun _ h=>h.imp Qfx fun h=>h) (fun _ ho=>Qdb h ho) (n:=n+m) (sz:=sz) (cap:=nc) (row:=rw1) (C:=C) (e:=e) (.inr rfl) (by rw[g2];exact Nat.le_refl _) g3 fun q hq=>by rw[hrw1 q hq];exact g4 q hq
    exact fin g1 hsn.1 hsn.2 he
   ·rcases h3 with ⟨h3,h4⟩|⟨h3,h4,h5,h6⟩
    ·have hm0:m=0:=by omega
     subst hm0 h3 h4;obtain⟨f,f1,_,_⟩:=hX.cells;have hf:=f1 w rfl;have g1:=QdJ (P:=P) (w:=w) (ty:=ty) hu hu' hteok hxv (by simpa[flat] using hf) (base:=ad) (cap:=0);have hsn:=Qc4 (w:=w) hk hkm (fun _ h=>h.imp Qfx fun h=>h) (sz:=sz) (row:=rw1) (e:=e) ad;exact fin (by rw[h1];exact g1) hsn.1 hsn.2 he
    ·obtain⟨t0,n0,row0,hlk⟩:∃t0 n0 row0,Qh bs id=some (.arr t0 sz n0 row0):=by
      rw[hsv] at hcs;simp only[J7] at hcs;split at hcs
      ·rename_i t1 s1 n1 row1 hlk;split at hcs
       ·rename_i hbq;exact⟨t1,n1,row1,by rw[←Nat.eq_of_beq_eq_true hbq];exact hlk⟩
       ·cases hcs
      ·cases hcs
     cases h.blks id _ hlk with
     |arr0 g=>rw[g] at h3;cases h3
     |arr C et0 g1 g2 g3 g4 g5 g6 g7 g8=>
     obtain⟨f,f1,f2,f3⟩:=hX.cells;have hge:=h.ge id _ hlk h3;have hmul:(off+(n+m))*sz≤(ρ id).cap*sz:=Nat.mul_le_mul_right _ (by omega);rw[Nat.add_mul,Nat.add_mul] at hmul;subst h5;rw[g2] at h1;have hrm:=QdI (P:=P) (w:=w) (ty:=ty) (te:=⟨kk,sz,byt,zz,qq⟩) hu hu' hteok (n:=n) (cap:=cap) hxv g6 (o:=(ρ id).o+off*sz) (news:=flat m sz f) (f1 w rfl)
      (fun u hu=>by
       obtain⟨j,hj,rfl⟩:=List.mem_iff_getElem.1 hu;rw[ZT] at hj;have hsz:0<sz:=by
        rcases Nat.eq_zero_or_pos sz with h|h
        ·rw[h,Nat.mul_zero] at hj;omega
        ·exact h
       have hi:j/sz<m:=Nat.div_lt_of_lt_mul (by rw[Nat.mul_comm];exact hj);have hj2:j%sz<sz:=Nat.mod_lt _ hsz;have e0:=QeK (f:=f) hi hj2;rw[Nat.div_add_mod' j sz] at e0;rw[(List.getElem?_eq_some_iff.1 e0).2];exact f3 _ _ hi hj2) hroom (by rw[ZT];dsimp only;omega)
     dsimp only at hrm;have hfit:(ρ id).o+off*sz+n*sz+(flat m sz f).length≤C.toList.length:=by rw[ZT];simp;omega
     have hnown:¬own (Qcn id bs) ρ (ρ id).b:=by
      rintro⟨i,k,hk,hp,hbi⟩;obtain⟨hne,k0,hk0,_⟩:=Qbj hk;exact hne (h.sep i id _ _ hk0 hlk hp h3 hbi)
     have hsn:=Qfv (loc:=⟨(ρ id).b,(ρ id).o+off*sz,sz,n+m,cap,false⟩) (blk:=.arr e sz (n+m) rw1)
      (w':=w.setRow (ρ id).b (C.toList.take ((ρ id).o+off*sz+n*sz)++flat m sz f++C.toList.drop ((ρ id).o+off*sz+n*sz+(flat m sz f).length)).toArray) hk hkm (fun _ h=>h.imp Qfx fun h=>h) (by simp)
      (fun b hb0 hb1=>setRow_other w _ b _ fun e=>by
       subst e;rcases hb1 with hb1|hb1
       ·exact hb1 (.inl ⟨id,_,hlk,h3,rfl⟩)
       ·exact hnown hb1)
      (fun b hb0=>setRow_other w _ b _ (fun e=>hge.blk (e▸hb0))) (fun b k hc=>by
       by_cases e:b=(ρ id).b
       ·subst e;have:=(hge.cel k hc).1
        cases this
       ·exact World.cell?_of_block (setRow_other w _ b _ e)) (fun _=>.inr ⟨.inl ⟨id,_,hlk,h3,rfl⟩,hnown⟩)
      (fun _=>⟨hge.blk,fun k hc=>by have:=(hge.cel k hc).1;cases this⟩) rfl rfl rfl fun keep=>by
       have hsz':=Qba C.toList (flat m sz f) ((ρ id).o+off*sz+n*sz) hfit;refine .arr _ et0 (by simp[Env.set]) (by simp[Env.set]) (by simp[Env.set]) (by simpa[Env.set] using hroom) (fun i hi=>?_) (by simp only[Env.set,if_true];exact setRow_heap w _ C _ et0 _ g6) ?_ fun i j d hi hd=>?_
       ·rw[hrw1 i hi];simp only[QdY]
        by_cases hin:i<n
        ·rw[if_pos hin];exact hS.rows i hin
        ·rw[if_neg hin];exact hX.rows _ (by omega)
       ·rw[hsz'];simp only[Env.set,if_true];have:off*sz+cap*sz=(ρ id).cap*sz:=by rw[←Nat.add_mul];congr 1;omega
        simp;omega
       ·rw[Qbk _ _ _ _ hfit];have hfl:(flat m sz f).length=m*sz:=ZT;simp only[Env.set,if_true];rw[hrw1 i hi] at hd;simp only[QdY] at hd
        by_cases hin:i<n
        ·rw[if_pos hin] at hd;have hj:j<sz:=by have:=(List.getElem?_eq_some_iff.1 hd).1;have:=hS.rows i hin;omega
         have hm3:(i+1)*sz≤n*sz:=Nat.mul_le_mul_right _ (by omega);rw[Nat.add_mul] at hm3;rw[if_neg (by omega)];obtain⟨f0,_,h02,_⟩:=hS.cells;have hrow:∃row0,r=ZA off row0∧Qh bs id=some (.arr t0 sz n0 row0):=by
          rw[hsv] at hcs;simp only[J7,hlk] at hcs;split at hcs
          ·simp only[Option.some.injEq,Prod.mk.injEq] at hcs;exact⟨_,hcs.2.symm,hlk⟩
          ·cases hcs
         obtain⟨row1,hr1,hr2⟩:=hrow;rw[hlk] at hr2
         cases hr2
         have hview:ZA off row0 i=row0 (off+i):=by cases off<;>simp[ZA]
         rw[hr1,hview] at hd;have:=(g8 (off+i) j d (by omega) hd).keep keep;rw[show(ρ id).o+off*sz+i*sz+j=(ρ id).o+(off+i)*sz+j by rw[Nat.add_mul];omega];simpa using this
        ·rw[if_neg hin] at hd;have hj:j<sz:=by have:=(List.getElem?_eq_some_iff.1 hd).1;have:=hX.rows (i-n) (by omega);omega
         have hm3:n*sz≤i*sz:=Nat.mul_le_mul_right _ (by omega);have hm4:(i+1)*sz≤(n+m)*sz:=Nat.mul_le_mul_right _ (by omega);rw[Nat.add_mul,Nat.add_mul] at hm4;rw[if_pos (by omega)];have e4:(ρ id).o+off*sz+i*sz+j-((ρ id).o+off*sz+n*sz)=(i-n)*sz+j:=by rw[Nat.sub_mul];omega
         rw[e4,List.getD_eq_getElem?_getD,QeK (n:=m) (by omega) hj];exact(f2 (i-n) j d (by omega) hd).keep keep
     refine fin (by rw[h1];exact hrm) hsn ?_ he;have e1:(Value.slice (some ⟨(ρ id).b,(ρ id).o+off*sz,none⟩) (n+m) cap)=.slice (some ⟨((ρ.set id ⟨(ρ id).b,(ρ id).o+off*sz,sz,n+m,cap,false⟩) id).b,((ρ.set id ⟨(ρ id).b,(ρ id).o+off*sz,sz,n+m,cap,false⟩) id).o+0*((ρ.set id ⟨(ρ id).b,(ρ id).o+off*sz,sz,n+m,cap,false⟩) id).sz,none⟩) (n+m) (((ρ.set id ⟨(ρ id).b,(ρ id).o+off*sz,sz,n+m,cap,false⟩) id).cap-0):=by
      simp[Env.set]
     rw[e1];exact .osl (by simp[Env.set]) (by simp[Env.set]) (by simpa[Env.set] using hroom)
  ·rename_i hsv;obtain⟨ad0,h1⟩:∃ad,a.eval s=.slice ad 0 0:=by
    have:=hev.eq hsv
    cases this with|d this=>generalize a.eval s=y at*;cases this;exact⟨_,rfl⟩
   have hn:n=0:=by
    obtain⟨ad',c',h4⟩:=hS.hdr;rw[h1] at h4;cases h4;rfl
   subst hn;split at he
   ·exact he.no.elim
   ·rename_i hm;obtain⟨hb,n1,rw1,hn1,hrw1,he⟩:=he;rw[hn1] at hrw1 he;rcases Nat.eq_zero_or_pos m with hm0|hm0
    ·subst hm0;obtain⟨f,f1,_,_⟩:=hX.cells;have hf:=f1 w rfl;have g1:=QdJ (P:=P) (w:=w) (ty:=ty) hu hu' hteok hxv (by simpa[flat] using hf) (base:=ad0) (cap:=0);have hsn:=Qc4 (w:=w) h.o hm (fun _ h=>h) (sz:=sz) (row:=rw1) (e:=e) ad0;exact fin (by rw[h1];exact g1) hsn.1 hsn.2 he
    ·obtain⟨nc,C,g1,g2,g3,g4⟩:=QdK (P:=P) (ty:=ty) hu hu' hteok h1 hS hX (by omega) hb;rw[Nat.zero_add] at g1 g3;have hsn:=Qep (w:=w) h.o hm (fun _ h=>h) (fun _ ho=>Qdb h ho) (n:=m) (sz:=sz) (cap:=nc) (row:=rw1) (C:=C) (e:=e) (.inr rfl) (by rw[g2];exact Nat.le_refl _) g3 fun i hi=>by
      rw[hrw1 i hi];have:=g4 i (by omega);simpa[QdY] using this
     exact fin g1 hsn.1 hsn.2 he
  ·exact he.no.elim
end Go.Ab
namespace Go.Ab
open Go.RowKit
variable {P:Program} {tb:Tb} {w:World} {ow ow':Nat→Prop} {ρ:Env} {a:Act} {B:Bd} {w0:World} {F:List (Array Value)} {S:St}
theorem Zr (off:Nat) (row:Nat→List D) (i:Nat):ZA off row i=row (off+i):=by cases off<;>simp[ZA]
def Qvi:Option Blk→Option (Nat→List D)
 |some (.arr _ _ _ row)=>some row
 |some (.box t cs)=>(match bcl t,Qqb cs with
  |n+1,some ds=>some (Qm5 (cs.length/(n+1)) ds)
  |0,some ds=>some fun _=>ds
  |_,none=>none)
 |none=>none
structure FR (w:World) (ow:Nat→Prop) (l:Loc) (row:Nat→List D):Prop where
 cells:l.ph=false→∃C et,w.heap[l.b]? =some (.cells C et (0,0))∧(∀i,i<l.n→(row i).length=l.sz)∧∀i j d,i<l.n→(row i)[j]? =some d→l.o+i*l.sz+j<C.size∧DR w ow d (C.getD (l.o+i*l.sz+j) undef)
theorem Qqh {id:Nat} {b:Blk} {row:Nat→List D} (hb:BR w ow ρ id b) (h:Qvi (some b)=some row):FR w ow (ρ id) row:=by
 cases hb with
 |arr0 k1=>exact⟨fun h0=>by rw[k1] at h0;cases h0⟩
 | @arr t sz n row0 C et k1 k2 k3 k4 k5 k6 k7 k8=>
  simp only[Qvi,Option.some.injEq] at h;subst h;refine⟨fun _=>⟨C,et,k6,fun i hi=>by rw[k2];exact k5 i (by omega),fun i j d hi hd=>?_⟩⟩;have hj:j<sz:=by
   have:=k5 i (by omega);have:=(List.getElem?_eq_some_iff.1 hd).1;omega
  have hm:(i+1)*sz≤(ρ id).cap*sz:=Nat.mul_le_mul_right _ (by omega);rw[Nat.add_mul] at hm;rw[k2];exact⟨by omega,k8 i j d (by omega) hd⟩
 | @box t cs C et k1 k2 k3 k4 k5 k6 k7 k8=>
  simp only[Qvi] at h;split at h
  ·rename_i n ds hn hds;simp only[Option.some.injEq] at h;subst h;obtain⟨e1,e2⟩:=QfU hds;rw[hn] at k4;have en:(ρ id).n=n+1:=by rw[k4.1];omega
   have esz:cs.length/(n+1)=(ρ id).sz:=by rw[k3,en,Nat.mul_comm,Nat.mul_div_cancel _ (by omega)]
   rw[esz];have hmul:∀i,i<(ρ id).n→(i+1)*(ρ id).sz≤(ρ id).n*(ρ id).sz:=fun i hi=>Nat.mul_le_mul_right _ (by omega);refine⟨fun _=>⟨C,et,k5,fun i hi=>?_,fun i j d hi hd=>?_⟩⟩
   ·have:=hmul i hi;rw[Nat.add_mul] at this;simp[Qm5];omega
   ·have hm:=hmul i hi;rw[Nat.add_mul] at hm;simp only[Qm5,List.getElem?_take,List.getElem?_drop] at hd;split at hd
    ·rename_i hj;have h1:=e2 _ _ hd;have hlt:=(List.getElem?_eq_some_iff.1 h1).1;have h2:=k8 _ _ h1;rw[Nat.add_assoc];refine⟨by omega,?_⟩
     cases h2 with|d h2=>exact h2
    ·cases hd
  ·rename_i ds hn hds;simp only[Option.some.injEq] at h;subst h;obtain⟨e1,e2⟩:=QfU hds;rw[hn] at k4;have en:(ρ id).n=1:=by rw[k4.1];rfl
   have esz:cs.length=(ρ id).sz:=by rw[k3,en];omega
   refine⟨fun _=>⟨C,et,k5,fun i hi=>by rw[e1,esz],fun i j d hi hd=>?_⟩⟩;have hi0:i=0:=by omega
   subst hi0;have h1:=e2 _ _ hd;have hlt:=(List.getElem?_eq_some_iff.1 h1).1;have h2:=k8 _ _ h1;rw[Nat.zero_mul,Nat.add_zero];refine⟨by omega,?_⟩
   cases h2 with|d h2=>exact h2
  ·cases h
mutual
def V.frz (id:Nat) (row:Nat→List D):V→V
 | .ref i r o=>match Nat.beq i id with
  |true=>.rp ((row r).drop o)
  |false=>.ref i r o
 | .osl i o l=>match Nat.beq i id with
  |true=>.d (.sl l (ZA o row))
  |false=>.osl i o l
 | .agg vs=>.agg (Qrc id row vs)
 | .tup vs=>.tup (Qrc id row vs)
 | .fn f vs=>.fn f (Qrc id row vs)
 | .any=>.any
 | .d x=>.d x
 | .rp cs=>.rp cs
def Qrc (id:Nat) (row:Nat→List D):List V→List V
 |[]=>[]
 |v::r=>v.frz id row::Qrc id row r
end
def Qwq (id:Nat) (row:Nat→List D) (ts:List (Nat×V)):List (Nat×V):=ts.map fun p=>(p.1,p.2.frz id row)
def Qwr (id:Nat) (row:Nat→List D) (gs:List Gd):List Gd:=gs.map fun g=>⟨g.t,g.key,g.want,g.v.frz id row⟩
def Blk.frz (id:Nat) (row:Nat→List D):Blk→Blk
 | .box t cs=>.box t (Qrc id row cs)
 | .arr t sz n r=>.arr t sz n r
theorem Blk.frz_bx (id:Nat) (row:Nat→List D) (b:Blk):(b.frz id row).bx=b.bx:=by cases b<;>rfl
def Qrd (id:Nat) (row:Nat→List D):List (Nat×Blk)→List (Nat×Blk)
 |[]=>[]
 |(i,b)::r=>match Nat.beq i id with
  |true=>Qrd id row r
  |false=>(i,b.frz id row)::Qrd id row r
def Qws (id:Nat) (row:Nat→List D) (fs:List Fr):List Fr:=fs.map fun f=>⟨Qwq id row f.tmps,Qwr id row f.gds⟩
def St.frz (S:St) (id:Nat) (row:Nat→List D):St:=match S with
 |⟨base,nt,ts,gs,bs,fs⟩=>⟨base,nt,Qwq id row ts,Qwr id row gs,Qrd id row bs,Qws id row fs⟩
theorem QfV {id:Nat} {row:Nat→List D}:∀(vs:List V) (j:Nat),(Qrc id row vs)[j]? =(vs[j]?).map (V.frz id row)
 |[],j=>by simp[Qrc]
 |v::r,0=>by simp[Qrc]
 |v::r,j+1=>by simpa[Qrc] using QfV r j
theorem Qbb {id:Nat} {row:Nat→List D}:∀(vs:List V),(Qrc id row vs).length=vs.length
 |[]=>rfl
 |v::r=>by simp[Qrc,Qbb r]
theorem Qhh (hs:∀b,ow' b→ow b):Keep w ow w ow':=⟨Nat.le_refl _,fun b _ ho=>⟨rfl,fun h=>ho (hs b h)⟩⟩
theorem VR.frz {v:V} {x:Value} {id:Nat} {row:Nat→List D} (h:VR w ow ρ v x) (hb:FR w ow (ρ id) row) (hs:∀b,ow' b→ow b) (hn:(ρ id).ph=false→¬ow' (ρ id).b):VR w ow' ρ (v.frz id row) x:=by
 induction h with
 |any=>exact .any
 |d h=>exact .d (h.keep (Qhh hs))
 |ref h1 h2=>
  rename_i i r off;simp only[V.frz];split
  ·rename_i hi;have:=Nat.eq_of_beq_eq_true hi;subst this;obtain⟨C,et,k6,k5,k8⟩:=hb.cells h1;have hd0:∀ {j:Nat} {d:D},((row r).drop off)[j]? =some d→(row r)[off+j]? =some d:=fun {j d} h=>by rwa[List.getElem?_drop] at h
   refine .rp (fun j=>C.getD ((ρ i).o+r*(ρ i).sz+off+j) undef) (hn h1) ((Array.getElem?_eq_some_iff.1 k6).1) (fun j d hd=>?_) fun j d hd=>?_
   ·have:=(k8 r (off+j) d h2 (hd0 hd)).1;exact QbJ k6 (by omega)
   ·have:=(k8 r (off+j) d h2 (hd0 hd)).2;rw[←Nat.add_assoc] at this;exact this.keep (Qhh hs)
  ·exact .ref h1 h2
 |osl0 h0 h1=>
  simp only[V.frz];split
  ·exact .d (.sl0 h0)
  ·exact .osl0 h0 h1
 |osl h1 h2 h3=>
  rename_i i off len;simp only[V.frz];split
  ·rename_i hi;have:=Nat.eq_of_beq_eq_true hi;subst this;obtain⟨C,et,k6,k5,k8⟩:=hb.cells h1;refine .d (.sl (sz:=(ρ i).sz) (fun q j=>C.getD ((ρ i).o+off*(ρ i).sz+q*(ρ i).sz+j) undef) (hn h1) ?_ (fun q hq=>?_) (fun q j d hq hd=>?_) (fun q j d hq hd=>?_) (by omega))
   ·exact(Array.getElem?_eq_some_iff.1 k6).1
   ·rw[Zr];exact k5 _ (by omega)
   ·rw[Zr] at hd;have:=(k8 (off+q) j d (by omega) hd).1;rw[Nat.add_mul] at this;exact QbJ k6 (by omega)
   ·rw[Zr] at hd;have:=(k8 (off+q) j d (by omega) hd).2;have e:(ρ i).o+(off+q)*(ρ i).sz+j=(ρ i).o+off*(ρ i).sz+q*(ρ i).sz+j:=by rw[Nat.add_mul];omega
    rw[←e];exact this.keep (Qhh hs)
  ·exact .osl h1 h2 h3
 |rp vals ho hb hc hd=>exact .rp vals (fun h=>ho (hs _ h)) hb hc fun j d hj=>(hd j d hj).keep (Qhh hs)
 |agg hs' h1 hv ih=>
  refine .agg (by rw[Qbb];exact hs') h1 fun j v hj=>?_;rw[QfV] at hj;obtain⟨v',hv',rfl⟩:=Option.map_eq_some_iff.1 hj;exact ih j v' hv'
 |tup hs' hv ih=>
  refine .tup (by rw[Qbb];exact hs') fun j v hj=>?_;rw[QfV] at hj;obtain⟨v',hv',rfl⟩:=Option.map_eq_some_iff.1 hj;exact ih j v' hv'
 |fn hs' hv ih=>
  refine .fn (by rw[Qbb];exact hs') fun j v hj=>?_;rw[QfV] at hj;obtain⟨v',hv',rfl⟩:=Option.map_eq_some_iff.1 hj;exact ih j v' hv'
theorem Qc5 {id:Nat} {row:Nat→List D}:∀ {bs:List (Nat×Blk)} {i:Nat} {b:Blk},Qh (Qrd id row bs) i=some b→i≠id∧∃b0,Qh bs i=some b0∧b=b0.frz id row
 |(u,x)::r,i,b,h=>by
  simp only[Qrd] at h;split at h
  ·rename_i hb;have:=Nat.eq_of_beq_eq_true hb;subst this;obtain⟨h1,b0,h2,h3⟩:=Qc5 h;exact⟨h1,b0,by rw[QI (Ne.symm h1)];exact h2,h3⟩
  ·rename_i hb;rcases QT h with ⟨rfl,rfl⟩|⟨hn,h⟩
   ·exact⟨fun e=>by subst e;simp at hb,x,Zk,rfl⟩
   ·obtain⟨h1,b0,h2,h3⟩:=Qc5 h;exact⟨h1,b0,by rw[QI hn];exact h2,h3⟩
 |[],_,_,h=>by simp[Qrd,Qh] at h
theorem FrR.frz {f:Fr} {tm:Array Value} {id:Nat} {row:Nat→List D} (h:FrR w ow ρ f tm) (hb:FR w ow (ρ id) row) (hs:∀b,ow' b→ow b) (hn:(ρ id).ph=false→¬ow' (ρ id).b):
  FrR w ow' ρ ⟨Qwq id row f.tmps,Qwr id row f.gds⟩ tm:=by
 refine⟨fun u v hv=>?_,fun g hg=>?_⟩
 ·have hv:Qh (f.tmps.map fun p=>(p.1,p.2.frz id row)) u=some v:=hv;rw[Qi8] at hv;obtain⟨v',hv',rfl⟩:=Option.map_eq_some_iff.1 hv;exact(h.tmps u v' hv').frz hb hs hn
 ·obtain⟨g0,hg0,rfl⟩:=List.mem_map.1 hg;rcases(h.gds g0 hg0).h with h1|h1
  ·exact⟨.inl ⟨h1.1,h1.2.frz hb hs hn⟩⟩
  ·exact⟨.inr h1⟩
theorem Sim.frz {id:Nat} {row:Nat→List D} (h:Sim P B w0 F ρ S a w) (hrow:Qvi (Qh S.blks id)=some row):
  Sim P B w0 F ρ (S.frz id row) a w∧∀v x,VR w (ZM B S.blks ρ) ρ v x→VR w (ZM B (S.frz id row).blks ρ) ρ (v.frz id row) x:=by
 obtain⟨base,nt,ts,gs,bs,fs⟩:=S;simp only[St.frz];dsimp only at hrow;obtain⟨blk0,hb⟩:∃b,Qh bs id=some b:=by
  cases hl:Qh bs id with
  |none=>rw[hl] at hrow;cases hrow
  |some b=>exact⟨b,rfl⟩
 rw[hb] at hrow;have hbr:=Qqh (h.blks id _ hb) hrow;have hsub:∀b,ZM B (Qrd id row bs) ρ b→ZM B bs ρ b:=by
  rintro b (⟨i,k,hk,hp,rfl⟩|hf)
  ·obtain⟨_,k0,hk0,_⟩:=Qc5 hk;exact .inl ⟨i,k0,hk0,hp,rfl⟩
  ·exact .inr hf
 have hno:(ρ id).ph=false→¬ZM B (Qrd id row bs) ρ (ρ id).b:=by
  rintro hp (⟨i,k,hk,hpi,e⟩|hf)
  ·obtain⟨hne,k0,hk0,_⟩:=Qc5 hk;exact hne (h.sep i id k0 _ hk0 hb hpi hp e)
  ·exact(h.ge id _ hb hp).blk (B.sub _ hf)
 have hv:∀v x,VR w (ZM B bs ρ) ρ v x→VR w (ZM B (Qrd id row bs) ρ) ρ (v.frz id row) x:=fun v x hx=>hx.frz hbr hsub hno;refine⟨⟨h.below,h.tab,h.hB,h.defers,h.nt,h.top.frz hbr hsub hno,fun i b hb'=>?_,fun i j x y hx hy=>?_,fun i x hx=>?_,by simpa[Qws] using h.frames.1,fun i f tm hf ht=>?_⟩,hv⟩
 ·obtain⟨_,b0,hb0,rfl⟩:=Qc5 hb';have h1:=h.blks i b0 hb0
  cases h1 with
  |box C k1 k2 k3 k4 k5 k6 k7 k8=>
   refine .box C k1 k2 (by rw[Qbb];exact k3) k4 k5 (by rw[Qbb];exact k6) (by rw[Qbb];exact k7) fun j v hj=>?_;rw[QfV] at hj;obtain⟨v',hv',rfl⟩:=Option.map_eq_some_iff.1 hj;exact hv _ _ (k8 j v' hv')
  |arr0 k1 k2 k3 k4=>exact .arr0 k1 k2 k3 k4
  |arr C et k1 k2 k3 k4 k5 k6 k7 k8=>exact .arr C et k1 k2 k3 k4 k5 k6 k7 fun i j d hi hd=>(k8 i j d hi hd).keep (Qhh hsub)
 ·obtain⟨_,x0,hx0,_⟩:=Qc5 hx;obtain⟨_,y0,hy0,_⟩:=Qc5 hy;exact h.sep i j x0 y0 hx0 hy0
 ·obtain⟨_,x0,hx0,rfl⟩:=Qc5 hx;rw[Blk.frz_bx];exact h.ge i x0 hx0
 ·simp only[Qws,List.getElem?_map] at hf;obtain⟨f0,hf0,rfl⟩:=Option.map_eq_some_iff.1 hf;exact(h.frames.2 i f0 tm hf0 ht).frz hbr hsub hno
mutual
def V.ids:V→List Nat
 | .osl i _ _=>[i]
 | .agg vs=>Qxm vs
 |_=>[]
def Qxm:List V→List Nat
 |[]=>[]
 |v::r=>match v.ids with
  |[]=>Qxm r
  |l=>l++Qxm r
end
def Qlh:List Nat→St→(St→Prop)→Prop
 |[],S,K=>K S
 |id::r,⟨base,nt,ts,gs,bs,fs⟩,K=>match Qh bs id with
  |some (.arr _ _ _ row)=>Qen (Qwq id row ts) fun ts=>Qe6 (Qwr id row gs) fun gs=>QaC (Qrd id row bs) fun bs=>Qhe (Qws id row fs) fun fs=>Qlh r ⟨base,nt,ts,gs,bs,fs⟩ K
  |_=>Qlh r ⟨base,nt,ts,gs,bs,fs⟩ K
theorem Qd2 {K:St→Prop}:∀ {l:List Nat} {S:St},Sim P B w0 F ρ S a w→Qlh l S K→∃S',Sim P B w0 F ρ S' a w∧K S'
 |[],S,h,hk=>⟨S,h,hk⟩
 |id::r,⟨base,nt,ts,gs,bs,fs⟩,h,hk=>by
  simp only[Qlh] at hk;split at hk
  ·rename_i row hb;rw[QaP,Qbv,ZD,Qc2] at hk;exact Qd2 (h.frz (show Qvi (Qh bs id)=some row by rw[hb];rfl)).1 hk
  ·exact Qd2 h hk
def QwL (op:Op) (S:St):List Nat:=match op with
 | .store _ a x=>(match S.ev [] a with
  | .ref id _ _=>(match Qh S.blks id with
   |some (.arr ..)=>(S.ev [] x).ids
   |_=>[])
  |_=>[])
 | .buildSlice _ _ parts=>Qxm (parts.toList.map fun p=>S.ev [] p.2)
 |_=>[]
def evF (tb:Tb) (dst:Option Nat) (op:Op) (S:St) (K:V→St→Prop):Prop:=match op with
 | .store t a x=>Qlh (QwL (.store t a x) S) S fun S=>evE tb dst (.store t a x) S K
 | .buildSlice t len parts=>Qlh (QwL (.buildSlice t len parts) S) S fun S=>evE tb dst (.buildSlice t len parts) S K
 |op=>evE tb dst op S K
theorem Qry (hT:TOk P tb) {K:V→St→Prop} (h:Sim P B w0 F ρ S a w) (o:Oper) (he:evF tb o.dst o.op S K):Eff P B w0 F a w (execOp a.eval o) K:=by
 unfold evF at he;split at he
 ·rename_i t x y hop;obtain⟨S',h1,h2⟩:=Qd2 h he;rw[←hop] at h2;exact QdL hT h1 o h2
 ·rename_i t len parts hop;obtain⟨S',h1,h2⟩:=Qd2 h he;rw[←hop] at h2;exact QdL hT h1 o h2
 ·exact QdL hT h o he
end Go.Ab
namespace Go.Ab
open Go.RowKit
def QgA (w:World) (ow:Nat→Prop) (ρ:Env) (vs:List V) (vals:Array Value):Prop:=
 vals.size=vs.length∧∀j v,vs[j]? =some v→VR w ow ρ v (vals.getD j undef)
structure Callable (P:Program) (f:FuncId):Prop where
 out : ∃ fn, P.funcs[f]? = some fn ∧ (fn.name == "runtime.NumGoroutine") = false ∧ fn.body.isNone = false
structure CallP (P:Program) (f:FuncId) (args:List V) (S:St) (K:V→St→Prop):Prop where
 can:Callable P f
 out:∀B w0 F ρ a w vals,Sim P B w0 F ρ S a w→QgA w (ZM B S.blks ρ) ρ args vals→
  Calls P f vals w fun e w'=>∃v ρ' x S',e=.returned v∧Sim P B w0 F ρ' S' a w'∧VR w' (ZM B S'.blks ρ') ρ' x v∧K x S'
structure CallG (P:Program) (sc scN:Prop→Prop) (f:FuncId) (args:List V) (S:St) (K:V→St→Prop):Prop where
 can:Callable P f
 out:∃x S',K x S'∧sc (∀B w0 F ρ a w vals,Sim P B w0 F ρ S a w→QgA w (ZM B S.blks ρ) ρ args vals→
  Calls P f vals w fun e w'=>∃v ρ',e=.returned v∧Sim P B w0 F ρ' S' a w'∧VR w' (ZM B S'.blks ρ') ρ' x v)∧
  scN (∀B w0 F ρ a w,Sim P B w0 F ρ S a w→∃ρ',Sim P B w0 F ρ' S' a w)
def WP (P:Program) (c:Code) (S:St) (Q:Exit→St→Prop):Prop:=
 ∀B w0 F ρ a w,Sim P B w0 F ρ S a w→c.wp P (fun e a' w'=>∃ρ' S',Sim P B w0 F ρ' S' a' w'∧Q e S') a w
def isJ:Code→Bool
 | .cond ..=>true
 | .block ..=>true
 | .seq x y=>match isJ x with
  |true=>true
  |false=>isJ y
 |_=>false
structure SeqP (P:Program) (x y:Code) (S:St) (Q:Exit→St→Prop):Prop where
 out:WP P (.seq x y) S Q
structure LoopP (P:Program) (c:Code) (S:St) (Q:Exit→St→Prop):Prop where
 out:WP P (.loop c) S Q
structure DrawP (P:Program) (id:Nat) (ops:Array Oper) (S:St) (K:St→Prop):Prop where
 out:WP P (.region id ops true) S fun e S'=>e=.normal∧K S'
def isE:Op→Bool
 | .store ..=>true
 | .alloc _=>true
 | .box ..=>true
 | .makeSlice ..=>true
 | .buildSlice _ len _=>!Nat.beq len 0
 | .call c=>(match c.callee with
  | .builtin .append=>true
  | .builtin .clear=>true
  |_=>false)
 |_=>false
def Qm9 (t:Nat):List Gd→Bool
 |[]=>true
 |g::r=>match Nat.beq g.t t,Nat.beq g.key t with
  |false,false=>Qm9 t r
  |_,_=>false
def St.put (S:St) (dst:Option Nat) (v:V) (K:St→Prop):Prop:=match S,dst with
 |⟨base,nt,ts,gs,bs,fs⟩,none=>K ⟨base,nt,ts,gs,bs,fs⟩
 |⟨base,nt,ts,gs,bs,fs⟩,some t=>match Qm9 t gs,Nat.blt t nt with
  |true,true=>K ⟨base,nt,(t,v)::ts,gs,bs,fs⟩
  | _, _ => Stuck "put"
def St.putG (S:St) (dst:Option Nat) (key:Nat) (want:Bool) (v:V) (K:St→Prop):Prop:=match S,dst with
 |⟨base,nt,ts,gs,bs,fs⟩,none=>K ⟨base,nt,ts,gs,bs,fs⟩
 |⟨base,nt,ts,gs,bs,fs⟩,some t=>match Qm9 t gs,Nat.blt t nt,Nat.beq key t with
  |true,true,false=>K ⟨base,nt,(t,.any)::ts,⟨t,key,want,v⟩::gs,bs,fs⟩
  | _, _, _ => Stuck "putG"
def closure (gs:List Gd):Nat→Nat→Bool→List (Nat×Bool)
 |0,k,w=>[(k,w)]
 |n+1,k,w=>(k,w)::match Qgw gs k with
  |some g=>closure gs n g.key g.want
  |none=>[]
def Qa1 (S:St) (al:List (Nat×Bool)):List (Nat×Bool)→Prop→Prop
 |[],p=>p
 |(k,w)::r,p=>match S.ev al (.tmp k) with
  | .d (.bool b)=>(b=w→Qa1 S al r p)
  |_=>Qa1 S al r p
def QhT (S:St) (key:Nat) (want:Bool) (p:Prop):Prop:=match S.ev [] (.tmp key) with
 | .d (.bool b)=>b=(!want)→p
 |_=>p
theorem Qtk {S:St} {key:Nat} {want:Bool} {p:Prop} (h:p):QhT S key want p:=by
 unfold QhT;split
 ·exact fun _=>h
 ·exact h
def Qfy (S:St) (key:Nat) (want:Bool) (p:Prop):Prop:=match Qgw S.gds key with
 |none=>QhT S key want p
 |some g=>(match S.ev [] (.tmp g.key),g.v with
  | .d (.bool b0),.d (.bool b)=>(b0=g.want→b=(!want)→p)∧(b0=(!g.want)→p)
  |_,_=>p)
theorem Qpb {S:St} {key:Nat} {want:Bool} {p:Prop} (h:p):Qfy S key want p:=by
 unfold Qfy;split
 ·exact Qtk h
 ·split
  ·exact⟨fun _ _=>h,fun _=>h⟩
  ·exact h
theorem Qqi {S:St} {key:Nat} {want:Bool} {p q:Prop} (hpq:p→q) (hp:Qfy S key want p):Qfy S key want q:=by
 unfold Qfy QhT at hp⊢;split
 ·rename_i hg;rw[hg] at hp;dsimp only at hp;split
  ·rename_i hb;rw[hb] at hp;exact fun e=>hpq (hp e)
  ·rename_i hno;split at hp
   ·rename_i b hb;exact absurd hb (hno b)
   ·exact hpq hp
 ·rename_i g hg;rw[hg] at hp;dsimp only at hp;split
  ·rename_i b0 b h1 h2;rw[h1,h2] at hp;exact⟨fun e1 e2=>hpq (hp.1 e1 e2),fun e=>hpq (hp.2 e)⟩
  ·rename_i hno;split at hp
   ·rename_i b0 b h1 h2;exact absurd h2 (hno b0 b h1)
   ·exact hpq hp
noncomputable def Qeb (P:Program) (tb:Tb) (ops:List Oper) (l:List Oper):St→(St→Prop)→Prop:=List.rec (motive:=fun _=>St→(St→Prop)→Prop) (fun S K=>K S) (fun o _ ih S K=>match o.guard with
  |none=>(match isE o.op with
   |true=>evF tb o.dst o.op S fun v S=>S.put o.dst v fun S=>ih S K
   |false=>(match o.op with
    | .call ⟨.value f,args,_⟩=>(match S.ev [] f with
     | .fn g cap=>Qap (args.toList.map (S.ev [])++cap) fun vs=>CallP P g vs S fun v S=>S.put o.dst v fun S=>ih S K
     | .d (.fn g caps)=>Qap (args.toList.map (S.ev [])) fun vs=>CallP P g (vs++caps.map .rp) S fun v S=>S.put o.dst v fun S=>ih S K
     | _ => Stuck "call no function")
    |op=>evP tb S.ev (Qh S.blks) id op fun v=>S.put o.dst v fun S=>ih S K))
  |some (j,want)=>(match ops[j]? with
   |some ⟨some key,_,_,_,_,_⟩=>(match o.op with
    | .call ⟨.value f,args,_⟩=>(match S.ev (closure S.gds 9 key want) f with
     | .fn g cap=>Qap (args.toList.map (S.ev (closure S.gds 9 key want))++cap) fun vs=>
       CallG P (Qa1 S (closure S.gds 9 key want) (closure S.gds 9 key want)) (Qfy S key want) g vs S fun v S=>S.putG o.dst key want v fun S=>ih S K
     | _ => Stuck "guarded call no function")
    |op=>evP tb (fun ex x=>S.ev (ex++closure S.gds 9 key want) x) (Qh S.blks) (Qa1 S (closure S.gds 9 key want) (closure S.gds 9 key want)) op fun v=>S.putG o.dst key want v fun S=>ih S K)
   | _ => Stuck "guard")) l
theorem Qqj {P:Program} {tb:Tb} {ops:List Oper} {o:Oper} {rest:List Oper} {S:St} {K:St→Prop}:Qeb P tb ops (o::rest) S K=match o.guard with
  |none=>(match isE o.op with
   |true=>evF tb o.dst o.op S fun v S=>S.put o.dst v fun S=>Qeb P tb ops rest S K
   |false=>(match o.op with
    | .call ⟨.value f,args,_⟩=>(match S.ev [] f with
     | .fn g cap=>Qap (args.toList.map (S.ev [])++cap) fun vs=>CallP P g vs S fun v S=>S.put o.dst v fun S=>Qeb P tb ops rest S K
     | .d (.fn g caps)=>Qap (args.toList.map (S.ev [])) fun vs=>CallP P g (vs++caps.map .rp) S fun v S=>S.put o.dst v fun S=>Qeb P tb ops rest S K
     | _ => Stuck "call no function")
    |op=>evP tb S.ev (Qh S.blks) id op fun v=>S.put o.dst v fun S=>Qeb P tb ops rest S K))
  |some (j,want)=>(match ops[j]? with
   |some ⟨some key,_,_,_,_,_⟩=>(match o.op with
    | .call ⟨.value f,args,_⟩=>(match S.ev (closure S.gds 9 key want) f with
     | .fn g cap=>Qap (args.toList.map (S.ev (closure S.gds 9 key want))++cap) fun vs=>
       CallG P (Qa1 S (closure S.gds 9 key want) (closure S.gds 9 key want)) (Qfy S key want) g vs S fun v S=>S.putG o.dst key want v fun S=>Qeb P tb ops rest S K
     | _ => Stuck "guarded call no function")
    |op=>evP tb (fun ex x=>S.ev (ex++closure S.gds 9 key want) x) (Qh S.blks) (Qa1 S (closure S.gds 9 key want) (closure S.gds 9 key want)) op fun v=>S.putG o.dst key want v fun S=>Qeb P tb ops rest S K)
   | _ => Stuck "guard") := rfl
def St.noGds (S:St) (K:St→Prop):Prop:=match S with
 |⟨base,nt,ts,_,bs,fs⟩=>K ⟨base,nt,ts,[],bs,fs⟩
noncomputable def wpc (P:Program) (tb:Tb) (c:Code):St→(Exit→St→Prop)→Prop:=Code.rec (motive:=fun _=>St→(Exit→St→Prop)→Prop)
 (fun S Q=>Q .normal S)
 (fun id ops draw S Q=>match draw with
  |false=>S.noGds fun S=>Qeb P tb ops.toList ops.toList S fun S=>S.noGds fun S=>Q .normal S
  |true=>S.noGds fun S=>DrawP P id ops S fun S=>Q .normal S)
 (fun x y iha ihb S Q=>match isJ x with
  |true=>SeqP P x y S Q
  |false=>iha S fun e S=>match e with
   | .normal=>ihb S Q
   |e=>Q e S)
 (fun c _ _ ihx ihy S Q=>match S.ev [] c with
  | .d (.bool b)=>(b=true→ihx S Q)∧(b=false→ihy S Q)
  | _ => Stuck "cond")
 (fun id _ ih S Q=>ih S fun e S=>match e with
  | .exit i=>(match Nat.beq i id with
   |true=>Q .normal S
   |false=>Q (.exit i) S)
  |e=>Q e S)
 (fun c _ S Q=>LoopP P c S Q)
 (fun _ _ _ _ _ _ _ _ => Stuck "code")
 (fun id S Q=>Q (.exit id) S)
 (fun _ _ _ _ => Stuck "code")
 (fun _ S Q=>Q .normal S)
 (fun _ _ _ => Stuck "code")
 (fun S Q=>Q .ret S)
 (fun _ _ _ => Stuck "code") c
theorem Qja {P:Program} {tb:Tb} {id:Nat} {ops:Array Oper} {S:St} {Q:Exit→St→Prop}:wpc P tb (.region id ops false) S Q=S.noGds fun S=>Qeb P tb ops.toList ops.toList S fun S=>S.noGds fun S=>Q .normal S:=rfl
theorem Qjb {P:Program} {tb:Tb} {id:Nat} {ops:Array Oper} {S:St} {Q:Exit→St→Prop}:wpc P tb (.region id ops true) S Q=S.noGds fun S=>DrawP P id ops S fun S=>Q .normal S:=rfl
theorem QjV {P:Program} {tb:Tb} {a b:Code} {S:St} {Q:Exit→St→Prop}:wpc P tb (.seq a b) S Q=match isJ a with
  |true=>SeqP P a b S Q
  |false=>wpc P tb a S fun e S=>match e with
   | .normal=>wpc P tb b S Q
   |e=>Q e S:=rfl
theorem Qjc {P:Program} {tb:Tb} {c:Operand} {x y:Code} {S:St} {Q:Exit→St→Prop}:wpc P tb (.cond c x y) S Q=match S.ev [] c with
  | .d (.bool b)=>(b=true→wpc P tb x S Q)∧(b=false→wpc P tb y S Q)
  | _ => Stuck "cond" := rfl
theorem Qhi {P:Program} {tb:Tb} {id:Nat} {c:Code} {S:St} {Q:Exit→St→Prop}:wpc P tb (.block id c) S Q=wpc P tb c S fun e S=>match e with
  | .exit i=>(match Nat.beq i id with
   |true=>Q .normal S
   |false=>Q (.exit i) S)
  |e=>Q e S:=rfl
variable {P:Program} {tb:Tb} {w:World} {ρ:Env} {a:Act} {B:Bd} {w0:World} {F:List (Array Value)} {S:St}
theorem QgB {t:Nat}:∀ {gs:List Gd},Qm9 t gs=true→∀g∈gs,g.t≠t∧g.key≠t
 |g::r,h,x,hx=>by
  simp only[Qm9] at h;split at h
  ·rename_i h1 h2;rcases List.mem_cons.1 hx with hx|hx
   ·subst hx;exact⟨fun e=>by subst e;simp at h1,fun e=>by rw[e] at h2;simp at h2⟩
   ·exact QgB h x hx
  ·cases h
 |[],_,_,hx=>by simp at hx
theorem Qhj {a:Act} {t u:Nat} {v:Value}:(a.put (some t) v).tmps.getD u undef=if u=t∧t<a.tmps.size then v else a.tmps.getD u undef:=by
 simp only[Act.put,Array.getD_eq_getD_getElem?,Array.getElem?_setIfInBounds]
 by_cases h:t=u
 ·subst h
  by_cases hl:t<a.tmps.size
  ·simp[hl]
  ·simp[hl]
 ·simp[h,Ne.symm h]
theorem Qok {t:Nat} {v:V} {x:Value} (h:Sim P B w0 F ρ S a w) (hv:VR w (ZM B S.blks ρ) ρ v x) (hg:∀g∈S.gds,g.t≠t∧g.key≠t) (ht:t<S.nt):
  Sim P B w0 F ρ ⟨S.base,S.nt,(t,v)::S.tmps,S.gds,S.blks,S.frames⟩ (a.put (some t) x) w:=by
 have hlt:t<a.tmps.size:=by rw[h.nt];exact ht
 refine⟨h.below,h.tab,h.hB,h.defers,by simp[Act.put,h.nt],⟨fun u y hy=>?_,fun g hgm=>?_⟩,h.blks,h.sep,h.ge,h.frames⟩
 ·rw[Qhj];rcases QT hy with ⟨rfl,rfl⟩|⟨hn,hy⟩
  ·rw[if_pos ⟨rfl,hlt⟩];exact hv
  ·rw[if_neg (fun e=>hn e.1.symm)];exact h.top.tmps u y hy
 ·obtain⟨h1,h2⟩:=hg g hgm;have:=(h.top.gds g hgm).h;refine⟨?_⟩;rw[Qhj,Qhj,if_neg (fun e=>h2 e.1),if_neg (fun e=>h1 e.1)];exact this
theorem Qpi {t key:Nat} {want:Bool} {v:V} {x:Value} (h:Sim P B w0 F ρ S a w)
  (hv:(a.tmps.getD key undef=.bool want∧VR w (ZM B S.blks ρ) ρ v x)∨(a.tmps.getD key undef≠ .bool want∧x=undef)) (hg:∀g∈S.gds,g.t≠t∧g.key≠t) (hk:key≠t) (ht:t<S.nt):
  Sim P B w0 F ρ ⟨S.base,S.nt,(t,.any)::S.tmps,⟨t,key,want,v⟩::S.gds,S.blks,S.frames⟩ (a.put (some t) x) w:=by
 have hlt:t<a.tmps.size:=by rw[h.nt];exact ht
 have h1:=Qok (v:=.any) (x:=x) h .any hg ht;refine⟨h1.below,h1.tab,h1.hB,h1.defers,h1.nt,⟨h1.top.tmps,fun g hgm=>?_⟩,h1.blks,h1.sep,h1.ge,h1.frames⟩;rcases List.mem_cons.1 hgm with hgm|hgm
 ·subst hgm;refine⟨?_⟩;rw[Qhj,Qhj,if_neg (fun e=>hk e.1),if_pos ⟨rfl,hlt⟩];exact hv
 ·exact h1.top.gds g hgm
theorem Qhk {dst:Option Nat} {v:V} {x:Value} {K:St→Prop} (h:Sim P B w0 F ρ S a w) (hv:VR w (ZM B S.blks ρ) ρ v x) (hp:S.put dst v K):∃S',Sim P B w0 F ρ S' (a.put dst x) w∧K S':=by
 obtain⟨base,nt,ts,gs,bs,fs⟩:=S
 cases dst with
 |none=>exact⟨_,h,hp⟩
 |some t=>
  simp only[St.put] at hp;split at hp
  ·rename_i h1 h2;exact⟨_,Qok h hv (QgB h1) (by simpa[Nat.blt_eq] using h2),hp⟩
  ·exact hp.no.elim
theorem QfW {dst:Option Nat} {key want} {v:V} {x:Value} {K:St→Prop} (h:Sim P B w0 F ρ S a w)
  (hv:(a.tmps.getD key undef=.bool want∧VR w (ZM B S.blks ρ) ρ v x)∨(a.tmps.getD key undef≠ .bool want∧x=undef)) (hp:S.putG dst key want v K):∃S',Sim P B w0 F ρ S' (a.put dst x) w∧K S':=by
 obtain⟨base,nt,ts,gs,bs,fs⟩:=S
 cases dst with
 |none=>exact⟨_,h,hp⟩
 |some t=>
  simp only[St.putG] at hp;split at hp
  ·rename_i h1 h2 h3;exact⟨_,Qpi h hv (QgB h1) (fun e=>by subst e;simp at h3) (by simpa[Nat.blt_eq] using h2),hp⟩
  ·exact hp.no.elim
theorem Qrz (h:Sim P B w0 F ρ S a w):Sim P B w0 F ρ ⟨S.base,S.nt,S.tmps,[],S.blks,S.frames⟩ a w:=
 ⟨h.below,h.tab,h.hB,h.defers,h.nt,⟨h.top.tmps,fun _ hg=>by simp at hg⟩,h.blks,h.sep,h.ge,h.frames⟩
theorem QdM {K:St→Prop} (h:Sim P B w0 F ρ S a w) (hk:S.noGds K):∃S',Sim P B w0 F ρ S' a w∧K S':=⟨_,Qrz h,hk⟩
theorem Qdr (h:Sim P B w0 F ρ S a w):∀(n k:Nat) (b:Bool),a.tmps.getD k undef=.bool b→∀k' b',(k',b')∈closure S.gds n k b→a.tmps.getD k' undef=.bool b'
 |0,k,b,h0,k',b',hm=>by simp[closure] at hm;obtain⟨rfl,rfl⟩:=hm;exact h0
 |n+1,k,b,h0,k',b',hm=>by
  simp only[closure,List.mem_cons,Prod.mk.injEq] at hm;rcases hm with ⟨rfl,rfl⟩|hm
  ·exact h0
  ·split at hm
   ·rename_i g hg;obtain⟨hgm,rfl⟩:=QdH hg;rcases(h.top.gds g hgm).h with h1|h1
    ·exact Qdr h n g.key g.want h1.1 k' b' hm
    ·rw[h0] at h1;cases h1.2
   ·cases hm
theorem QdN (h:Sim P B w0 F ρ S a w) (al:List (Nat×Bool)) (hal:∀k b,(k,b)∈al→a.tmps.getD k undef=.bool b):∀(l:List (Nat×Bool)) (p:Prop),(∀x∈l,x∈al)→Qa1 S al l p→p
 |[],_,_,hp=>hp
 |(k,b)::r,p,hl,hp=>by
  simp only[Qa1] at hp;split at hp
  ·rename_i c hc;refine QdN h al hal r p (fun x hx=>hl x (by simp[hx])) (hp ?_);have h1:=h.evR.h al (.tmp k) hal;rw[hc] at h1;have h2:=h1.bool_inv;have h3:a.eval (.tmp k)=.bool b:=hal k b (hl _ (by simp));rw[h3] at h2
   cases h2;rfl
  ·exact QdN h al hal r p (fun x hx=>hl x (by simp[hx])) hp
theorem QgC {ops:Array Oper} {j key:Nat} {tmps:Array Value} {want:Bool} {o:Oper} (hj:ops[j]? =some o) (hd:o.dst=some key):
  (yielded ops tmps j==some want)=true↔tmps.getD key undef=.bool want:=by
 simp only[yielded,hj,Option.bind_some,hd]
 cases h:tmps[key]? with
 |none=>simp[Array.getD_eq_getD_getElem?,h,undef]
 |some v=>cases v<;>simp[Array.getD_eq_getD_getElem?,h]
theorem QeM {f:Operand} {args:Array Operand} {tys:Array TypeId} {g:FuncId} {cs:Array Value} {dst ty pos after guard} (hf:a.eval f=.func (.func g) #[] cs) (hc:Callable P g) (w:World):
  (execOp a.eval ⟨dst,.call ⟨.value f,args,tys⟩,ty,pos,after,guard⟩).run P w=.ok (.enter g (args.map a.eval++cs)) w:=by
 obtain⟨fn,h1,h2,h3⟩:=hc.out;have hc:(callFunc g (args.map a.eval++cs)).run P w=.ok (.enter g (args.map a.eval++cs)) w:=by
  simp only[callFunc,Sem.run_bind,run_program,Result.andThen_ok,h1,h2,h3,Bool.false_eq_true,if_false,Sem.run_pure]
 simpa[execOp,resolve,hf,Deferred.ofValue,invoke] using hc
theorem Qct {ow:Nat→Prop} {ev:List (Nat×Bool)→Operand→V} {al:List (Nat×Bool)} (hev:∀x,VR w ow ρ (ev al x) (a.eval x)) (args:Array Operand) {cap:List V} {cs:Array Value} (hcl:cs.size=cap.length)
  (hcv:∀(j:Nat) (u:V),cap[j]? =some u→VR w ow ρ u (cs.getD j undef)):QgA w ow ρ (args.toList.map (ev al)++cap) (args.map a.eval++cs):=by
 refine⟨by simp[hcl],fun j v hj=>?_⟩;rw[Array.getD_eq_getD_getElem?]
 by_cases hlt:j<args.size
 ·rw[List.getElem?_append_left (by simpa using hlt)] at hj;rw[Array.getElem?_append_left (by simpa using hlt),←Array.getD_eq_getD_getElem?];rw[List.getElem?_map] at hj;obtain⟨x,hx,rfl⟩:=Option.map_eq_some_iff.1 hj;have hx':args[j]? =some x:=by simpa using hx
  have:(args.map a.eval).getD j undef=a.eval x:=by simp[Array.getD_eq_getD_getElem?,hx']
  rw[this];exact hev x
 ·rw[List.getElem?_append_right (by simp;omega)] at hj;rw[Array.getElem?_append_right (by simp;omega),←Array.getD_eq_getD_getElem?];simpa using hcv _ _ (by simpa using hj)
theorem QjW {ow:Nat→Prop} {g:FuncId} {cap:List V} {y:Value} (h:VR w ow ρ (.fn g cap) y):∃cs,y=.func (.func g) #[] cs∧cs.size=cap.length∧∀(j:Nat) (u:V),cap[j]? =some u→VR w ow ρ u (cs.getD j undef):=by
 cases h with|fn h1 h2=>exact⟨_,rfl,h1,h2⟩
theorem Qvj {ow:Nat→Prop} {g:FuncId} {caps:List (List D)} {y:Value} (h:VR w ow ρ (.d (.fn g caps)) y):VR w ow ρ (.fn g (caps.map .rp)) y:=by
 cases h with|d h=>exact h.fnRp ρ
theorem Qol {ti:TI} {blk:Nat→Option Blk} {p:V} {K:V→Prop} (h:Qdh ti blk p K):∃x,K x:=by
 unfold Qdh at h
 repeat' split at h
 all_goals first|exact h.no.elim|(rw[Qw] at h;exact⟨_,h⟩)
theorem Qqk {sc:Prop→Prop} {op k x y} {K:V→Prop} (h:QjO sc op k x y K):∃z,K z:=by
 cases op<;>simp only[QjO] at h<;>first|exact h.no.elim|exact⟨_,h.2⟩|exact⟨_,h⟩
theorem QfX {ev:List (Nat×Bool)→Operand→V} {blk:Nat→Option Blk} {sc:Prop→Prop} {op:Op} {K:V→Prop} (h:evP tb ev blk sc op K):∃x,K x:=by
 cases op<;>simp only[evP,Qw,Q2,Qdw] at h
 all_goals repeat' split at h
 all_goals first
  |exact h.no.elim
  |exact Qol h
  |exact Qqk h
  |exact h.2.no.elim
  |exact⟨_,h.2⟩
  |exact⟨_,h⟩
theorem QjX (h:Sim P B w0 F ρ S a w) {key:Nat} {want:Bool} (hw:a.tmps.getD key undef≠ .bool want) {p:Prop} (hp:QhT S key want p):p:=by
 unfold QhT at hp;split at hp
 ·rename_i b hb;refine hp ?_;have h1:=h.evR.h [] (.tmp key) (fun k g hm=>by simp at hm);rw[hb] at h1
  cases h1 with|d h1=>
  generalize hv:a.eval (.tmp key)=v at h1
  cases h1
  simp only[Act.eval] at hv
  cases b<;>cases want<;>simp_all
 ·exact hp
theorem Qql (h:Sim P B w0 F ρ S a w) {k:Nat} {b:Bool} (hb:S.ev [] (.tmp k)=.d (.bool b)):a.tmps.getD k undef=.bool b:=by
 have h1:=h.evR.h [] (.tmp k) (fun k g hm=>by simp at hm);rw[hb] at h1;exact h1.bool_inv
theorem Qom (h:Sim P B w0 F ρ S a w) {key:Nat} {want:Bool} (hw:a.tmps.getD key undef≠ .bool want) {p:Prop} (hp:Qfy S key want p):p:=by
 unfold Qfy at hp;split at hp
 ·exact QjX h hw hp
 ·rename_i g hg;obtain⟨hgm,rfl⟩:=QdH hg;split at hp
  ·rename_i b0 b hb0 hb;have k0:=Qql h hb0;rcases(h.top.gds g hgm).h with ⟨h1,h2⟩|⟨h1,_⟩
   ·refine hp.1 ?_ ?_
    ·rw[k0] at h1;cases h1;rfl
    ·rw[hb] at h2;have h3:=h2.bool_inv;rw[h3] at hw
     cases b<;>cases want<;>simp_all
   ·refine hp.2 ?_;rw[k0] at h1
    cases b0<;>cases hgw:g.want<;>simp_all
  ·exact hp
theorem QeN (hT:TOk P tb) (ops:Array Oper) (Q:Exit→St→Prop) (F:List (Array Value)):∀(l:List Nat) (os:List Oper),os.length=l.length→(∀(i k:Nat),l[i]? =some k→ops[k]? =os[i]?)→
  ∀(S:St) (ρ:Env) (a:Act) (w:World),Sim P B w0 F ρ S a w→Qeb P tb ops.toList os S (fun S=>Q .normal S)→
  wpOps P ops (fun e a' w'=>∃ρ' S',Sim P B w0 F ρ' S' a' w'∧Q e S') l a w
 |[],os,hl,_,S,ρ,a,w,h,he=>by
  have:os=[]:=by simpa using hl
  subst this;exact⟨ρ,S,h,he⟩
 |k::l,[],hl,_,S,ρ,a,w,h,he=>by simp at hl
 |k::l,o::os,hl,hi,S,ρ,a,w,h,he=>by
  have hk:ops[k]? =some o:=by simpa using hi 0 k rfl
  have ih:=QeN hT ops Q F l os (by simpa using hl) (fun i k hk=>by simpa using hi (i+1) k (by simpa using hk));simp only[wpOps,hk];rw[Qqj] at he;split at he
  ·rename_i hg;have hw:Region.wanted o (yielded ops a.tmps)=true:=by simp[Region.wanted,hg]
   rw[if_pos hw];refine .inl ?_;split at he
   ·obtain⟨n,v,w',ρ',x,S',h1,h2,h3,h4,h5⟩:=Qry hT h o he;obtain⟨S'',h6,h7⟩:=Qhk h3 h4 h5;unfold Oper.wp;rw[h1];rcases h2 with rfl|⟨rfl,rfl⟩
    ·exact ih S'' ρ' _ w' h6 h7
    ·exact ih S'' ρ' _ w' h6 h7
   ·split at he
    ·rename_i f args tys hop;split at he
     ·rename_i g cap hf;rw[Q2] at he;obtain⟨cs,hcs,hcl,hcv⟩:=QjW (h.evR.eq hf);have hargs:=Qct (ev:=S.ev) (al:=[]) h.evR.at args hcl hcv;have hcall:=he.out B w0 F ρ a w _ h hargs;unfold Oper.wp;obtain⟨dst,op,ty,pos,after,guard⟩:=o;dsimp only at hop;subst hop;rw[QeM hcs he.can,Oper.upon_enter];refine Calls.mono hcall ?_;rintro e w' ⟨v,ρ',x,S',rfl,h1,h2,h3⟩;obtain⟨S'',h6,h7⟩:=Qhk h1 h2 h3;exact ih S'' ρ' _ w' h6 h7
     ·rename_i g caps hf;rw[Q2] at he;obtain⟨cs,hcs,hcl,hcv⟩:=QjW (Qvj (h.evR.eq hf));have hargs:=Qct (ev:=S.ev) (al:=[]) h.evR.at args hcl hcv;have hcall:=he.out B w0 F ρ a w _ h hargs;unfold Oper.wp;obtain⟨dst,op,ty,pos,after,guard⟩:=o;dsimp only at hop;subst hop;rw[QeM hcs he.can,Oper.upon_enter];refine Calls.mono hcall ?_;rintro e w' ⟨v,ρ',x,S',rfl,h1,h2,h3⟩;obtain⟨S'',h6,h7⟩:=Qhk h1 h2 h3;exact ih S'' ρ' _ w' h6 h7
     ·exact he.no.elim
    ·obtain⟨v,w',x,h1,h2,h3,h4⟩:=Qfu hT h.evR h.blks (fun _ ho=>Qdb h ho) (fun p hp=>hp) o he;obtain⟨S'',h6,h7⟩:=Qhk (h.pure h2) h3 h4;unfold Oper.wp;rw[h1];exact ih S'' ρ _ w' h6 h7
  ·rename_i j want hg;split at he
   case h_2=>exact he.no.elim
   rename_i key op' ty' pos' af' gd' hj;have hj':ops[j]? =some ⟨some key,op',ty',pos',af',gd'⟩:=by simpa using hj
   have hy:=QgC (tmps:=a.tmps) (want:=want) hj' rfl;have hwd:Region.wanted o (yielded ops a.tmps)=(yielded ops a.tmps j==some want):=by simp[Region.wanted,hg]
   by_cases hw:a.tmps.getD key undef=.bool want
   ·have hwt:Region.wanted o (yielded ops a.tmps)=true:=by rw[hwd];exact hy.2 hw
    rw[if_pos hwt];refine .inl ?_;have hal:=Qdr h 9 key want hw;have hsc:∀p,Qa1 S (closure S.gds 9 key want) (closure S.gds 9 key want) p→p:=fun p=>QdN h _ hal _ p (fun _ hx=>hx);have hev':EvR w (ZM B S.blks ρ) ρ a (fun ex x=>S.ev (ex++closure S.gds 9 key want) x):=⟨fun al x hx=>h.evR.h _ x fun k g hm=>by
     rcases List.mem_append.1 hm with hm|hm
     ·exact hx k g hm
     ·exact hal k g hm⟩
    split at he
    ·rename_i f args tys hop;split at he
     ·rename_i g cap hf;rw[Q2] at he;have hf':=h.evR.h (closure S.gds 9 key want) f hal;rw[hf] at hf';obtain⟨cs,hcs,hcl,hcv⟩:=QjW hf';have hargs:=Qct (ev:=S.ev) (al:=closure S.gds 9 key want) (fun x=>h.evR.h _ x hal) args hcl hcv;obtain⟨x,S1,hK,hc,_⟩:=he.out;have hcall:=hsc _ hc B w0 F ρ a w _ h hargs;unfold Oper.wp;obtain⟨dst,op,ty,pos,after,guard⟩:=o;dsimp only at hop;subst hop;rw[QeM hcs he.can,Oper.upon_enter];refine Calls.mono hcall ?_;rintro e w' ⟨v,ρ',rfl,h1,h2⟩;obtain⟨S'',h6,h7⟩:=QfW h1 (.inl ⟨hw,h2⟩) hK;exact ih S'' ρ' _ w' h6 h7
     ·exact he.no.elim
    ·obtain⟨v,w',x,h1,h2,h3,h4⟩:=Qfu hT hev' h.blks (fun _ ho=>Qdb h ho) hsc o he;obtain⟨S'',h6,h7⟩:=QfW (h.pure h2) (.inl ⟨hw,h3⟩) h4;unfold Oper.wp;rw[h1];exact ih S'' ρ _ w' h6 h7
   ·have hwf:¬Region.wanted o (yielded ops a.tmps)=true:=by rw[hwd];exact fun e=>hw (hy.1 e)
    rw[if_neg hwf];split at he
    ·rename_i f args tys hop;split at he
     ·rw[Q2] at he;obtain⟨x,S1,hK,_,hc⟩:=he.out;obtain⟨ρ',h1⟩:=Qom h hw hc B w0 F ρ a w h;obtain⟨S'',h6,h7⟩:=QfW h1 (.inr ⟨hw,rfl⟩) hK;exact ih S'' ρ' _ w h6 h7
     ·exact he.no.elim
    ·obtain⟨x,hK⟩:=QfX he;obtain⟨S'',h6,h7⟩:=QfW h (.inr ⟨hw,rfl⟩) hK;exact ih S'' ρ _ w h6 h7
end Go.Ab
namespace Go.Ab
open Go.RowKit
variable {P:Program} {tb:Tb} {w:World} {ow:Nat→Prop} {ρ:Env} {a:Act} {B:Bd} {w0:World} {F:List (Array Value)} {S:St}
theorem JJ (hT:TOk P tb):∀(c:Code) (S:St) (Q:Exit→St→Prop),wpc P tb c S Q→WP P c S Q
 | .skip,S,Q,h=>fun B w0 F ρ a w hs=>wp_skip ⟨ρ,S,hs,h⟩
 | .label l,S,Q,h=>fun B w0 F ρ a w hs=>wp_label ⟨ρ,S,hs,h⟩
 | .exit id,S,Q,h=>fun B w0 F ρ a w hs=>wp_exit ⟨ρ,S,hs,h⟩
 | .ret,S,Q,h=>fun B w0 F ρ a w hs=>wp_ret ⟨ρ,S,hs,h⟩
 | .region id ops false,S,Q,h=>fun B w0 F ρ a w hs=>by
  first|rw[Qja] at h|rw[Qjb] at h|rw[QjV] at h|rw[Qjc] at h|rw[Qhi] at h
  obtain⟨S1,h1,h2⟩:=QdM hs h;refine wp_mono (wp_region (QeN (B:=B) (w0:=w0) hT ops (fun e S=>match e with| .normal=>S.noGds fun S=>Q .normal S|_=>False) F (List.range ops.size) ops.toList (by simp) (fun i k hk=>?_) S1 ρ a w h1 h2)) ?_
  ·have hlt:=(List.getElem?_eq_some_iff.1 hk).1;rw[List.getElem?_range (by simpa using hlt)] at hk
   cases hk
   simp
  ·rintro e a' w' ⟨ρ',S',h3,h4⟩
   cases e with
   |normal=>exact⟨ρ',(QdM h3 h4).elim fun S'' h5=>⟨S'',h5⟩⟩
   |_=>exact h4.elim
 | .region id ops true,S,Q,h=>fun B w0 F ρ a w hs=>by
  first|rw[Qja] at h|rw[Qjb] at h|rw[QjV] at h|rw[Qjc] at h|rw[Qhi] at h
  obtain⟨S1,h1,h2⟩:=QdM hs h;refine wp_mono (h2.out B w0 F ρ a w h1) ?_;rintro e a' w' ⟨ρ',S',h3,rfl,h4⟩;exact⟨ρ',S',h3,h4⟩
 | .seq x y,S,Q,h=>by
  rw[QjV] at h;split at h
  ·exact h.out
  ·intro B w0 F ρ a w hs;refine wp_seq (wp_mono (JJ hT x S _ h B w0 F ρ a w hs) ?_);rintro e a' w' ⟨ρ',S',h1,h2⟩
   cases e with
   |normal=>exact JJ hT y S' Q h2 B w0 F ρ' a' w' h1
   |_=>exact⟨ρ',S',h1,h2⟩
 | .cond c x y,S,Q,h=>fun B w0 F ρ a w hs=>by
  first|rw[Qja] at h|rw[Qjb] at h|rw[QjV] at h|rw[Qjc] at h|rw[Qhi] at h
  split at h
  ·rename_i b hb;have hc:=(hs.evR.eq hb).bool_inv;refine wp_cond hc ?_
   cases b with
   |true=>exact JJ hT x S Q (h.1 rfl) B w0 F ρ a w hs
   |false=>exact JJ hT y S Q (h.2 rfl) B w0 F ρ a w hs
  ·exact h.no.elim
 | .block id c,S,Q,h=>fun B w0 F ρ a w hs=>by
  first|rw[Qja] at h|rw[Qjb] at h|rw[QjV] at h|rw[Qjc] at h|rw[Qhi] at h
  refine wp_block (wp_mono (JJ hT c S _ h B w0 F ρ a w hs) ?_);rintro e a' w' ⟨ρ',S',h1,h2⟩
  cases e with
  |exit i=>
   dsimp only at h2;simp only[Exit.inBlock];split at h2
   ·rename_i hb;rw[if_pos (Nat.eq_of_beq_eq_true hb)];exact⟨ρ',S',h1,h2⟩
   ·rename_i hb;rw[if_neg (fun e=>by subst e;simp at hb)];exact⟨ρ',S',h1,h2⟩
  |_=>exact⟨ρ',S',h1,h2⟩
 | .loop c,S,Q,h=>h.out
 | .rangeFunc ..,_,_,h=>h.no.elim
 | .scope _,_,_,h=>h.no.elim
 | .goto _,_,_,h=>h.no.elim
 | .refuse _,_,_,h=>h.no.elim
noncomputable def Qqm (tb:Tb) (l:List ResultVar):St→(List V→Prop)→Prop:=List.rec (motive:=fun _=>St→(List V→Prop)→Prop) (fun _ K=>K []) (fun r _ ih S K=>match r with
 | .tmp t=>Qar (S.ev [] (.tmp t)) fun v=>ih S fun vs=>K (v::vs)
 | .cell x t=>match tb.find t with
  |some ti=>Qdh ti (Qh S.blks) (S.ev [] (.tmp x)) fun v=>ih S fun vs=>K (v::vs)
  | none => Stuck "result type") l
theorem QrA {tb:Tb} {t:Nat} {r:List ResultVar} {S:St} {K:List V→Prop}:Qqm tb (.tmp t::r) S K=Qar (S.ev [] (.tmp t)) fun v=>Qqm tb r S fun vs=>K (v::vs):=rfl
theorem Qqn {tb:Tb} {x:Nat} {t:TypeId} {r:List ResultVar} {S:St} {K:List V→Prop}:Qqm tb (.cell x t::r) S K=match tb.find t with
  |some ti=>Qdh ti (Qh S.blks) (S.ev [] (.tmp x)) fun v=>Qqm tb r S fun vs=>K (v::vs)
  | none => Stuck "result type" := rfl
noncomputable def Qpj (tb:Tb) (rs:List ResultVar) (S:St) (K:V→Prop):Prop:=Qqm tb rs S fun vs=>match vs with
 |[v]=>K v
 |vs=>K (.tup vs)
def Qna (tmps:Array Value):ResultVar→Sem Value
 | .tmp t=>pure (tmps.getD t undef)
 | .cell a t=>do loadVar t (←asAddr (tmps.getD a undef))
theorem Qqo (fn:Func) (tmps:Array Value):results fn tmps=(do
 let vs←fn.results.mapM (Qna tmps)
 pure (if h:vs.size=1 then vs[0] else .tuple vs)):=rfl
theorem QgD (hT:TOk P tb) (h:Sim P B w0 F ρ S a w):∀(rs:List ResultVar) (K:List V→Prop),Qqm tb rs S K→
  ∃vs vals,(rs.mapM (Qna a.tmps)).run P w=.ok vals w∧QgA w (ZM B S.blks ρ) ρ vs vals.toArray∧K vs
 |[],K,hk=>⟨[],[],rfl,⟨rfl,fun j v hj=>by simp at hj⟩,hk⟩
 | .tmp t::r,K,hk=>by
  rw[QrA,Qw] at hk;obtain⟨vs,vals,h1,h2,h3⟩:=QgD hT h r _ hk;refine⟨_::vs,a.tmps.getD t undef::vals,?_,⟨by simpa using h2.1,fun j v hj=>?_⟩,h3⟩
  ·simp only[List.mapM_cons,Qna,Sem.run_bind,Sem.run_pure,Result.andThen_ok,h1]
  ·cases j with
   |zero=>simp at hj;subst hj;exact h.evR.at (.tmp t)
   |succ j=>simpa using h2.2 j v (by simpa using hj)
 | .cell x t::r,K,hk=>by
  rw[Qqn] at hk;split at hk
  ·rename_i ti hti;have hx:=h.evR.at (.tmp x);obtain⟨v,y,h4,h5,h6⟩:=Qiy (P:=P) (hT.ok _ _ hti) h.blks hx hk;obtain⟨vs,vals,h1,h2,h3⟩:=QgD hT h r _ h6;refine⟨y::vs,v::vals,?_,⟨by simpa using h2.1,fun j u hj=>?_⟩,h3⟩
   ·have h7:(Qna a.tmps (.cell x t)).run P w=.ok v w:=by
     have e:a.eval (.tmp x)=a.tmps.getD x undef:=rfl;rw[e] at h4;simp only[Qna]
     revert h4
     generalize a.tmps.getD x undef=y';intro h4
     cases y' with
     |pointer p=>cases p<;>simp_all [Instr.loadAt,Instr.sureAddr,asAddr]
     |_=>simp[Instr.loadAt,Instr.sureAddr] at h4
    simp only[List.mapM_cons,Sem.run_bind,h7,Result.andThen_ok,h1,Sem.run_pure]
   ·cases j with
    |zero=>simp at hj;subst hj;simpa using h5
    |succ j=>simpa using h2.2 j u (by simpa using hj)
  ·exact hk.no.elim
theorem QhU (hT:TOk P tb) (h:Sim P B w0 F ρ S a w) (fn:Func) (K:V→Prop) (hk:Qpj tb fn.results.toList S K):∃x v,(results fn a.tmps).run P w=.ok v w∧VR w (ZM B S.blks ρ) ρ x v∧K x:=by
 obtain⟨vs,vals,h1,h2,h3⟩:=QgD hT h _ _ hk;have hr:(results fn a.tmps).run P w=.ok (if h:vals.toArray.size=1 then vals.toArray[0] else .tuple vals.toArray) w:=by
  rw[Qqo,Sem.run_bind,Array.mapM_eq_mapM_toList,Sem.run_map,h1]
  rfl
 have hs:=h2.1
 cases vs with
 |nil=>
  have:¬vals.toArray.size=1:=by rw[hs];simp
  rw[dif_neg this] at hr;exact⟨_,_,hr,.tup hs h2.2,h3⟩
 |cons v r=>
  cases r with
  |nil=>
   have h0:vals.toArray.size=1:=by rw[hs];rfl
   rw[dif_pos h0] at hr;refine⟨v,_,hr,?_,h3⟩;have:=h2.2 0 v rfl;rw[Array.getD_eq_getD_getElem?,Array.getElem?_eq_getElem (by omega)] at this;exact this
  |cons v' r'=>
   have:¬vals.toArray.size=1:=by rw[hs];simp
   rw[dif_neg this] at hr;exact⟨_,_,hr,.tup hs h2.2,h3⟩
end Go.Ab
