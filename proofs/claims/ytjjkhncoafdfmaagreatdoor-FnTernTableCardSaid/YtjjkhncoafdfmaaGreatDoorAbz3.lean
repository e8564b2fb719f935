/-
  Calls, weakening, loops: a part of the frame in which a given row's proof walks the program; no condition.
-/
import Derived.Test.YtjjkhncoafdfmaaGreatDoorAbz2
import Derived.Deep.LoopGhost
set_option linter.all false
namespace Go.Ab
open Go.RowKit
variable {P:Program} {tb:Tb} {w:World} {ow:Nat→Prop} {ρ:Env} {a:Act} {B:Bd} {w0:World} {F:List (Array Value)} {S:St}
def Qoe:Nat->List V->List (Nat×V)
 |_,[]=>[]
 |i,v::r=>(i,v)::Qoe (i+1) r
theorem Qha:∀ {i:Nat} {vs:List V} {t:Nat} {v:V},Qk (Qoe i vs) t=some v->i<=t∧vs[t-i]? =some v
 |i,u::r,t,v,h=>by
  rcases QY h with ⟨rfl,rfl⟩|⟨hn,h⟩
  ·simp
  ·have⟨h1,h2⟩:=Qha h;refine⟨by omega,?_⟩;rw[show t-i=(t-(i+1))+1 by omega];simpa using h2
 |i,[],t,v,h=>by simp[Qoe,Qk] at h
theorem QjL {vals:Array Value} {k t:Nat} (h:t<vals.size):(vals++Array.replicate k undef).getD t undef=vals.getD t undef:=by
 simp[Y7,XL h]
def QBx (base nt:Nat) (K:V->St->Prop) (S':St) (v:V):Prop:=match S' with
 |⟨_,_,_,_,bs,⟨ts,gs⟩::fs⟩=>K v ⟨base,nt,ts,gs,bs,fs⟩
 | _ => Stuck "return"
def QBy (tb:Tb) (I:List ResultVar) (base nt:Nat) (K:V->St->Prop):Exit->St->Prop:=fun e S'=>match e with
 | .ret=>Qr6 tb I S' (QBx base nt K S')
 | .normal=>Qr6 tb I S' (QBx base nt K S')
 | _ => Stuck "return no way out"
theorem Qti (hT:TOk P tb) {fn:Func} {base:Nat} {K:V->St->Prop} {J:Act} (Y:J.tmps.size=S.nt) (U:J.defers=[]) {S':St} {O:Act} (h:Sim P B w0 (J.tmps::F) ρ S' O w)
  (hk:Qr6 tb fn.results.toList S' (QBx base S.nt K S')):
  O.defers=[]∧∃v,(results fn O.tmps).run P w=.ok v w∧∃v' ρ' x I,Ending.returned v=.returned v'∧Sim P B w0 F ρ' I J w∧VR w (ZM B I.blks ρ') ρ' x v'∧K x I:=by
 have⟨x,v,h1,h2,h3⟩:=QjK hT h fn _ hk;refine⟨h.defers,v,h1,v,ρ,x,?_⟩;have⟨b',nt',ts',gs',bs',N⟩:=S'
 cases N with
 |nil=>exact h3.no.elim
 |cons f fs=>
  have⟨ts,gs⟩:=f;refine⟨⟨base,S.nt,ts,gs,bs',fs⟩,rfl,⟨h.below,h.tab,h.hB,U,Y,h.frames.2 0 ⟨ts,gs⟩ J.tmps rfl rfl,h.blks,h.sep,h.ge,by simpa using h.frames.1,fun i f tm hf ht=>h.frames.2 (i+1) f tm (by simpa using hf) (by simpa using ht)⟩,h2,h3⟩
theorem Qtj (O : TOk P tb) {f : FuncId} {fn : Func} {c : Code} {args : List V} {K : V -> St -> Prop} (b : Nat) (U : P.funcs[f]? = some fn) (hb : fn.body = some c) (hn : (fn.name == "runtime.NumGoroutine") = false) (hl : Nat.ble args.length fn.ntmps = true)
  (h:wpc P tb c ⟨b,fn.ntmps,Qoe 0 args,[],S.blks,⟨S.tmps,S.gds⟩::S.frames⟩ (QBy tb fn.results.toList S.base S.nt K)):CallP P f args S K:=by
 refine⟨⟨fn,U,hn,by simp[hb]⟩,fun B w0 F ρ a w vals hs hv=>?_⟩;have hl:=Yt hl;have hvs:=hv.1;refine calls_of_wp U hb (wp_mono (QaM O c _ _ h B w0 (a.tmps::F) ρ ⟨vals++Array.replicate (fn.ntmps-vals.size) undef,[]⟩ w ?_) ?_)
 ·refine⟨hs.below,hs.tab,hs.hB,rfl,by simp;omega,⟨fun t v ht=>?_,fun g hg=>by simp at hg⟩,hs.blks,hs.sep,hs.ge,by simpa using hs.frames.1,fun i Y tm I J=>?_⟩
  ·have⟨_,h2⟩:=Qha ht;have N:=(Ya.1 h2).1;simp only[Nat.sub_zero] at h2 N;dsimp only;rw[QjL (by omega)];exact hv.2 t v h2
  ·cases i with
   |zero=>simp at I J;subst I J;exact hs.top
   |succ i=>exact hs.frames.2 i Y tm (by simpa using I) (by simpa using J)
 ·rintro e a' w' ⟨ρ',S',h1,h2⟩
  cases e<;>simp only[QBy] at h2<;>first
   |exact h2.no.elim
   |exact Qti (S:=S) O hs.nt hs.defers h1 h2
def QjM:D->Bool
 | .sl ..=>false
 | .fn ..=>false
 |_=>true
mutual
def Qcv:V->Bool
 | .any=>true
 | .d x=>QjM x
 | .osl ..=>true
 | .agg vs=>Qtk vs
 | .tup vs=>Qtk vs
 |_=>false
def Qtk:List V->Bool
 |[]=>true
 |v::r=>Qcv v&&Qtk r
end
theorem QeI:∀ {vs:List V} {j:Nat} {v:V},Qtk vs=true->vs[j]? =some v->Qcv v=true
 |u::r,0,v,h,hj=>by simp at hj;subst hj;simp[Qtk] at h;exact h.1
 |u::r,j+1,v,h,hj=>by simp[Qtk] at h;exact QeI h.2 (by simpa using hj)
 |[],_,_,_,hj=>by simp at hj
theorem DR.atom {x v} (h:DR w ow x v) (I:QjM x=true) (w':World) (ow':Nat->Prop):DR w' ow' x v:=by
 cases h with
 |int=>exact .int
 |bool=>exact .bool
 |str=>exact .str
 |nil=>exact .nil
 |zn=>exact .zn
 |sl0=>simp[QjM] at I
 |sl=>simp[QjM] at I
 |fn=>simp[QjM] at I
theorem DR.free {x v} (h:DR w ow x v):DR w (fun _=>False) x v:=h.keep ⟨Yh _,fun _ _ _=>⟨rfl,fun h=>h⟩⟩
mutual
def V.shift (k:Nat):V->V
 | .ref i r o=>.ref (i+k) r o
 | .osl i o l=>.osl (i+k) o l
 | .agg vs=>.agg (QhK k vs)
 | .tup vs=>.tup (QhK k vs)
 | .fn f vs=>.fn f (QhK k vs)
 | .any=>.any
 | .d x=>.d x
 | .rp cs=>.rp cs
def QhK (k:Nat):List V->List V
 |[]=>[]
 |v::r=>v.shift k::QhK k r
end
theorem QjN {k:Nat}:∀(vs:List V) (j:Nat),(QhK k vs)[j]? =(vs[j]?).map (V.shift k)
 |[],j=>by simp[QhK]
 |v::r,0=>by simp[QhK]
 |v::r,j+1=>by simpa[QhK] using QjN r j
theorem QfP {k:Nat}:∀(vs:List V),(QhK k vs).length=vs.length
 |[]=>rfl
 |v::r=>by simp[QhK,QfP r]
theorem VR.shiftFlat {v x} {k:Nat} {ρ':Env} {w':World} {ow':Nat->Prop} (h:VR w ow ρ v x) (J:Qcv v=true) (U:∀id,v.mentions id=true->ρ' (id+k)=ρ id):VR w' ow' ρ' (v.shift k) x:=by
 induction h with
 |any=>exact .any
 |d h=>exact .d (h.atom J _ _)
 |ref h1 h2=>simp[Qcv] at J
 |osl0 Y h1=>rename_i id off len ad;exact .osl0 Y (by rw[U id (by simp[V.mentions])];exact h1)
 |osl h1 h2 h3=>
  rename_i id off len;have e:=U id (by simp[V.mentions]);rw[<-e];exact .osl (by rw[e];exact h1) (by rw[e];exact h2) (by rw[e];exact h3)
 |rp=>simp[Qcv] at J
 |agg hs h1 hv O=>
  refine .agg (by rw[QfP];exact hs) h1 fun j v N=>?_;rw[QjN] at N;obtain⟨v',I,rfl⟩:=Yg.1 N;exact O j v' I (QeI (by simpa[Qcv] using J) I) fun id hm=>U id (by simpa[V.mentions] using Q9 I hm)
 |tup hs hv O=>
  refine .tup (by rw[QfP];exact hs) fun j v N=>?_;rw[QjN] at N;obtain⟨v',I,rfl⟩:=Yg.1 N;exact O j v' I (QeI (by simpa[Qcv] using J) I) fun id hm=>U id (by simpa[V.mentions] using Q9 I hm)
 |fn hs hv O=>simp[Qcv] at J
structure Nb where
 id:Nat
 t:TypeId
 sz:Nat
 n:Nat
 row:Nat→List D
def Nb.ent (k:Nat) (b:Nb):Nat×Blk:=(b.id+k,.arr b.t b.sz b.n b.row)
structure PureC (P:Program) (f:FuncId) (args:List V) (res:V) (nb:List Nb):Prop where
 can:Callable P f
 flat:Qcv res=true
 rows:∀b∈nb,∀i,i<b.n→∀d∈b.row i,QjM d=true
 dist:nb.Pairwise fun x y=>x.id≠y.id
 ids:∀id,res.mentions id=true→∃b∈nb,b.id=id
 out:∀w vals ρ0,Qhq w (fun _=>False) ρ0 args vals→TabB P (fun b=>b<w.heap.size) w→Calls P f vals w fun e w'=>∃v ρ,e=.returned v∧Pure w w'∧VR w' (fun b=>b<w.heap.size) ρ res v∧
  (∀b∈nb,BR w' (fun b=>b<w.heap.size) ρ b.id (.arr b.t b.sz b.n b.row))∧(∀x∈nb,∀y∈nb,(ρ x.id).ph=false→(ρ y.id).ph=false→(ρ x.id).b=(ρ y.id).b→x.id=y.id)∧(∀x∈nb,(ρ x.id).ph=false→w.heap.size≤(ρ x.id).b)
theorem BR.shiftFlat {b:Nb} {k:Nat} {ρ':Env} {w':World} {ow':Nat->Prop} (h:BR w ow ρ b.id (.arr b.t b.sz b.n b.row)) (O:∀i,i<b.n->∀d∈b.row i,QjM d=true) (I:ρ' (b.id+k)=ρ b.id) (N:w'.heap=w.heap):
  BR w' ow' ρ' (b.id+k) (.arr b.t b.sz b.n b.row):=by
 cases h with
 |arr0 h1 h2 h3 h4=>exact .arr0 (by rw[I];exact h1) (by rw[I];exact h2) (by rw[I];exact h3) h4
 |arr C et h1 h2 h3 h4 h5 h6 Y U=>
  refine .arr C et (by rw[I];exact h1) (by rw[I];exact h2) (by rw[I];exact h3) (by rw[I];exact h4) h5 (by rw[I,N];exact h6) (by rw[I];exact Y) fun i j d hi J=>?_;rw[I];exact(U i j d hi J).atom (O i hi d (Xb J)) _ _
theorem SimO.shrink (h:SimO P ow B w0 F ρ S a w) (hs:∀b,ZM B S.blks ρ b->ow b):Sim P B w0 F ρ S a w:=by
 have k:Keep w ow w (ZM B S.blks ρ):=⟨Yh _,fun b _ ho=>⟨rfl,fun h=>ho (hs b h)⟩⟩;exact⟨h.below,h.tab,h.hB,h.defers,h.nt,h.top.keep k fun _ _=>rfl,fun id b hb=>(h.blks id b hb).keep k rfl (fun _=>rfl) fun _ _=>rfl,h.sep,h.ge,h.frames.1,fun i f tm J I=>(h.frames.2 i f tm J I).keep k fun _ _=>rfl⟩
theorem Qux {id:Nat} {blk:Blk} {loc:Loc} (h:SimO P ow B w0 F ρ S a w) (hm:S.mentions id=false) (O:loc.ph=false->ow loc.b∧¬own S.blks ρ loc.b∧B.free loc blk.bx) (a5:BR w ow (ρ.set id loc) id blk):
  SimO P ow B w0 F (ρ.set id loc) ⟨S.base,S.nt,S.tmps,S.gds,(id,blk)::S.blks,S.frames⟩ a w:=by
 have⟨m1,m2,m3,m4⟩:=St.mentions_parts hm;have keep:Keep w ow w ow:=⟨Yh _,fun b _ ho=>⟨rfl,ho⟩⟩;have hr:∀i,i≠id->ρ.set id loc i=ρ i:=fun i hi=>Env.set_other hi;refine⟨h.below,h.tab,h.hB,h.defers,h.nt,?_,?_,?_,?_,h.frames.1,?_⟩
 ·exact h.top.keep keep fun i hi=>hr i (by rcases hi with hi|hi;exact QdA (p:=fun i=>Jg i S.tmps) m1 hi;exact QdA (p:=fun i=>Jh i S.gds) m2 hi)
 ·intro i b hb;rcases QY hb with ⟨rfl,rfl⟩|⟨Y,a1⟩
  ·exact a5
  ·refine(h.blks i b a1).keep keep (hr i (YY Y)) (fun _=>rfl) fun j hj=>hr j fun e=>?_;subst e;have:Q8 j S.blks=true:=ZR (id:=j) a1 (.inr hj);rw[m3] at this;cases this
 ·intro i j x y U hy N J I;rcases QY U with ⟨rfl,_⟩|⟨Y,U⟩<;>rcases QY hy with ⟨rfl,_⟩|⟨a2,hy⟩
  ·rfl
  ·rw[Env.set_same] at N I;rw[Env.set_other (YY a2)] at J I;exact absurd ⟨j,y,hy,J,I.symm⟩ (O N).2.1
  ·rw[Env.set_same] at J I;rw[Env.set_other (YY Y)] at N I;exact absurd ⟨i,x,U,N,I⟩ (O J).2.1
  ·rw[Env.set_other (YY Y)] at N I;rw[Env.set_other (YY a2)] at J I;exact h.sep i j x y U hy N J I
 ·intro i x U hp;rcases QY U with ⟨rfl,rfl⟩|⟨Y,U⟩
  ·rw[Env.set_same] at hp|-;exact(O hp).2.2
  ·rw[Env.set_other (YY Y)] at hp|-;exact h.ge i x U hp
 ·intro i f tm hf ht;refine(h.frames.2 i f tm hf ht).keep keep fun j hj=>hr j fun e=>?_;subst e;have:=Qe1 (id:=j) hf hj;rw[m4] at this;cases this
end Go.Ab
namespace Go.Ab
open Go.RowKit
variable {P:Program} {tb:Tb} {w:World} {ow:Nat→Prop} {ρ:Env} {a:Act} {B:Bd} {w0:World} {F:List (Array Value)} {S:St}
def Qof (blk:Nat->Option Blk):List V->Option (List D)
 |[]=>some []
 | .d x::r=>(match Qof blk r with
  |some ds=>some (x::ds)
  |none=>none)
 | .osl id off len::r=>(match blk id,Qof blk r with
  |some (.arr _ _ _ row),some ds=>some (.sl len (ZB off row)::ds)
  |_,_=>none)
 |_=>none
def slV (blk:Nat->Option Blk) (id off len:Nat):Option D:=match blk id with
 |some (.arr _ _ _ row)=>some (.sl len (ZB off row))
 |some (.box t cs)=>(match off,bcl t,Qof blk cs with
  |0,n+1,some ds=>some (.sl len (QqJ (cs.length/(n+1)) ds))
  |_,_,_=>none)
 |none=>none
def Qog (blk:Nat->Option Blk):List V->Option (List D)
 |[]=>some []
 | .d x::r=>(match Qog blk r with
  |some ds=>some (x::ds)
  |none=>none)
 | .osl id off len::r=>(match slV blk id off len,Qog blk r with
  |some d,some ds=>some (d::ds)
  |_,_=>none)
 |_=>none
mutual
def Qfo (blk:Nat->Option Blk):V->Option V
 | .any=>some .any
 | .d x=>some (.d x)
 | .rp cs=>some (.rp cs)
 | .osl id off len=>(match slV blk id off len with
  |some d=>some (.d d)
  |none=>none)
 | .ref id row off=>(match blk id with
  |some (.box _ cs)=>(match row,Qog blk (cs.drop off) with
   |0,some ds=>some (.rp ds)
   |_,_=>none)
  |some (.arr _ _ _ rw)=>some (.rp ((rw row).drop off))
  |none=>none)
 | .agg vs=>(match Qb6 blk vs with
  |some I=>some (.agg I)
  |none=>none)
 | .tup vs=>(match Qb6 blk vs with
  |some I=>some (.tup I)
  |none=>none)
 | .fn f vs=>(match Qb6 blk vs with
  |some I=>some (.fn f I)
  |none=>none)
def Qb6 (blk:Nat->Option Blk):List V->Option (List V)
 |[]=>some []
 |v::r=>(match Qfo blk v,Qb6 blk r with
  |some u,some us=>some (u::us)
  |_,_=>none)
end
theorem Qhb {off i:Nat} {row:Nat->List D}:ZB off row i=row (off+i):=by cases off<;>simp[ZB]
theorem Qr7 (h:Sim P B w0 F ρ S a w) {id off len t sz n:Nat} {row:Nat->List D} {x:Value} (hb:Qk S.blks id=some (.arr t sz n row)) (hv:VR w (ZM B S.blks ρ) ρ (.osl id off len) x):
  DR w (fun _=>False) (.sl len (ZB off row)) x:=by
 obtain⟨ad,c,rfl,h2,h3⟩:=hv.osl_inv;rcases h3 with ⟨h3,h4⟩|⟨h3,h4,h5,h6⟩
 ·subst h3;exact .sl0 rfl
 ·cases h.blks id _ hb with
  |arr0 g=>rw[g] at h3;cases h3
  |arr C et g1 Y g3 g4 N O g7 U=>
  subst h5;refine .sl (sz:=sz) (fun i j=>C.getD ((ρ id).o+(off+i)*sz+j) undef) (fun h=>h) (Ys.1 O).1 (fun i hi=>by rw[Qhb];exact N _ (by omega)) (fun i j d hi I=>?_) (fun i j d hi I=>?_) (by omega)
  ·rw[Qhb] at I;have hj:=(Ya.1 I).1;rw[N _ (by omega)] at hj;have J:(off+i+1)*sz<=(ρ id).cap*sz:=Yf _ (by omega);rw[Yk (off+i)] at J;rw[Y,show(ρ id).o+off*sz+i*sz+j=(ρ id).o+(off+i)*sz+j by rw[Yk];omega];exact Qbr O (by omega)
  ·rw[Qhb] at I;exact(U (off+i) j d (by omega) I).free
theorem Qib (h:Sim P B w0 F ρ S a w):∀ {cs:List V} {ds:List D},Qof (Qk S.blks) cs=some ds->ds.length=cs.length∧∀(j:Nat) (d:D) (v:V) (x:Value),ds[j]? =some d->cs[j]? =some v->VR w (ZM B S.blks ρ) ρ v x->DR w (fun _=>False) d x
 |[],ds,hd=>by simp[Qof] at hd;subst hd;exact⟨rfl,fun j d v x h=>by simp at h⟩
 |u::r,ds,hd=>by
  cases u<;>simp only[Qof] at hd<;>first|cases hd|skip
  ·split at hd
   ·rename_i xs N;simp only[Yc] at hd;subst hd;have⟨U,O⟩:=Qib h N;refine⟨by simp[U],fun j d v x J hv I=>?_⟩
    cases j with
    |zero=>simp at J hv;subst J hv;cases I with|d I=>exact I.free
    |succ j=>exact O j d v x (by simpa using J) (by simpa using hv) I
   ·cases hd
  ·rename_i id off len;split at hd
   ·rename_i t sz n row xs hb N;simp only[Yc] at hd;subst hd;have⟨U,O⟩:=Qib h N;refine⟨by simp[U],fun j d v x J hv I=>?_⟩
    cases j with
    |zero=>simp at J hv;subst J hv;exact Qr7 h hb I
    |succ j=>exact O j d v x (by simpa using J) (by simpa using hv) I
   ·cases hd
theorem QlS (h:Sim P B w0 F ρ S a w) {id off len:Nat} {d:D} {x:Value} (I:slV (Qk S.blks) id off len=some d) (hv:VR w (ZM B S.blks ρ) ρ (.osl id off len) x):DR w (fun _=>False) d x:=by
 unfold slV at I;split at I
 ·rename_i hb;simp only[Yc] at I;subst I;exact Qr7 h hb hv
 ·rename_i t cs hb;split at I
  ·rename_i n ds hn Y;simp only[Yc] at I;subst I;have⟨i1,i2⟩:=Qib h Y;obtain⟨ad,c,rfl,h2,h3⟩:=hv.osl_inv;rcases h3 with ⟨h3,h4⟩|⟨h3,h4,h5,h6⟩
   ·subst h3;exact .sl0 rfl
   ·cases h.blks id _ hb with
    |box C g1 g2 g3 g4 g5 g6 g7 g8=>
    subst h5;have⟨q1,q2,_⟩:=g4;have a1:(ρ id).n=n+1:=by rw[q1,hn];omega
    have U:cs.length/(n+1)=(ρ id).sz:=by rw[g3,a1];exact Nat.mul_div_cancel_left _ (Nat.succ_pos n)
    rw[U];have J:∀i,i<len->i*(ρ id).sz+(ρ id).sz<=cs.length:=fun i hi=>by
     have:(i+1)*(ρ id).sz<=(ρ id).n*(ρ id).sz:=Yf _ (by omega);rw[Yk,Y0p] at this;omega
    have N:∀i j d,i<len->(QqJ (ρ id).sz ds i)[j]? =some d->j<(ρ id).sz∧ds[i*(ρ id).sz+j]? =some d:=fun i j d hi I=>by
     unfold QqJ at I;rw[YP] at I;split at I
     ·rw[YQ] at I;exact⟨by assumption,I⟩
     ·cases I
    refine .sl (sz:=(ρ id).sz) (fun i j=>C.getD ((ρ id).o+(i*(ρ id).sz+j)) undef) (fun h=>h) (Ys.1 g5).1 (fun i hi=>?_) (fun i j d hi I=>?_) (fun i j d hi I=>?_) (by omega)
    ·have:=J i hi;unfold QqJ;rw[Ym,XG];omega
    ·have⟨hj,_⟩:=N i j d hi I;have:=J i hi;have g6:=g6.1;rw[show(ρ id).o+0*(ρ id).sz+i*(ρ id).sz+j=(ρ id).o+(i*(ρ id).sz+j) by omega];exact Qbr g5 (by omega)
    ·have⟨hj,he⟩:=N i j d hi I;have:=J i hi;have O:i*(ρ id).sz+j<cs.length:=by omega
     exact i2 _ d _ _ he (Y5 O) (g8 _ _ (Y5 O))
  ·cases I
 ·cases I
theorem Qic (h:Sim P B w0 F ρ S a w):∀ {cs:List V} {ds:List D},Qog (Qk S.blks) cs=some ds->ds.length=cs.length∧∀(j:Nat) (d:D) (v:V) (x:Value),ds[j]? =some d->cs[j]? =some v->VR w (ZM B S.blks ρ) ρ v x->DR w (fun _=>False) d x
 |[],ds,hd=>by simp[Qog] at hd;subst hd;exact⟨rfl,fun j d v x h=>by simp at h⟩
 |u::r,ds,hd=>by
  cases u<;>simp only[Qog] at hd<;>first|cases hd|skip
  ·split at hd
   ·rename_i xs N;simp only[Yc] at hd;subst hd;have⟨U,O⟩:=Qic h N;refine⟨by simp[U],fun j d v x J hv I=>?_⟩
    cases j with
    |zero=>simp at J hv;subst J hv;cases I with|d I=>exact I.free
    |succ j=>exact O j d v x (by simpa using J) (by simpa using hv) I
   ·cases hd
  ·rename_i id off len;split at hd
   ·rename_i d0 xs hb N;simp only[Yc] at hd;subst hd;have⟨U,O⟩:=Qic h N;refine⟨by simp[U],fun j d v x J hv I=>?_⟩
    cases j with
    |zero=>simp at J hv;subst J hv;exact QlS h hb I
    |succ j=>exact O j d v x (by simpa using J) (by simpa using hv) I
   ·cases hd
theorem QgH {blk:Nat->Option Blk}:∀ {vs I:List V},Qb6 blk vs=some I->I.length=vs.length∧∀(j:Nat) (u:V),I[j]? =some u->∃v,vs[j]? =some v∧Qfo blk v=some u
 |[],I,h=>by simp[Qb6] at h;subst h;exact⟨rfl,fun j u h=>by simp at h⟩
 |v::r,I,h=>by
  simp only[Qb6] at h;split at h
  ·rename_i u us' O J;simp only[Yc] at h;subst h;have⟨Y,U⟩:=QgH J;refine⟨by simp[Y],fun j x N=>?_⟩
   cases j with
   |zero=>simp at N;subst N;exact⟨v,rfl,O⟩
   |succ j=>simpa using U j x (by simpa using N)
  ·cases h
theorem QqR (h:Sim P B w0 F ρ S a w) {v:V} {x:Value} (hv:VR w (ZM B S.blks ρ) ρ v x):∀(u:V) (ρ0:Env),Qfo (Qk S.blks) v=some u->VR w (fun _=>False) ρ0 u x:=by
 induction hv with
 |any=>intro u ρ0 I;simp only[Qfo,Yc] at I;subst I;exact .any
 |d hd=>intro u ρ0 I;simp only[Qfo,Yc] at I;subst I;exact .d hd.free
 |rp vals h1 h2 h3 h4=>intro u ρ0 I;simp only[Qfo,Yc] at I;subst I;exact .rp vals (fun h=>h) h2 h3 fun j d J=>(h4 j d J).free
 |osl0 h0 h1=>
  intro u ρ0 I;simp only[Qfo] at I;split at I
  ·rename_i hb;simp only[Yc] at I;subst I;exact .d (QlS h hb (.osl0 h0 h1))
  ·cases I
 |osl h1 h2 h3=>
  intro u ρ0 I;simp only[Qfo] at I;split at I
  ·rename_i hb;simp only[Yc] at I;subst I;exact .d (QlS h hb (.osl h1 h2 h3))
  ·cases I
 |ref h1 h2=>
  rename_i id row off;intro u ρ0 I;simp only[Qfo] at I;split at I
  ·rename_i t cs hb;split at I
   ·rename_i ds a6;simp only[Yc] at I;subst I;have⟨i1,Y⟩:=Qic h a6
    cases h.blks id _ hb with
    |box C g1 g2 g3 g4 g5 g6 g7 g8=>
    have e:(ρ id).o+0*(ρ id).sz+off=(ρ id).o+off:=by omega
    rw[e];have g6a:=g6.1;have key:∀(j:Nat) (d:D),ds[j]? =some d->∃v,(cs.drop off)[j]? =some v∧(ρ id).o+off+j<C.size:=fun j d J=>by
     have a1:=(Ya.1 J).1;rw[i1] at a1;refine⟨_,Y5 a1,?_⟩;simp at a1;omega
    refine .rp (fun j=>C.getD ((ρ id).o+off+j) undef) (fun h=>h) (Ys.1 g5).1 (fun j d J=>?_) fun j d J=>?_
    ·have⟨_,_,h4⟩:=key j d J;exact Qbr g5 h4
    ·have⟨v,h3,h4⟩:=key j d J;refine Y j d v _ J h3 ?_;rw[YQ] at h3;rw[Xk];exact g8 _ _ h3
   ·cases I
  ·rename_i t sz n rw' hb;simp only[Yc] at I;subst I
   cases h.blks id _ hb with
   |arr0 g=>rw[g] at h1;cases h1
   |arr C et g1 g2 g3 g4 g5 g6 g7 g8=>
   have hlen:=g5 row (by omega);have a5:(row+1)*sz<=(ρ id).cap*sz:=Yf _ (by omega);rw[Yk] at a5;refine .rp (fun j=>C.getD ((ρ id).o+row*sz+(off+j)) undef) (fun h=>h) (Ys.1 g6).1 (fun j d J=>?_) fun j d J=>?_
   ·rw[YQ] at J;have hj':=(Ya.1 J).1;rw[g2,Xk ((ρ id).o+row*sz)];exact Qbr g6 (by omega)
   ·rw[YQ] at J;exact(g8 row _ d (by omega) J).free
  ·cases I
 |agg hs h1 a2 ih=>
  intro u ρ0 I;simp only[Qfo] at I;split at I
  ·rename_i us N;simp only[Yc] at I;subst I;have⟨i1,Y⟩:=QgH N;refine .agg (by rw[i1];exact hs) h1 fun j u J=>?_;have⟨v,U,O⟩:=Y j u J;exact ih j v U u ρ0 O
  ·cases I
 |tup hs a2 ih=>
  intro u ρ0 I;simp only[Qfo] at I;split at I
  ·rename_i us N;simp only[Yc] at I;subst I;have⟨i1,Y⟩:=QgH N;refine .tup (by rw[i1];exact hs) fun j u J=>?_;have⟨v,U,O⟩:=Y j u J;exact ih j v U u ρ0 O
  ·cases I
 |fn hs a2 ih=>
  intro u ρ0 I;simp only[Qfo] at I;split at I
  ·rename_i us N;simp only[Yc] at I;subst I;have⟨i1,Y⟩:=QgH N;refine .fn (by rw[i1];exact hs) fun j u J=>?_;have⟨v,U,O⟩:=Y j u J;exact ih j v U u ρ0 O
  ·cases I
theorem Qnl (h:Sim P B w0 F ρ S a w) {vs N:List V} {vals:Array Value} (hv:Qhq w (ZM B S.blks ρ) ρ vs vals) (O:Qb6 (Qk S.blks) vs=some N) (ρ0:Env):Qhq w (fun _=>False) ρ0 N vals:=by
 have⟨Y,U⟩:=QgH O;refine⟨by rw[Y];exact hv.1,fun j u hj=>?_⟩;have⟨v,J,I⟩:=U j u hj;exact QqR h (hv.2 j v J) u ρ0 I
def Qc3 (k:Nat) (ρ1 ρ:Env):List Nb->Env
 |[]=>ρ
 |b::r=>(Qc3 k ρ1 ρ r).set (b.id+k) (ρ1 b.id)
theorem Qkr {k:Nat} {ρ1 ρ:Env}:∀ {nb:List Nb},nb.Pairwise (fun x y=>x.id≠y.id)->∀b∈nb,Qc3 k ρ1 ρ nb (b.id+k)=ρ1 b.id
 |x::r,hd,b,hb=>by
  rw[YB] at hd;simp only[Qc3];rcases Yi.1 hb with hb|hb
  ·subst hb;exact Env.set_same
  ·have:=hd.1 b hb;rw[Env.set_other (by omega)];exact Qkr hd.2 b hb
 |[],_,_,hb=>by simp at hb
theorem Qr8 {w':World} {ρ1:Env} {k m:Nat} (h:SimO P ow B w0 F ρ S a w') (hS:∀b,own S.blks ρ b->b<m) (hB:∀b,B b->b<m) (hC:∀b k,B.cel b k->b<m) (O:∀b,m<=b->ow b):∀(nb:List Nb),nb.Pairwise (fun x y=>x.id≠y.id)->
  (∀b∈nb,S.mentions (b.id+k)=false)->(∀b∈nb,∀i,i<b.n->∀d∈b.row i,QjM d=true)->
  (∀b∈nb,∃N,BR w' N ρ1 b.id (.arr b.t b.sz b.n b.row))->(∀x∈nb,∀y∈nb,(ρ1 x.id).ph=false->(ρ1 y.id).ph=false->(ρ1 x.id).b=(ρ1 y.id).b->x.id=y.id)->
  (∀x∈nb,(ρ1 x.id).ph=false->m<=(ρ1 x.id).b)->
  SimO P ow B w0 F (Qc3 k ρ1 ρ nb) ⟨S.base,S.nt,S.tmps,S.gds,nb.map (Nb.ent k)++S.blks,S.frames⟩ a w'∧
   (∀id,(∀b∈nb,b.id+k≠id)->S.mentions id=false->St.mentions ⟨S.base,S.nt,S.tmps,S.gds,nb.map (Nb.ent k)++S.blks,S.frames⟩ id=false)∧
   ∀b,own (nb.map (Nb.ent k)++S.blks) (Qc3 k ρ1 ρ nb) b->b<m∨ ∃x∈nb,(ρ1 x.id).ph=false∧(ρ1 x.id).b=b
 |[],_,_,_,_,_,_=>⟨h,fun id _ hm=>hm,fun b hb=>.inl (hS b hb)⟩
 |x::r,hd,hm,hf,hbr,hsep,hge=>by
  have I:=YB.1 hd;have⟨i1,i2,i3⟩:=Qr8 h hS hB hC O r I.2 (fun b hb=>hm b (by simp[hb])) (fun b hb=>hf b (by simp[hb])) (fun b hb=>hbr b (by simp[hb])) (fun a ha b hb=>hsep a (by simp[ha]) b (by simp[hb])) (fun a ha=>hge a (by simp[ha]));have a1:St.mentions ⟨S.base,S.nt,S.tmps,S.gds,r.map (Nb.ent k)++S.blks,S.frames⟩ (x.id+k)=false:=i2 _ (fun b hb e=>I.1 b hb (by omega)) (hm x (by simp));have⟨N,a6⟩:=hbr x (by simp);refine⟨?_,fun id hid J=>?_,fun b hb=>?_⟩
  ·refine Qux i1 a1 (fun hp=>⟨O _ (hge x (by simp) hp),fun ho=>?_,⟨fun a8=>by have:=hB _ a8;have:=hge x (by simp) hp;omega,fun k hc=>by have:=hC _ _ hc;have:=hge x (by simp) hp;omega⟩⟩) (a6.shiftFlat (hf x (by simp)) Env.set_same rfl);rcases i3 _ ho with h1|⟨y,Y,a2,a5⟩
   ·have:=hge x (by simp) hp;omega
   ·exact I.1 y Y (hsep x (by simp) y (by simp[Y]) hp a2 a5.symm)
  ·have h0:=i2 id (fun b hb=>hid b (by simp[hb])) J;have a7:Nat.beq (x.id+k) id=false:=by
    cases hb:Nat.beq (x.id+k) id
    ·rfl
    ·exact absurd (Y9 hb) (hid x (by simp))
   have⟨p1,p2,p3,p4⟩:=St.mentions_parts h0;dsimp only at p1 p2 p3 p4;simp only[St.mentions,p1,p2,p4,YI,Xq,Nb.ent,Q8,a7,Blk.mentions];have a9:Q8 id (r.map (Nb.ent k)++S.blks)=false:=p3;simp[a9]
  ·obtain⟨i,q,U,hp,rfl⟩:=hb;simp only[YI,Xq,Qc3] at U hp|-;rcases QY U with ⟨rfl,_⟩|⟨hn,U⟩
   ·rw[Env.set_same] at hp|-;exact .inr ⟨x,by simp,hp,rfl⟩
   ·rw[Env.set_other (YY hn)] at hp|-;rcases i3 _ ⟨i,q,U,hp,rfl⟩ with h1|⟨y,Y,h2⟩
    ·exact .inl h1
    ·exact .inr ⟨y,by simp[Y],h2⟩
theorem Qr9 {f:FuncId} {args args':List V} {res:V} {nb:List Nb} {K:V->St->Prop} (k:Nat) (h:PureC P f args' res nb) (hv:Qb6 (Qk S.blks) args=some args')
  (hm:∀b∈nb,S.mentions (b.id+k)=false) (hk:K (res.shift k) ⟨S.base,S.nt,S.tmps,S.gds,nb.map (Nb.ent k)++S.blks,S.frames⟩):CallP P f args S K:=by
 refine⟨h.can,fun B w0 F ρ a w vals hs ha=>Calls.mono (h.out w vals ρ (Qnl hs ha hv ρ) (hs.tabs hs.hB)) ?_⟩;rintro e w' ⟨v,ρ1,rfl,h1,h2,h3,h4,h5⟩;have hS:∀b,own S.blks ρ b->b<w.heap.size:=fun b hb=>QdY hs (.inl hb);have keep:Keep w (ZM B S.blks ρ) w' (fun b=>ZM B S.blks ρ b∨w.heap.size<=b):=⟨h1.size,fun b hb ho=>⟨h1.old b hb,fun I=>by
  rcases I with I|I
  ·exact ho I
  ·omega⟩⟩
 have hp:=hs.pure h1;have so:SimO P (fun b=>ZM B S.blks ρ b∨w.heap.size<=b) B w0 F ρ S a w':=
  ⟨hp.below,hp.tab,hp.hB,hp.defers,hp.nt,hs.top.keep keep fun _ _=>rfl,fun id b hb=>(hs.blks id b hb).keep keep rfl (fun hp=>h1.old _ ((hs.blks id b hb).lt hp)) fun _ _=>rfl,hs.sep,hs.ge,hs.frames.1,
   fun i f tm hf ht=>(hs.frames.2 i f tm hf ht).keep keep fun _ _=>rfl⟩
 have⟨i1,_,i3⟩:=Qr8 (ρ1:=ρ1) (k:=k) so hS hs.hB (fun b k hc=>YK (hs.below.clt b k hc) hs.below.size) (fun b hb=>.inr hb) nb h.dist hm h.rows (fun b hb=>⟨_,h3 b hb⟩) h4 h5;refine⟨v,_,_,_,rfl,i1.shrink fun b hb=>?_,h2.shiftFlat h.flat fun id hid=>?_,hk⟩
 ·rcases hb with hb|hb
  case inr=>exact .inl (.inr hb)
  rcases i3 b hb with h6|⟨x,hx,a1,rfl⟩
  ·obtain⟨i,q,N,Y,rfl⟩:=hb;rcases YW ((Qc3 k ρ1 ρ nb i).b) w.heap.size with U|U
   ·have key:∀(l:List Nb),(∀x∈l,(ρ1 x.id).ph=false->w.heap.size<=(ρ1 x.id).b)->∀q,Qk (l.map (Nb.ent k)++S.blks) i=some q->(Qc3 k ρ1 ρ l i).ph=false->(Qc3 k ρ1 ρ l i).b<w.heap.size->own S.blks ρ (Qc3 k ρ1 ρ l i).b:=by
     intro l
     induction l with
     |nil=>intro _ q N hp _;exact⟨i,q,N,hp,rfl⟩
     |cons x r ih=>
      intro O q N hp J;simp only[YI,Xq,Qc3] at N hp J|-;rcases QY N with ⟨rfl,_⟩|⟨hn,N⟩
      ·rw[Env.set_same] at hp J;have:=O x (by simp) hp;omega
      ·rw[Env.set_other (YY hn)] at hp J|-;exact ih (fun y hy=>O y (by simp[hy])) q N hp J
    exact .inl (.inl (key nb h5 q N Y U))
   ·exact .inr U
  ·exact .inr (h5 x hx a1)
 ·obtain⟨b,hb,rfl⟩:=h.ids id hid;exact Qkr h.dist b hb
theorem Qpx {sc scN:Prop->Prop} {f:FuncId} {args args':List V} {res:V} {K:V->St->Prop} (hc:Callable P f) (a1:sc (PureC P f args' res [])) (N:∀p q:Prop,(p->q)->sc p->sc q) (hN:∀p:Prop,p->scN p) (I:Qcv res=true) (hm:∀id,res.mentions id=false)
  (hv:Qb6 (Qk S.blks) args=some args') (hk:K res S):CallG P sc scN f args S K:=by
 refine⟨hc,res,S,hk,N _ _ (fun h B w0 F ρ a w vals hs ha=>?_) a1,hN _ fun _ _ _ ρ _ _ h=>⟨ρ,h⟩⟩;refine Calls.mono (h.out w vals ρ (Qnl hs ha hv ρ) (hs.tabs hs.hB)) ?_;rintro e w' ⟨v,ρ1,rfl,h1,h2,_⟩;refine⟨v,ρ,rfl,hs.pure h1,?_⟩;have key:∀ {v:V} {x:Value} {Y U:Nat->Prop} {ρ1 ρ2:Env},VR w' Y ρ1 v x->Qcv v=true->(∀id,v.mentions id=false)->VR w' U ρ2 v x:=by
  intro v x Y U ρ1 ρ2 h
  induction h with
  |any=>intro _ _;exact .any
  |d h=>intro I _;exact .d (h.atom I _ _)
  |ref=>intro I _;simp[Qcv] at I
  |osl0=>rename_i id _ _ _ _ _;intro _ hm;have:=hm id;simp[V.mentions] at this
  |osl=>rename_i id _ _ _ _ _;intro _ hm;have:=hm id;simp[V.mentions] at this
  |rp=>intro I _;simp[Qcv] at I
  |agg hs h1 hv ih=>
   intro I hm;refine .agg hs h1 fun j v O=>ih j v O (QeI (by simpa[Qcv] using I) O) fun id=>?_
   cases J:v.mentions id
   ·rfl
   ·have:=hm id;simp only[V.mentions] at this;rw[Q9 O J] at this;cases this
  |tup hs hv ih=>
   intro I hm;refine .tup hs fun j v O=>ih j v O (QeI (by simpa[Qcv] using I) O) fun id=>?_
   cases J:v.mentions id
   ·rfl
   ·have:=hm id;simp only[V.mentions] at this;rw[Q9 O J] at this;cases this
  |fn=>intro I _;simp[Qcv] at I
 exact key h2 I hm
end Go.Ab
namespace Go.Ab
open Go.RowKit
variable {P:Program} {tb:Tb} {w:World} {ow:Nat→Prop} {ρ:Env} {a:Act} {B:Bd} {w0:World} {F:List (Array Value)} {S:St}
def Qye (w:World):Bd:=⟨fun b=>b<w.heap.size,fun _=>False,fun _ h=>h.elim,fun _ _=>False⟩
def Qyf (bs:List (Nat×Blk)):List Nb->Prop
 |[]=>True
 |b::r=>(match Qk bs b.id with
  |some (.arr _ sz n row)=>sz=b.sz∧n=b.n∧∀i,i<b.n->row i=b.row i
  | _ => Stuck "no such row") ∧ Qyf bs r
theorem VR.flat {v x} {w':World} {ow':Nat->Prop} (h:VR w ow ρ v x) (I:Qcv v=true):VR w' ow' ρ v x:=by
 induction h with
 |any=>exact .any
 |d h=>exact .d (h.atom I _ _)
 |ref h1 h2=>simp[Qcv] at I
 |osl0 O h1=>exact .osl0 O h1
 |osl h1 h2 h3=>exact .osl h1 h2 h3
 |rp=>simp[Qcv] at I
 |agg hs h1 hv N=>exact .agg hs h1 fun j v J=>N j v J (QeI (by simpa[Qcv] using I) J)
 |tup hs hv N=>exact .tup hs fun j v J=>N j v J (QeI (by simpa[Qcv] using I) J)
 |fn hs hv N=>simp[Qcv] at I
theorem Qsa {bs:List (Nat×Blk)}:∀ {nb:List Nb},Qyf bs nb->∀b∈nb,∃t n row,Qk bs b.id=some (.arr t b.sz n row)∧n=b.n∧∀i,i<b.n->row i=b.row i
 |x::r,h,b,hb=>by
  simp only[Qyf] at h;have⟨h1,h2⟩:=h;rcases Yi.1 hb with hb|hb
  ·subst hb;split at h1
   ·rename_i t sz n row hl;obtain⟨rfl,h3,h4⟩:=h1;exact⟨t,n,row,hl,h3,h4⟩
   ·exact h1.no.elim
  ·exact Qsa h2 b hb
 |[],_,_,hb=>by simp at hb
structure LE (S S':St):Prop where
 out:∀ {P:Program} B w0 F ρ a w,Sim P B w0 F ρ S a w→∃ρ',Sim P B w0 F ρ' S' a w
theorem LE.refl (S:St):LE S S:=⟨fun _ _ _ ρ _ _ h=>⟨ρ,h⟩⟩
theorem LE.trans {S S' I:St} (h:LE S S') (k:LE S' I):LE S I:=⟨fun B w0 F ρ a w hs=>by
 have⟨ρ',h1⟩:=h.out B w0 F ρ a w hs;exact k.out B w0 F ρ' a w h1⟩
structure VLe (v v':V):Prop where
 out:∀w ow ρ x,VR w ow ρ v x→VR w ow ρ v' x
theorem VLe.refl (v:V):VLe v v:=⟨fun _ _ _ _ h=>h⟩
theorem VLe.of {v v':V} (h:v=v'):VLe v v':=h▸ .refl v
theorem VLe.rows {n O:Nat} {row I:Nat->List D} (U:n=O) (h:∀i,i<n->row i=I i):VLe (.d (.sl n row)) (.d (.sl O I)):=⟨fun w ow ρ x N=>by
 subst U
 cases N with|d N=>
 cases N with
 |sl0 h=>exact .d (.sl0 h)
 |sl vals h1 h2 h3 h4 h5 h6=>exact .d (.sl vals h1 h2 (fun i hi=>by rw[<-h i hi];exact h3 i hi) (fun i j d hi J=>h4 i j d hi (by rw[h i hi];exact J)) (fun i j d hi J=>h5 i j d hi (by rw[h i hi];exact J)) h6)⟩
theorem VLe.nil_sl {n:Nat} {row:Nat->List D} (J:n=0):VLe (.d .nil) (.d (.sl n row)):=⟨fun w ow ρ x I=>by
 cases I with|d I=>cases I;exact .d (.sl0 J)⟩
theorem VLe.nil_osl {id n:Nat} (J:n=0):VLe (.d .nil) (.osl id 0 n):=⟨fun w ow ρ x I=>by
 cases I with|d I=>cases I;exact .osl0 J (XW _)⟩
theorem VLe.fnD {f:FuncId} {vs:List V} {caps:List (List D)} (h:Qs7 vs=some caps):VLe (.fn f vs) (.d (.fn f caps)):=⟨fun w ow ρ x I=>by
 rw[Qoa h] at I;exact .d I.fnDat⟩
structure BLe (b b':Blk):Prop where
 out:∀w ow ρ id,BR w ow ρ id b→BR w ow ρ id b'
 bx:b'.bx=b.bx
theorem BLe.refl (b:Blk):BLe b b:=⟨fun _ _ _ _ h=>h,rfl⟩
theorem BLe.rows {t t':TypeId} {sz J n n':Nat} {row I:Nat->List D} (hs:sz=J) (hn:n=n') (h:∀i,i<n->row i=I i):BLe (.arr t sz n row) (.arr t' J n' I):=⟨fun w ow ρ id hb=>by
 subst hs hn
 cases hb with
 |arr0 Y U N O=>exact .arr0 Y U N O
 |arr C et Y U N O k5 k6 k7 k8=>exact .arr C et Y U N O (fun i hi=>by rw[<-h i hi];exact k5 i hi) k6 k7 fun i j d hi hd=>k8 i j d hi (by rw[h i hi];exact hd),rfl⟩
def CellsLe:List V->List V->Prop
 |[],[]=>True
 |v::r,v'::r'=>VLe v v'∧CellsLe r r'
 | _, _ => Stuck "cells"
theorem CellsLe.get:∀ {cs I:List V},CellsLe cs I->cs.length=I.length∧∀(j:Nat) (v':V),I[j]? =some v'->∃v,cs[j]? =some v∧VLe v v'
 |[],[],_=>⟨rfl,fun j v h=>by simp at h⟩
 |v::r,v'::r',h=>by
  simp only[CellsLe] at h;have⟨h1,h2⟩:=h.2.get;refine⟨by simp[h1],fun j u J=>?_⟩
  cases j with
  |zero=>simp at J;subst J;exact⟨v,rfl,h.1⟩
  |succ j=>simpa using h2 j u (by simpa using J)
 |[],_::_,h=>h.no.elim
 |_::_,[],h=>h.no.elim
theorem BLe.box {t N:TypeId} {cs I:List V} (h:CellsLe cs I) (ht:bcl N=bcl t:=by kernel_rfl):BLe (.box t cs) (.box N I):=⟨fun w ow ρ id hb=>by
 have⟨h1,h2⟩:=h.get
 cases hb with
 |box C k1 k2 k3 k4 Y U k7 k8=>
  refine .box C k1 k2 (by rw[<-h1];exact k3) (by rw[ht];exact k4) Y (by rw[<-h1];exact U) (by rw[<-h1];exact k7) fun j v hj=>?_;have⟨u,O,J⟩:=h2 j v hj;exact J.out _ _ _ _ (k8 j u O),rfl⟩
theorem VLe.aggL {vs I:List V} (h:CellsLe vs I):VLe (.agg vs) (.agg I):=⟨fun w ow ρ x O=>by
 have⟨h1,h2⟩:=h.get
 cases O with
 |agg hs ho hv=>
  refine .agg (by rw[hs,h1]) ho fun j v U=>?_;have⟨u,N,J⟩:=h2 j v U;exact J.out _ _ _ _ (hv j u N)⟩
def LeT (old:List (Nat×V)):List (Nat×V)->Prop
 |[]=>True
 |(t,v)::r=>(match Qk old t with
  |some u=>VLe u v
  |none=>VLe .any v)∧LeT old r
def LeB (old:List (Nat×Blk)):List (Nat×Blk)->Prop
 |[]=>True
 |(i,b)::r=>(match Qk old i with
  |some c=>BLe c b
  | none => Stuck "weakening no such block") ∧ LeB old r
def LeF:List Fr->List Fr->Prop
 |[],[]=>True
 |f::r,f'::r'=>(f'.gds=[]∧LeT f.tmps f'.tmps)∧LeF r r'
 | _, _ => Stuck "weakening frames"
theorem Quy {old:List (Nat×V)}:∀ {new:List (Nat×V)} {t:Nat} {v:V},LeT old new->Qk new t=some v->∃u,(Qk old t=some u∨(Qk old t=none∧u=.any))∧VLe u v
 |(s,x)::r,t,v,h,hl=>by
  simp only[LeT] at h;rcases QY hl with ⟨rfl,rfl⟩|⟨hn,hl⟩
  ·have h1:=h.1;split at h1
   ·rename_i u I;exact⟨u,.inl I,h1⟩
   ·rename_i I;exact⟨.any,.inr ⟨I,rfl⟩,h1⟩
  ·exact Quy h.2 hl
 |[],_,_,_,hl=>by simp[Qk] at hl
theorem QgI {old:List (Nat×Blk)}:∀ {new:List (Nat×Blk)} {i:Nat} {b:Blk},LeB old new->Qk new i=some b->∃c,Qk old i=some c∧BLe c b
 |(s,x)::r,i,b,h,hl=>by
  simp only[LeB] at h;rcases QY hl with ⟨rfl,rfl⟩|⟨hn,hl⟩
  ·have h1:=h.1;split at h1
   ·rename_i c hc;exact⟨c,hc,h1⟩
   ·exact h1.no.elim
  ·exact QgI h.2 hl
 |[],_,_,_,hl=>by simp[Qk] at hl
theorem Quz:∀ {old new:List Fr},LeF old new->old.length=new.length∧∀(i:Nat) (I:Fr),new[i]? =some I->∃f,old[i]? =some f∧I.gds=[]∧LeT f.tmps I.tmps
 |[],[],_=>⟨rfl,fun i f h=>by simp at h⟩
 |f::r,I::r',h=>by
  simp only[LeF] at h;have⟨h1,h2⟩:=Quz h.2;refine⟨by simp[h1],fun i g J=>?_⟩
  cases i with
  |zero=>simp at J;subst J;exact⟨f,rfl,h.1.1,h.1.2⟩
  |succ i=>simpa using h2 i g (by simpa using J)
 |[],_::_,h=>h.no.elim
 |_::_,[],h=>h.no.elim
theorem FrR.le {f:Fr} {I:List (Nat×V)} {tm:Array Value} (h:FrR w ow ρ f tm) (hl:LeT f.tmps I):FrR w ow ρ ⟨I,[]⟩ tm:=by
 refine⟨fun t v hv=>?_,fun g O=>by simp at O⟩;have⟨u,N,J⟩:=Quy hl hv;refine J.out _ _ _ _ ?_;rcases N with N|⟨_,rfl⟩
 ·exact h.tmps t u N
 ·exact .any
theorem QBz {base nt N:Nat} {ts Y:List (Nat×V)} {gs:List Gd} {bs bs':List (Nat×Blk)} {fs O:List Fr} (ht:LeT ts Y) (hb:LeB bs bs') (hf:LeF fs O):
  LE ⟨base,nt,ts,gs,bs,fs⟩ ⟨N,nt,Y,[],bs',O⟩:=by
 refine⟨fun B w0 F ρ a w h=>⟨ρ,?_⟩⟩;have U:∀b,own bs' ρ b->own bs ρ b:=by
  rintro b ⟨i,k,hk,hp,rfl⟩;have⟨c,hc,_⟩:=QgI hb hk;exact⟨i,c,hc,hp,rfl⟩
 have keep:Keep w (ZM B bs ρ) w (ZM B bs' ρ):=⟨Yh _,fun b _ ho=>⟨rfl,fun h=>ho (h.imp (U b) fun h=>h)⟩⟩;have⟨f1,f2⟩:=Quz hf;refine⟨h.below,h.tab,h.hB,h.defers,h.nt,(h.top.le ht).keep keep fun _ _=>rfl,fun id b a7=>?_,fun i j x y hx hy=>?_,fun i x hx=>?_,by rw[<-h.frames.1];exact f1.symm,fun i f' tm a6 a8=>?_⟩
 ·have⟨c,hc,J⟩:=QgI hb a7;have:=J.out _ _ _ _ (h.blks id c hc);exact this.keep keep rfl (fun _=>rfl) fun _ _=>rfl
 ·have⟨x',I,_⟩:=QgI hb hx;have⟨y',a1,_⟩:=QgI hb hy;exact h.sep i j x' y' I a1
 ·have⟨x',I,J⟩:=QgI hb hx;rw[J.bx];exact h.ge i x' I
 ·have⟨f,a5,hg,a2⟩:=f2 i f' a6;have⟨ts2,gs2⟩:=f';dsimp only at hg;subst hg;exact((h.frames.2 i f tm a5 a8).le a2).keep keep fun _ _=>rfl
theorem Qtl (S:St) (id:Nat) (t:TypeId) (sz:Nat) (row:Nat->List D) (hm:S.mentions id=false):LE S ⟨S.base,S.nt,S.tmps,S.gds,(id,.arr t sz 0 row)::S.blks,S.frames⟩:=
 ⟨fun _ _ _ _ _ _ h=>⟨_,(QdL h.o hm (fun _ h=>h) none).1⟩⟩
theorem QBA {c:Code} {S S':St} {Q:Exit->St->Prop} (h:LE S S') (k:WP P c S' Q):WP P c S Q:=fun B w0 F ρ a w hs=>by
 have⟨ρ',h1⟩:=h.out B w0 F ρ a w hs;exact k B w0 F ρ' a w h1
theorem Qb (I:TOk P tb) {x y:Code} {Q:Exit->St->Prop} (h:wpc P tb x S fun e S=>match e with
   | .normal=>wpc P tb y S Q
   |e=>Q e S):SeqP P x y S Q:=by
 refine⟨fun B w0 F ρ a w hs=>wp_seq (wp_mono (QaM I x S _ h B w0 F ρ a w hs) ?_)⟩;rintro e J w' ⟨ρ',S',h1,h2⟩
 cases e with
 |normal=>exact QaM I y S' Q h2 B w0 F ρ' J w' h1
 |_=>exact⟨ρ',S',h1,h2⟩
theorem Qah (U:TOk P tb) {ι:Type} {x y:Code} {Q:Exit->St->Prop} (I:ι->St) (good:ι->Prop) (h:wpc P tb x S fun e S'=>match e with
   | .normal=>∃i,good i∧LE S' (I i)
   |e=>Q e S') (k:∀i,good i->wpc P tb y (I i) Q):SeqP P x y S Q:=by
 refine⟨fun B w0 F ρ a w hs=>wp_seq (wp_mono (QaM U x S _ h B w0 F ρ a w hs) ?_)⟩;rintro e O w' ⟨ρ',S',h1,h2⟩
 cases e with
 |normal=>
  have⟨i,Y,N⟩:=h2;have⟨J,h3⟩:=N.out B w0 F ρ' O w' h1;exact QaM U y (I i) Q (k i Y) B w0 F J O w' h3
 |_=>exact⟨ρ',S',h1,h2⟩
end Go.Ab
