/-
  Calls, weakening, loops: a part of the frame in which a given row's proof walks the program; no condition.
-/
import Derived.Test.YtoknnjiangjccaaGreatDoorAbz2
import Derived.Deep.LoopGhost
set_option linter.all false
namespace Go.Ab
open Go.RowKit
variable {P:Program} {tb:Tb} {w:World} {ow:Nat→Prop} {ρ:Env} {a:Act} {B:Bd} {w0:World} {F:List (Array Value)} {S:St}
def Qnk:Nat->List V->List (Nat×V)
 |_,[]=>[]
 |i,v::r=>(i,v)::Qnk (i+1) r
theorem QgS:∀ {i:Nat} {vs:List V} {t:Nat} {v:V},Qi (Qnk i vs) t=some v->i<=t∧vs[t-i]? =some v
 |i,u::r,t,v,h=>by
  rcases QZ h with ⟨rfl,rfl⟩|⟨hn,h⟩
  ·simp
  ·have⟨h1,h2⟩:=QgS h;refine⟨by omega,?_⟩;rw[show t-i=(t-(i+1))+1 by omega];simpa using h2
 |i,[],t,v,h=>by simp[Qnk,Qi] at h
theorem QiZ {vals:Array Value} {k t:Nat} (h:t<vals.size):(vals++Array.replicate k undef).getD t undef=vals.getD t undef:=by
 simp[Y6,Xw h]
def QzP (base nt:Nat) (K:V->St->Prop) (S':St) (v:V):Prop:=match S' with
 |⟨_,_,_,_,bs,⟨ts,gs⟩::fs⟩=>K v ⟨base,nt,ts,gs,bs,fs⟩
 | _ => Stuck "return"
def QzQ (tb:Tb) (rs:List ResultVar) (base nt:Nat) (K:V->St->Prop):Exit->St->Prop:=fun e S'=>match e with
 | .ret=>QqJ tb rs S' (QzP base nt K S')
 | .normal=>QqJ tb rs S' (QzP base nt K S')
 | _ => Stuck "return no way out"
theorem QrV (hT:TOk P tb) {fn:Func} {base:Nat} {K:V->St->Prop} {I:Act} (O:I.tmps.size=S.nt) (U:I.defers=[]) {S':St} {J:Act} (h:Sim P B w0 (I.tmps::F) ρ S' J w)
  (hk:QqJ tb fn.results.toList S' (QzP base S.nt K S')):
  J.defers=[]∧∃v,(results fn J.tmps).run P w=.ok v w∧∃v' ρ' x G,Ending.returned v=.returned v'∧Sim P B w0 F ρ' G I w∧VR w (ZL B G.blks ρ') ρ' x v'∧K x G:=by
 have⟨x,v,h1,h2,h3⟩:=QiY hT h fn _ hk;refine⟨h.defers,v,h1,v,ρ,x,?_⟩;have⟨b',nt',ts',gs',bs',Y⟩:=S'
 cases Y with
 |nil=>exact h3.no.elim
 |cons f fs=>
  have⟨ts,gs⟩:=f;refine⟨⟨base,S.nt,ts,gs,bs',fs⟩,rfl,⟨h.below,h.tab,h.hB,U,O,h.frames.2 0 ⟨ts,gs⟩ I.tmps rfl rfl,h.blks,h.sep,h.ge,by simpa using h.frames.1,fun i f tm hf ht=>h.frames.2 (i+1) f tm (by simpa using hf) (by simpa using ht)⟩,h2,h3⟩
theorem QrW (U : TOk P tb) {f : FuncId} {fn : Func} {c : Code} {args : List V} {K : V -> St -> Prop} (b : Nat) (O : P.funcs[f]? = some fn) (hb : fn.body = some c) (Y : (fn.name == "runtime.NumGoroutine") = false) (hl : Nat.ble args.length fn.ntmps = true)
  (h:wpc P tb c ⟨b,fn.ntmps,Qnk 0 args,[],S.blks,⟨S.tmps,S.gds⟩::S.frames⟩ (QzQ tb fn.results.toList S.base S.nt K)):CallP P f args S K:=by
 refine⟨⟨fn,O,Y,by simp[hb]⟩,fun B w0 F ρ a w vals hs hv=>?_⟩;have hl:=Ys hl;have hvs:=hv.1;refine calls_of_wp O hb (wp_mono (Qam U c _ _ h B w0 (a.tmps::F) ρ ⟨vals++Array.replicate (fn.ntmps-vals.size) undef,[]⟩ w ?_) ?_)
 ·refine⟨hs.below,hs.tab,hs.hB,rfl,by simp;omega,⟨fun t v ht=>?_,fun g hg=>by simp at hg⟩,hs.blks,hs.sep,hs.ge,by simpa using hs.frames.1,fun i fr tm G I=>?_⟩
  ·have⟨_,h2⟩:=QgS ht;have J:=(Y8.1 h2).1;simp only[Nat.sub_zero] at h2 J;dsimp only;rw[QiZ (by omega)];exact hv.2 t v h2
  ·cases i with
   |zero=>simp at G I;subst G I;exact hs.top
   |succ i=>exact hs.frames.2 i fr tm (by simpa using G) (by simpa using I)
 ·rintro e a' w' ⟨ρ',S',h1,h2⟩
  cases e<;>simp only[QzQ] at h2<;>first
   |exact h2.no.elim
   |exact QrV (S:=S) U hs.nt hs.defers h1 h2
def Qi0:D->Bool
 | .sl ..=>false
 | .fn ..=>false
 |_=>true
mutual
def Qcl:V->Bool
 | .any=>true
 | .d x=>Qi0 x
 | .osl ..=>true
 | .agg vs=>QrX vs
 | .tup vs=>QrX vs
 |_=>false
def QrX:List V->Bool
 |[]=>true
 |v::r=>Qcl v&&QrX r
end
theorem Qes:∀ {vs:List V} {j:Nat} {v:V},QrX vs=true->vs[j]? =some v->Qcl v=true
 |u::r,0,v,h,hj=>by simp at hj;subst hj;simp[QrX] at h;exact h.1
 |u::r,j+1,v,h,hj=>by simp[QrX] at h;exact Qes h.2 (by simpa using hj)
 |[],_,_,_,hj=>by simp at hj
theorem DR.atom {x v} (h:DR w ow x v) (G:Qi0 x=true) (w':World) (ow':Nat->Prop):DR w' ow' x v:=by
 cases h with
 |int=>exact .int
 |bool=>exact .bool
 |str=>exact .str
 |nil=>exact .nil
 |zn=>exact .zn
 |sl0=>simp[Qi0] at G
 |sl=>simp[Qi0] at G
 |fn=>simp[Qi0] at G
theorem DR.free {x v} (h:DR w ow x v):DR w (fun _=>False) x v:=h.keep ⟨Yi _,fun _ _ _=>⟨rfl,fun h=>h⟩⟩
mutual
def V.shift (k:Nat):V->V
 | .ref i r o=>.ref (i+k) r o
 | .osl i o l=>.osl (i+k) o l
 | .agg vs=>.agg (Qhe k vs)
 | .tup vs=>.tup (Qhe k vs)
 | .fn f vs=>.fn f (Qhe k vs)
 | .any=>.any
 | .d x=>.d x
 | .rp cs=>.rp cs
def Qhe (k:Nat):List V->List V
 |[]=>[]
 |v::r=>v.shift k::Qhe k r
end
theorem Qi1 {k:Nat}:∀(vs:List V) (j:Nat),(Qhe k vs)[j]? =(vs[j]?).map (V.shift k)
 |[],j=>by simp[Qhe]
 |v::r,0=>by simp[Qhe]
 |v::r,j+1=>by simpa[Qhe] using Qi1 r j
theorem Qfu {k:Nat}:∀(vs:List V),(Qhe k vs).length=vs.length
 |[]=>rfl
 |v::r=>by simp[Qhe,Qfu r]
theorem VR.shiftFlat {v x} {k:Nat} {ρ':Env} {w':World} {ow':Nat->Prop} (h:VR w ow ρ v x) (I:Qcl v=true) (J:∀id,v.mentions id=true->ρ' (id+k)=ρ id):VR w' ow' ρ' (v.shift k) x:=by
 induction h with
 |any=>exact .any
 |d h=>exact .d (h.atom I _ _)
 |ref h1 h2=>simp[Qcl] at I
 |osl0 U h1=>rename_i id off len ad;exact .osl0 U (by rw[J id (by simp[V.mentions])];exact h1)
 |osl h1 h2 h3=>
  rename_i id off len;have e:=J id (by simp[V.mentions]);rw[<-e];exact .osl (by rw[e];exact h1) (by rw[e];exact h2) (by rw[e];exact h3)
 |rp=>simp[Qcl] at I
 |agg hs h1 hv O=>
  refine .agg (by rw[Qfu];exact hs) h1 fun j v hj=>?_;rw[Qi1] at hj;obtain⟨v',G,rfl⟩:=Yc.1 hj;exact O j v' G (Qes (by simpa[Qcl] using I) G) fun id hm=>J id (by simpa[V.mentions] using Zc G hm)
 |tup hs hv O=>
  refine .tup (by rw[Qfu];exact hs) fun j v hj=>?_;rw[Qi1] at hj;obtain⟨v',G,rfl⟩:=Yc.1 hj;exact O j v' G (Qes (by simpa[Qcl] using I) G) fun id hm=>J id (by simpa[V.mentions] using Zc G hm)
 |fn hs hv O=>simp[Qcl] at I
structure Nb where
 id:Nat
 t:TypeId
 sz:Nat
 n:Nat
 row:Nat→List D
def Nb.ent (k:Nat) (b:Nb):Nat×Blk:=(b.id+k,.arr b.t b.sz b.n b.row)
structure PureC (P:Program) (f:FuncId) (args:List V) (res:V) (nb:List Nb):Prop where
 can:Callable P f
 flat:Qcl res=true
 rows:∀b∈nb,∀i,i<b.n→∀d∈b.row i,Qi0 d=true
 dist:nb.Pairwise fun x y=>x.id≠y.id
 ids:∀id,res.mentions id=true→∃b∈nb,b.id=id
 out:∀w vals ρ0,Qhx w (fun _=>False) ρ0 args vals→TabB P (fun b=>b<w.heap.size) w→Calls P f vals w fun e w'=>∃v ρ,e=.returned v∧Pure w w'∧VR w' (fun b=>b<w.heap.size) ρ res v∧
  (∀b∈nb,BR w' (fun b=>b<w.heap.size) ρ b.id (.arr b.t b.sz b.n b.row))∧(∀x∈nb,∀y∈nb,(ρ x.id).ph=false→(ρ y.id).ph=false→(ρ x.id).b=(ρ y.id).b→x.id=y.id)∧(∀x∈nb,(ρ x.id).ph=false→w.heap.size≤(ρ x.id).b)
theorem BR.shiftFlat {b:Nb} {k:Nat} {ρ':Env} {w':World} {ow':Nat->Prop} (h:BR w ow ρ b.id (.arr b.t b.sz b.n b.row)) (U:∀i,i<b.n->∀d∈b.row i,Qi0 d=true) (G:ρ' (b.id+k)=ρ b.id) (Y:w'.heap=w.heap):
  BR w' ow' ρ' (b.id+k) (.arr b.t b.sz b.n b.row):=by
 cases h with
 |arr0 h1 h2 h3 h4=>exact .arr0 (by rw[G];exact h1) (by rw[G];exact h2) (by rw[G];exact h3) h4
 |arr C et h1 h2 h3 h4 h5 h6 J O=>
  refine .arr C et (by rw[G];exact h1) (by rw[G];exact h2) (by rw[G];exact h3) (by rw[G];exact h4) h5 (by rw[G,Y];exact h6) (by rw[G];exact J) fun i j d hi I=>?_;rw[G];exact(O i j d hi I).atom (U i hi d (X1 I)) _ _
theorem SimO.shrink (h:SimO P ow B w0 F ρ S a w) (hs:∀b,ZL B S.blks ρ b->ow b):Sim P B w0 F ρ S a w:=by
 have k:Keep w ow w (ZL B S.blks ρ):=⟨Yi _,fun b _ ho=>⟨rfl,fun h=>ho (hs b h)⟩⟩;exact⟨h.below,h.tab,h.hB,h.defers,h.nt,h.top.keep k fun _ _=>rfl,fun id b hb=>(h.blks id b hb).keep k rfl (fun _=>rfl) fun _ _=>rfl,h.sep,h.ge,h.frames.1,fun i f tm G ht=>(h.frames.2 i f tm G ht).keep k fun _ _=>rfl⟩
theorem Qs3 {id:Nat} {blk:Blk} {loc:Loc} (h:SimO P ow B w0 F ρ S a w) (hm:S.mentions id=false) (O:loc.ph=false->ow loc.b∧¬own S.blks ρ loc.b∧B.free loc blk.bx) (a3:BR w ow (ρ.set id loc) id blk):
  SimO P ow B w0 F (ρ.set id loc) ⟨S.base,S.nt,S.tmps,S.gds,(id,blk)::S.blks,S.frames⟩ a w:=by
 have⟨m1,m2,m3,m4⟩:=St.mentions_parts hm;have keep:Keep w ow w ow:=⟨Yi _,fun b _ ho=>⟨rfl,ho⟩⟩;have hr:∀i,i≠id->ρ.set id loc i=ρ i:=fun i hi=>Env.set_other hi;refine⟨h.below,h.tab,h.hB,h.defers,h.nt,?_,?_,?_,?_,h.frames.1,?_⟩
 ·exact h.top.keep keep fun i hi=>hr i (by rcases hi with hi|hi;exact Qdr (p:=fun i=>Jv i S.tmps) m1 hi;exact Qdr (p:=fun i=>Jw i S.gds) m2 hi)
 ·intro i b hb;rcases QZ hb with ⟨rfl,rfl⟩|⟨Y,a2⟩
  ·exact a3
  ·refine(h.blks i b a2).keep keep (hr i (YU Y)) (fun _=>rfl) fun j hj=>hr j fun e=>?_;subst e;have:Q4 j S.blks=true:=ZW (id:=j) a2 (.inr hj);rw[m3] at this;cases this
 ·intro i j x y U hy I J G;rcases QZ U with ⟨rfl,_⟩|⟨Y,U⟩<;>rcases QZ hy with ⟨rfl,_⟩|⟨a1,hy⟩
  ·rfl
  ·rw[Env.set_same] at I G;rw[Env.set_other (YU a1)] at J G;exact absurd ⟨j,y,hy,J,G.symm⟩ (O I).2.1
  ·rw[Env.set_same] at J G;rw[Env.set_other (YU Y)] at I G;exact absurd ⟨i,x,U,I,G⟩ (O J).2.1
  ·rw[Env.set_other (YU Y)] at I G;rw[Env.set_other (YU a1)] at J G;exact h.sep i j x y U hy I J G
 ·intro i x U hp;rcases QZ U with ⟨rfl,rfl⟩|⟨Y,U⟩
  ·rw[Env.set_same] at hp|-;exact(O hp).2.2
  ·rw[Env.set_other (YU Y)] at hp|-;exact h.ge i x U hp
 ·intro i f tm hf ht;refine(h.frames.2 i f tm hf ht).keep keep fun j hj=>hr j fun e=>?_;subst e;have:=QeB (id:=j) hf hj;rw[m4] at this;cases this
end Go.Ab
namespace Go.Ab
open Go.RowKit
variable {P:Program} {tb:Tb} {w:World} {ow:Nat→Prop} {ρ:Env} {a:Act} {B:Bd} {w0:World} {F:List (Array Value)} {S:St}
def Qnl (blk:Nat->Option Blk):List V->Option (List D)
 |[]=>some []
 | .d x::r=>(match Qnl blk r with
  |some ds=>some (x::ds)
  |none=>none)
 | .osl id off len::r=>(match blk id,Qnl blk r with
  |some (.arr _ _ _ row),some ds=>some (.sl len (Zy off row)::ds)
  |_,_=>none)
 |_=>none
def slV (blk:Nat->Option Blk) (id off len:Nat):Option D:=match blk id with
 |some (.arr _ _ _ row)=>some (.sl len (Zy off row))
 |some (.box t cs)=>(match off,bcl t,Qnl blk cs with
  |0,n+1,some ds=>some (.sl len (Qor (cs.length/(n+1)) ds))
  |_,_,_=>none)
 |none=>none
def Qnm (blk:Nat->Option Blk):List V->Option (List D)
 |[]=>some []
 | .d x::r=>(match Qnm blk r with
  |some ds=>some (x::ds)
  |none=>none)
 | .osl id off len::r=>(match slV blk id off len,Qnm blk r with
  |some d,some ds=>some (d::ds)
  |_,_=>none)
 |_=>none
mutual
def QeZ (blk:Nat->Option Blk):V->Option V
 | .any=>some .any
 | .d x=>some (.d x)
 | .rp cs=>some (.rp cs)
 | .osl id off len=>(match slV blk id off len with
  |some d=>some (.d d)
  |none=>none)
 | .ref id row off=>(match blk id with
  |some (.box _ cs)=>(match row,Qnm blk (cs.drop off) with
   |0,some ds=>some (.rp ds)
   |_,_=>none)
  |some (.arr _ _ _ rw)=>some (.rp ((rw row).drop off))
  |none=>none)
 | .agg vs=>(match QbZ blk vs with
  |some G=>some (.agg G)
  |none=>none)
 | .tup vs=>(match QbZ blk vs with
  |some G=>some (.tup G)
  |none=>none)
 | .fn f vs=>(match QbZ blk vs with
  |some G=>some (.fn f G)
  |none=>none)
def QbZ (blk:Nat->Option Blk):List V->Option (List V)
 |[]=>some []
 |v::r=>(match QeZ blk v,QbZ blk r with
  |some u,some us=>some (u::us)
  |_,_=>none)
end
theorem QgT {off i:Nat} {row:Nat->List D}:Zy off row i=row (off+i):=by cases off<;>simp[Zy]
theorem QqK (h:Sim P B w0 F ρ S a w) {id off len t sz n:Nat} {row:Nat->List D} {x:Value} (hb:Qi S.blks id=some (.arr t sz n row)) (hv:VR w (ZL B S.blks ρ) ρ (.osl id off len) x):
  DR w (fun _=>False) (.sl len (Zy off row)) x:=by
 obtain⟨ad,c,rfl,h2,h3⟩:=hv.osl_inv;rcases h3 with ⟨h3,h4⟩|⟨h3,h4,h5,h6⟩
 ·subst h3;exact .sl0 rfl
 ·cases h.blks id _ hb with
  |arr0 g=>rw[g] at h3;cases h3
  |arr C et g1 U g3 g4 O J g7 Y=>
  subst h5;refine .sl (sz:=sz) (fun i j=>C.getD ((ρ id).o+(off+i)*sz+j) undef) (fun h=>h) (Yr.1 J).1 (fun i hi=>by rw[QgT];exact O _ (by omega)) (fun i j d hi G=>?_) (fun i j d hi G=>?_) (by omega)
  ·rw[QgT] at G;have hj:=(Y8.1 G).1;rw[O _ (by omega)] at hj;have I:(off+i+1)*sz<=(ρ id).cap*sz:=Yf _ (by omega);rw[Yj (off+i)] at I;rw[U,show(ρ id).o+off*sz+i*sz+j=(ρ id).o+(off+i)*sz+j by rw[Yj];omega];exact Qcc J (by omega)
  ·rw[QgT] at G;exact(Y (off+i) j d (by omega) G).free
theorem QhB (h:Sim P B w0 F ρ S a w):∀ {cs:List V} {ds:List D},Qnl (Qi S.blks) cs=some ds->ds.length=cs.length∧∀(j:Nat) (d:D) (v:V) (x:Value),ds[j]? =some d->cs[j]? =some v->VR w (ZL B S.blks ρ) ρ v x->DR w (fun _=>False) d x
 |[],ds,hd=>by simp[Qnl] at hd;subst hd;exact⟨rfl,fun j d v x h=>by simp at h⟩
 |u::r,ds,hd=>by
  cases u<;>simp only[Qnl] at hd<;>first|cases hd|skip
  ·split at hd
   ·rename_i xs I;simp only[Y9] at hd;subst hd;have⟨J,O⟩:=QhB h I;refine⟨by simp[J],fun j d v x hj hv G=>?_⟩
    cases j with
    |zero=>simp at hj hv;subst hj hv;cases G with|d G=>exact G.free
    |succ j=>exact O j d v x (by simpa using hj) (by simpa using hv) G
   ·cases hd
  ·rename_i id off len;split at hd
   ·rename_i t sz n row xs hb I;simp only[Y9] at hd;subst hd;have⟨J,O⟩:=QhB h I;refine⟨by simp[J],fun j d v x hj hv G=>?_⟩
    cases j with
    |zero=>simp at hj hv;subst hj hv;exact QqK h hb G
    |succ j=>exact O j d v x (by simpa using hj) (by simpa using hv) G
   ·cases hd
theorem Qk4 (h:Sim P B w0 F ρ S a w) {id off len:Nat} {d:D} {x:Value} (G:slV (Qi S.blks) id off len=some d) (hv:VR w (ZL B S.blks ρ) ρ (.osl id off len) x):DR w (fun _=>False) d x:=by
 unfold slV at G;split at G
 ·rename_i hb;simp only[Y9] at G;subst G;exact QqK h hb hv
 ·rename_i t cs hb;split at G
  ·rename_i n ds hn Y;simp only[Y9] at G;subst G;have⟨i1,i2⟩:=QhB h Y;obtain⟨ad,c,rfl,h2,h3⟩:=hv.osl_inv;rcases h3 with ⟨h3,h4⟩|⟨h3,h4,h5,h6⟩
   ·subst h3;exact .sl0 rfl
   ·cases h.blks id _ hb with
    |box C g1 g2 g3 g4 g5 g6 g7 g8=>
    subst h5;have⟨q1,q2,_⟩:=g4;have U:(ρ id).n=n+1:=by rw[q1,hn];omega
    have a1:cs.length/(n+1)=(ρ id).sz:=by rw[g3,U];exact Nat.mul_div_cancel_left _ (Nat.succ_pos n)
    rw[a1];have I:∀i,i<len->i*(ρ id).sz+(ρ id).sz<=cs.length:=fun i hi=>by
     have:(i+1)*(ρ id).sz<=(ρ id).n*(ρ id).sz:=Yf _ (by omega);rw[Yj,Y0b] at this;omega
    have J:∀i j d,i<len->(Qor (ρ id).sz ds i)[j]? =some d->j<(ρ id).sz∧ds[i*(ρ id).sz+j]? =some d:=fun i j d hi G=>by
     unfold Qor at G;rw[YQ] at G;split at G
     ·rw[YR] at G;exact⟨by assumption,G⟩
     ·cases G
    refine .sl (sz:=(ρ id).sz) (fun i j=>C.getD ((ρ id).o+(i*(ρ id).sz+j)) undef) (fun h=>h) (Yr.1 g5).1 (fun i hi=>?_) (fun i j d hi G=>?_) (fun i j d hi G=>?_) (by omega)
    ·have:=I i hi;unfold Qor;rw[Yn,Y07];omega
    ·have⟨hj,_⟩:=J i j d hi G;have:=I i hi;have g6:=g6.1;rw[show(ρ id).o+0*(ρ id).sz+i*(ρ id).sz+j=(ρ id).o+(i*(ρ id).sz+j) by omega];exact Qcc g5 (by omega)
    ·have⟨hj,he⟩:=J i j d hi G;have:=I i hi;have O:i*(ρ id).sz+j<cs.length:=by omega
     exact i2 _ d _ _ he (Y7 O) (g8 _ _ (Y7 O))
  ·cases G
 ·cases G
theorem QhC (h:Sim P B w0 F ρ S a w):∀ {cs:List V} {ds:List D},Qnm (Qi S.blks) cs=some ds->ds.length=cs.length∧∀(j:Nat) (d:D) (v:V) (x:Value),ds[j]? =some d->cs[j]? =some v->VR w (ZL B S.blks ρ) ρ v x->DR w (fun _=>False) d x
 |[],ds,hd=>by simp[Qnm] at hd;subst hd;exact⟨rfl,fun j d v x h=>by simp at h⟩
 |u::r,ds,hd=>by
  cases u<;>simp only[Qnm] at hd<;>first|cases hd|skip
  ·split at hd
   ·rename_i xs I;simp only[Y9] at hd;subst hd;have⟨J,O⟩:=QhC h I;refine⟨by simp[J],fun j d v x hj hv G=>?_⟩
    cases j with
    |zero=>simp at hj hv;subst hj hv;cases G with|d G=>exact G.free
    |succ j=>exact O j d v x (by simpa using hj) (by simpa using hv) G
   ·cases hd
  ·rename_i id off len;split at hd
   ·rename_i d0 xs hb I;simp only[Y9] at hd;subst hd;have⟨J,O⟩:=QhC h I;refine⟨by simp[J],fun j d v x hj hv G=>?_⟩
    cases j with
    |zero=>simp at hj hv;subst hj hv;exact Qk4 h hb G
    |succ j=>exact O j d v x (by simpa using hj) (by simpa using hv) G
   ·cases hd
theorem Qgs {blk:Nat->Option Blk}:∀ {vs G:List V},QbZ blk vs=some G->G.length=vs.length∧∀(j:Nat) (u:V),G[j]? =some u->∃v,vs[j]? =some v∧QeZ blk v=some u
 |[],G,h=>by simp[QbZ] at h;subst h;exact⟨rfl,fun j u h=>by simp at h⟩
 |v::r,G,h=>by
  simp only[QbZ] at h;split at h
  ·rename_i u us' O I;simp only[Y9] at h;subst h;have⟨J,U⟩:=Qgs I;refine⟨by simp[J],fun j x hj=>?_⟩
   cases j with
   |zero=>simp at hj;subst hj;exact⟨v,rfl,O⟩
   |succ j=>simpa using U j x (by simpa using hj)
  ·cases h
theorem QpU (h:Sim P B w0 F ρ S a w) {v:V} {x:Value} (hv:VR w (ZL B S.blks ρ) ρ v x):∀(u:V) (ρ0:Env),QeZ (Qi S.blks) v=some u->VR w (fun _=>False) ρ0 u x:=by
 induction hv with
 |any=>intro u ρ0 G;simp only[QeZ,Y9] at G;subst G;exact .any
 |d hd=>intro u ρ0 G;simp only[QeZ,Y9] at G;subst G;exact .d hd.free
 |rp vals h1 h2 h3 h4=>intro u ρ0 G;simp only[QeZ,Y9] at G;subst G;exact .rp vals (fun h=>h) h2 h3 fun j d hj=>(h4 j d hj).free
 |osl0 h0 h1=>
  intro u ρ0 G;simp only[QeZ] at G;split at G
  ·rename_i hb;simp only[Y9] at G;subst G;exact .d (Qk4 h hb (.osl0 h0 h1))
  ·cases G
 |osl h1 h2 h3=>
  intro u ρ0 G;simp only[QeZ] at G;split at G
  ·rename_i hb;simp only[Y9] at G;subst G;exact .d (Qk4 h hb (.osl h1 h2 h3))
  ·cases G
 |ref h1 h2=>
  rename_i id row off;intro u ρ0 G;simp only[QeZ] at G;split at G
  ·rename_i t cs hb;split at G
   ·rename_i ds a3;simp only[Y9] at G;subst G;have⟨Y,i2⟩:=QhC h a3
    cases h.blks id _ hb with
    |box C g1 g2 g3 g4 g5 g6 g7 g8=>
    have e:(ρ id).o+0*(ρ id).sz+off=(ρ id).o+off:=by omega
    rw[e];have g6a:=g6.1;have key:∀(j:Nat) (d:D),ds[j]? =some d->∃v,(cs.drop off)[j]? =some v∧(ρ id).o+off+j<C.size:=fun j d hj=>by
     have U:=(Y8.1 hj).1;rw[Y] at U;refine⟨_,Y7 U,?_⟩;simp at U;omega
    refine .rp (fun j=>C.getD ((ρ id).o+off+j) undef) (fun h=>h) (Yr.1 g5).1 (fun j d hj=>?_) fun j d hj=>?_
    ·have⟨_,_,h4⟩:=key j d hj;exact Qcc g5 h4
    ·have⟨v,h3,h4⟩:=key j d hj;refine i2 j d v _ hj h3 ?_;rw[YR] at h3;rw[Xi];exact g8 _ _ h3
   ·cases G
  ·rename_i t sz n rw' hb;simp only[Y9] at G;subst G
   cases h.blks id _ hb with
   |arr0 g=>rw[g] at h1;cases h1
   |arr C et g1 g2 g3 g4 g5 g6 g7 g8=>
   have hlen:=g5 row (by omega);have a2:(row+1)*sz<=(ρ id).cap*sz:=Yf _ (by omega);rw[Yj] at a2;refine .rp (fun j=>C.getD ((ρ id).o+row*sz+(off+j)) undef) (fun h=>h) (Yr.1 g6).1 (fun j d hj=>?_) fun j d hj=>?_
   ·rw[YR] at hj;have hj':=(Y8.1 hj).1;rw[g2,Xi ((ρ id).o+row*sz)];exact Qcc g6 (by omega)
   ·rw[YR] at hj;exact(g8 row _ d (by omega) hj).free
  ·cases G
 |agg hs h1 a1 ih=>
  intro u ρ0 G;simp only[QeZ] at G;split at G
  ·rename_i us O;simp only[Y9] at G;subst G;have⟨Y,i2⟩:=Qgs O;refine .agg (by rw[Y];exact hs) h1 fun j u hj=>?_;have⟨v,J,I⟩:=i2 j u hj;exact ih j v J u ρ0 I
  ·cases G
 |tup hs a1 ih=>
  intro u ρ0 G;simp only[QeZ] at G;split at G
  ·rename_i us O;simp only[Y9] at G;subst G;have⟨Y,i2⟩:=Qgs O;refine .tup (by rw[Y];exact hs) fun j u hj=>?_;have⟨v,J,I⟩:=i2 j u hj;exact ih j v J u ρ0 I
  ·cases G
 |fn hs a1 ih=>
  intro u ρ0 G;simp only[QeZ] at G;split at G
  ·rename_i us O;simp only[Y9] at G;subst G;have⟨Y,i2⟩:=Qgs O;refine .fn (by rw[Y];exact hs) fun j u hj=>?_;have⟨v,J,I⟩:=i2 j u hj;exact ih j v J u ρ0 I
  ·cases G
theorem Qms (h:Sim P B w0 F ρ S a w) {vs J:List V} {vals:Array Value} (hv:Qhx w (ZL B S.blks ρ) ρ vs vals) (U:QbZ (Qi S.blks) vs=some J) (ρ0:Env):Qhx w (fun _=>False) ρ0 J vals:=by
 have⟨O,Y⟩:=Qgs U;refine⟨by rw[O];exact hv.1,fun j u hj=>?_⟩;have⟨v,G,I⟩:=Y j u hj;exact QpU h (hv.2 j v G) u ρ0 I
def QcP (k:Nat) (ρ1 ρ:Env):List Nb->Env
 |[]=>ρ
 |b::r=>(QcP k ρ1 ρ r).set (b.id+k) (ρ1 b.id)
theorem QjD {k:Nat} {ρ1 ρ:Env}:∀ {nb:List Nb},nb.Pairwise (fun x y=>x.id≠y.id)->∀b∈nb,QcP k ρ1 ρ nb (b.id+k)=ρ1 b.id
 |x::r,hd,b,hb=>by
  rw[YS] at hd;simp only[QcP];rcases Yh.1 hb with hb|hb
  ·subst hb;exact Env.set_same
  ·have:=hd.1 b hb;rw[Env.set_other (by omega)];exact QjD hd.2 b hb
 |[],_,_,hb=>by simp at hb
theorem QqL {w':World} {ρ1:Env} {k m:Nat} (h:SimO P ow B w0 F ρ S a w') (hS:∀b,own S.blks ρ b->b<m) (hB:∀b,B b->b<m) (hC:∀b k,B.cel b k->b<m) (O:∀b,m<=b->ow b):∀(nb:List Nb),nb.Pairwise (fun x y=>x.id≠y.id)->
  (∀b∈nb,S.mentions (b.id+k)=false)->(∀b∈nb,∀i,i<b.n->∀d∈b.row i,Qi0 d=true)->
  (∀b∈nb,∃I,BR w' I ρ1 b.id (.arr b.t b.sz b.n b.row))->(∀x∈nb,∀y∈nb,(ρ1 x.id).ph=false->(ρ1 y.id).ph=false->(ρ1 x.id).b=(ρ1 y.id).b->x.id=y.id)->
  (∀x∈nb,(ρ1 x.id).ph=false->m<=(ρ1 x.id).b)->
  SimO P ow B w0 F (QcP k ρ1 ρ nb) ⟨S.base,S.nt,S.tmps,S.gds,nb.map (Nb.ent k)++S.blks,S.frames⟩ a w'∧
   (∀id,(∀b∈nb,b.id+k≠id)->S.mentions id=false->St.mentions ⟨S.base,S.nt,S.tmps,S.gds,nb.map (Nb.ent k)++S.blks,S.frames⟩ id=false)∧
   ∀b,own (nb.map (Nb.ent k)++S.blks) (QcP k ρ1 ρ nb) b->b<m∨ ∃x∈nb,(ρ1 x.id).ph=false∧(ρ1 x.id).b=b
 |[],_,_,_,_,_,_=>⟨h,fun id _ hm=>hm,fun b hb=>.inl (hS b hb)⟩
 |x::r,hd,hm,hf,hbr,hsep,hge=>by
  have G:=YS.1 hd;have⟨i1,i2,i3⟩:=QqL h hS hB hC O r G.2 (fun b hb=>hm b (by simp[hb])) (fun b hb=>hf b (by simp[hb])) (fun b hb=>hbr b (by simp[hb])) (fun a ha b hb=>hsep a (by simp[ha]) b (by simp[hb])) (fun a ha=>hge a (by simp[ha]));have a2:St.mentions ⟨S.base,S.nt,S.tmps,S.gds,r.map (Nb.ent k)++S.blks,S.frames⟩ (x.id+k)=false:=i2 _ (fun b hb e=>G.1 b hb (by omega)) (hm x (by simp));have⟨I,a7⟩:=hbr x (by simp);refine⟨?_,fun id hid J=>?_,fun b hb=>?_⟩
  ·refine Qs3 i1 a2 (fun hp=>⟨O _ (hge x (by simp) hp),fun ho=>?_,⟨fun a6=>by have:=hB _ a6;have:=hge x (by simp) hp;omega,fun k hc=>by have:=hC _ _ hc;have:=hge x (by simp) hp;omega⟩⟩) (a7.shiftFlat (hf x (by simp)) Env.set_same rfl);rcases i3 _ ho with h1|⟨y,U,a1,a4⟩
   ·have:=hge x (by simp) hp;omega
   ·exact G.1 y U (hsep x (by simp) y (by simp[U]) hp a1 a4.symm)
  ·have h0:=i2 id (fun b hb=>hid b (by simp[hb])) J;have a5:Nat.beq (x.id+k) id=false:=by
    cases hb:Nat.beq (x.id+k) id
    ·rfl
    ·exact absurd (Y5 hb) (hid x (by simp))
   have⟨p1,p2,p3,p4⟩:=St.mentions_parts h0;dsimp only at p1 p2 p3 p4;simp only[St.mentions,p1,p2,p4,YC,XA,Nb.ent,Q4,a5,Blk.mentions];have a3:Q4 id (r.map (Nb.ent k)++S.blks)=false:=p3;simp[a3]
  ·obtain⟨i,q,Y,hp,rfl⟩:=hb;simp only[YC,XA,QcP] at Y hp|-;rcases QZ Y with ⟨rfl,_⟩|⟨hn,Y⟩
   ·rw[Env.set_same] at hp|-;exact .inr ⟨x,by simp,hp,rfl⟩
   ·rw[Env.set_other (YU hn)] at hp|-;rcases i3 _ ⟨i,q,Y,hp,rfl⟩ with h1|⟨y,U,h2⟩
    ·exact .inl h1
    ·exact .inr ⟨y,by simp[U],h2⟩
theorem QqM {f:FuncId} {args args':List V} {res:V} {nb:List Nb} {K:V->St->Prop} (k:Nat) (h:PureC P f args' res nb) (hv:QbZ (Qi S.blks) args=some args')
  (hm:∀b∈nb,S.mentions (b.id+k)=false) (hk:K (res.shift k) ⟨S.base,S.nt,S.tmps,S.gds,nb.map (Nb.ent k)++S.blks,S.frames⟩):CallP P f args S K:=by
 refine⟨h.can,fun B w0 F ρ a w vals hs ha=>Calls.mono (h.out w vals ρ (Qms hs ha hv ρ) (hs.tabs hs.hB)) ?_⟩;rintro e w' ⟨v,ρ1,rfl,h1,h2,h3,h4,h5⟩;have hS:∀b,own S.blks ρ b->b<w.heap.size:=fun b hb=>QdK hs (.inl hb);have keep:Keep w (ZL B S.blks ρ) w' (fun b=>ZL B S.blks ρ b∨w.heap.size<=b):=⟨h1.size,fun b hb ho=>⟨h1.old b hb,fun I=>by
  rcases I with I|I
  ·exact ho I
  ·omega⟩⟩
 have hp:=hs.pure h1;have so:SimO P (fun b=>ZL B S.blks ρ b∨w.heap.size<=b) B w0 F ρ S a w':=
  ⟨hp.below,hp.tab,hp.hB,hp.defers,hp.nt,hs.top.keep keep fun _ _=>rfl,fun id b hb=>(hs.blks id b hb).keep keep rfl (fun hp=>h1.old _ ((hs.blks id b hb).lt hp)) fun _ _=>rfl,hs.sep,hs.ge,hs.frames.1,
   fun i f tm hf ht=>(hs.frames.2 i f tm hf ht).keep keep fun _ _=>rfl⟩
 have⟨i1,_,i3⟩:=QqL (ρ1:=ρ1) (k:=k) so hS hs.hB (fun b k hc=>YH (hs.below.clt b k hc) hs.below.size) (fun b hb=>.inr hb) nb h.dist hm h.rows (fun b hb=>⟨_,h3 b hb⟩) h4 h5;refine⟨v,_,_,_,rfl,i1.shrink fun b hb=>?_,h2.shiftFlat h.flat fun id hid=>?_,hk⟩
 ·rcases hb with hb|hb
  case inr=>exact .inl (.inr hb)
  rcases i3 b hb with h6|⟨x,hx,U,rfl⟩
  ·obtain⟨i,q,J,a1,rfl⟩:=hb;rcases YV ((QcP k ρ1 ρ nb i).b) w.heap.size with Y|Y
   ·have key:∀(l:List Nb),(∀x∈l,(ρ1 x.id).ph=false->w.heap.size<=(ρ1 x.id).b)->∀q,Qi (l.map (Nb.ent k)++S.blks) i=some q->(QcP k ρ1 ρ l i).ph=false->(QcP k ρ1 ρ l i).b<w.heap.size->own S.blks ρ (QcP k ρ1 ρ l i).b:=by
     intro l
     induction l with
     |nil=>intro _ q J hp _;exact⟨i,q,J,hp,rfl⟩
     |cons x r ih=>
      intro O q J hp G;simp only[YC,XA,QcP] at J hp G|-;rcases QZ J with ⟨rfl,_⟩|⟨hn,J⟩
      ·rw[Env.set_same] at hp G;have:=O x (by simp) hp;omega
      ·rw[Env.set_other (YU hn)] at hp G|-;exact ih (fun y hy=>O y (by simp[hy])) q J hp G
    exact .inl (.inl (key nb h5 q J a1 Y))
   ·exact .inr Y
  ·exact .inr (h5 x hx U)
 ·obtain⟨b,hb,rfl⟩:=h.ids id hid;exact QjD h.dist b hb
theorem Qox {sc scN:Prop->Prop} {f:FuncId} {args args':List V} {res:V} {K:V->St->Prop} (hc:Callable P f) (a1:sc (PureC P f args' res [])) (J:∀p q:Prop,(p->q)->sc p->sc q) (hN:∀p:Prop,p->scN p) (G:Qcl res=true) (hm:∀id,res.mentions id=false)
  (hv:QbZ (Qi S.blks) args=some args') (hk:K res S):CallG P sc scN f args S K:=by
 refine⟨hc,res,S,hk,J _ _ (fun h B w0 F ρ a w vals hs ha=>?_) a1,hN _ fun _ _ _ ρ _ _ h=>⟨ρ,h⟩⟩;refine Calls.mono (h.out w vals ρ (Qms hs ha hv ρ) (hs.tabs hs.hB)) ?_;rintro e w' ⟨v,ρ1,rfl,h1,h2,_⟩;refine⟨v,ρ,rfl,hs.pure h1,?_⟩;have key:∀ {v:V} {x:Value} {O U:Nat->Prop} {ρ1 ρ2:Env},VR w' O ρ1 v x->Qcl v=true->(∀id,v.mentions id=false)->VR w' U ρ2 v x:=by
  intro v x O U ρ1 ρ2 h
  induction h with
  |any=>intro _ _;exact .any
  |d h=>intro G _;exact .d (h.atom G _ _)
  |ref=>intro G _;simp[Qcl] at G
  |osl0=>rename_i id _ _ _ _ _;intro _ hm;have:=hm id;simp[V.mentions] at this
  |osl=>rename_i id _ _ _ _ _;intro _ hm;have:=hm id;simp[V.mentions] at this
  |rp=>intro G _;simp[Qcl] at G
  |agg hs h1 hv Y=>
   intro G hm;refine .agg hs h1 fun j v hj=>Y j v hj (Qes (by simpa[Qcl] using G) hj) fun id=>?_
   cases I:v.mentions id
   ·rfl
   ·have:=hm id;simp only[V.mentions] at this;rw[Zc hj I] at this;cases this
  |tup hs hv Y=>
   intro G hm;refine .tup hs fun j v hj=>Y j v hj (Qes (by simpa[Qcl] using G) hj) fun id=>?_
   cases I:v.mentions id
   ·rfl
   ·have:=hm id;simp only[V.mentions] at this;rw[Zc hj I] at this;cases this
  |fn=>intro G _;simp[Qcl] at G
 exact key h2 G hm
end Go.Ab
namespace Go.Ab
open Go.RowKit
variable {P:Program} {tb:Tb} {w:World} {ow:Nat→Prop} {ρ:Env} {a:Act} {B:Bd} {w0:World} {F:List (Array Value)} {S:St}
def Qwk (w:World):Bd:=⟨fun b=>b<w.heap.size,fun _=>False,fun _ h=>h.elim,fun _ _=>False⟩
def Qwl (bs:List (Nat×Blk)):List Nb->Prop
 |[]=>True
 |b::r=>(match Qi bs b.id with
  |some (.arr _ sz n row)=>sz=b.sz∧n=b.n∧∀i,i<b.n->row i=b.row i
  | _ => Stuck "no such row") ∧ Qwl bs r
theorem VR.flat {v x} {w':World} {ow':Nat->Prop} (h:VR w ow ρ v x) (G:Qcl v=true):VR w' ow' ρ v x:=by
 induction h with
 |any=>exact .any
 |d h=>exact .d (h.atom G _ _)
 |ref h1 h2=>simp[Qcl] at G
 |osl0 J h1=>exact .osl0 J h1
 |osl h1 h2 h3=>exact .osl h1 h2 h3
 |rp=>simp[Qcl] at G
 |agg hs h1 hv I=>exact .agg hs h1 fun j v hj=>I j v hj (Qes (by simpa[Qcl] using G) hj)
 |tup hs hv I=>exact .tup hs fun j v hj=>I j v hj (Qes (by simpa[Qcl] using G) hj)
 |fn hs hv I=>simp[Qcl] at G
theorem QqN {bs:List (Nat×Blk)}:∀ {nb:List Nb},Qwl bs nb->∀b∈nb,∃t n row,Qi bs b.id=some (.arr t b.sz n row)∧n=b.n∧∀i,i<b.n->row i=b.row i
 |x::r,h,b,hb=>by
  simp only[Qwl] at h;have⟨h1,h2⟩:=h;rcases Yh.1 hb with hb|hb
  ·subst hb;split at h1
   ·rename_i t sz n row hl;obtain⟨rfl,h3,h4⟩:=h1;exact⟨t,n,row,hl,h3,h4⟩
   ·exact h1.no.elim
  ·exact QqN h2 b hb
 |[],_,_,hb=>by simp at hb
structure LE (S S':St):Prop where
 out:∀ {P:Program} B w0 F ρ a w,Sim P B w0 F ρ S a w→∃ρ',Sim P B w0 F ρ' S' a w
theorem LE.refl (S:St):LE S S:=⟨fun _ _ _ ρ _ _ h=>⟨ρ,h⟩⟩
theorem LE.trans {S S' G:St} (h:LE S S') (k:LE S' G):LE S G:=⟨fun B w0 F ρ a w hs=>by
 have⟨ρ',h1⟩:=h.out B w0 F ρ a w hs;exact k.out B w0 F ρ' a w h1⟩
structure VLe (v v':V):Prop where
 out:∀w ow ρ x,VR w ow ρ v x→VR w ow ρ v' x
theorem VLe.refl (v:V):VLe v v:=⟨fun _ _ _ _ h=>h⟩
theorem VLe.of {v v':V} (h:v=v'):VLe v v':=h▸ .refl v
theorem VLe.rows {n J:Nat} {row row':Nat->List D} (O:n=J) (h:∀i,i<n->row i=row' i):VLe (.d (.sl n row)) (.d (.sl J row')):=⟨fun w ow ρ x I=>by
 subst O
 cases I with|d I=>
 cases I with
 |sl0 h=>exact .d (.sl0 h)
 |sl vals h1 h2 h3 h4 h5 h6=>exact .d (.sl vals h1 h2 (fun i hi=>by rw[<-h i hi];exact h3 i hi) (fun i j d hi G=>h4 i j d hi (by rw[h i hi];exact G)) (fun i j d hi G=>h5 i j d hi (by rw[h i hi];exact G)) h6)⟩
theorem VLe.nil_sl {n:Nat} {row:Nat->List D} (I:n=0):VLe (.d .nil) (.d (.sl n row)):=⟨fun w ow ρ x G=>by
 cases G with|d G=>cases G;exact .d (.sl0 I)⟩
theorem VLe.nil_osl {id n:Nat} (I:n=0):VLe (.d .nil) (.osl id 0 n):=⟨fun w ow ρ x G=>by
 cases G with|d G=>cases G;exact .osl0 I (Yt _)⟩
theorem VLe.fnD {f:FuncId} {vs:List V} {caps:List (List D)} (h:QrK vs=some caps):VLe (.fn f vs) (.d (.fn f caps)):=⟨fun w ow ρ x G=>by
 rw[Qni h] at G;exact .d G.fnDat⟩
structure BLe (b b':Blk):Prop where
 out:∀w ow ρ id,BR w ow ρ id b→BR w ow ρ id b'
 bx:b'.bx=b.bx
theorem BLe.refl (b:Blk):BLe b b:=⟨fun _ _ _ _ h=>h,rfl⟩
theorem BLe.rows {t t':TypeId} {sz G n Y:Nat} {row row':Nat->List D} (hs:sz=G) (hn:n=Y) (h:∀i,i<n->row i=row' i):BLe (.arr t sz n row) (.arr t' G Y row'):=⟨fun w ow ρ id hb=>by
 subst hs hn
 cases hb with
 |arr0 O U J I=>exact .arr0 O U J I
 |arr C et O U J I k5 k6 k7 k8=>exact .arr C et O U J I (fun i hi=>by rw[<-h i hi];exact k5 i hi) k6 k7 fun i j d hi hd=>k8 i j d hi (by rw[h i hi];exact hd),rfl⟩
def CellsLe:List V->List V->Prop
 |[],[]=>True
 |v::r,v'::r'=>VLe v v'∧CellsLe r r'
 | _, _ => Stuck "cells"
theorem CellsLe.get:∀ {cs G:List V},CellsLe cs G->cs.length=G.length∧∀(j:Nat) (v':V),G[j]? =some v'->∃v,cs[j]? =some v∧VLe v v'
 |[],[],_=>⟨rfl,fun j v h=>by simp at h⟩
 |v::r,v'::r',h=>by
  simp only[CellsLe] at h;have⟨h1,h2⟩:=h.2.get;refine⟨by simp[h1],fun j u hj=>?_⟩
  cases j with
  |zero=>simp at hj;subst hj;exact⟨v,rfl,h.1⟩
  |succ j=>simpa using h2 j u (by simpa using hj)
 |[],_::_,h=>h.no.elim
 |_::_,[],h=>h.no.elim
theorem BLe.box {t J:TypeId} {cs G:List V} (h:CellsLe cs G) (ht:bcl J=bcl t:=by kernel_rfl):BLe (.box t cs) (.box J G):=⟨fun w ow ρ id hb=>by
 have⟨h1,h2⟩:=h.get
 cases hb with
 |box C k1 k2 k3 O k5 k6 U k8=>
  refine .box C k1 k2 (by rw[<-h1];exact k3) (by rw[ht];exact O) k5 (by rw[<-h1];exact k6) (by rw[<-h1];exact U) fun j v hj=>?_;have⟨u,Y,I⟩:=h2 j v hj;exact I.out _ _ _ _ (k8 j u Y),rfl⟩
theorem VLe.aggL {vs G:List V} (h:CellsLe vs G):VLe (.agg vs) (.agg G):=⟨fun w ow ρ x O=>by
 have⟨h1,h2⟩:=h.get
 cases O with
 |agg hs ho hv=>
  refine .agg (by rw[hs,h1]) ho fun j v hj=>?_;have⟨u,J,I⟩:=h2 j v hj;exact I.out _ _ _ _ (hv j u J)⟩
def LeT (old:List (Nat×V)):List (Nat×V)->Prop
 |[]=>True
 |(t,v)::r=>(match Qi old t with
  |some u=>VLe u v
  |none=>VLe .any v)∧LeT old r
def LeB (old:List (Nat×Blk)):List (Nat×Blk)->Prop
 |[]=>True
 |(i,b)::r=>(match Qi old i with
  |some c=>BLe c b
  | none => Stuck "weakening no such block") ∧ LeB old r
def LeF:List Fr->List Fr->Prop
 |[],[]=>True
 |f::r,f'::r'=>(f'.gds=[]∧LeT f.tmps f'.tmps)∧LeF r r'
 | _, _ => Stuck "weakening frames"
theorem Qs4 {old:List (Nat×V)}:∀ {new:List (Nat×V)} {t:Nat} {v:V},LeT old new->Qi new t=some v->∃u,(Qi old t=some u∨(Qi old t=none∧u=.any))∧VLe u v
 |(s,x)::r,t,v,h,hl=>by
  simp only[LeT] at h;rcases QZ hl with ⟨rfl,rfl⟩|⟨hn,hl⟩
  ·have h1:=h.1;split at h1
   ·rename_i u G;exact⟨u,.inl G,h1⟩
   ·rename_i G;exact⟨.any,.inr ⟨G,rfl⟩,h1⟩
  ·exact Qs4 h.2 hl
 |[],_,_,_,hl=>by simp[Qi] at hl
theorem Qgt {old:List (Nat×Blk)}:∀ {new:List (Nat×Blk)} {i:Nat} {b:Blk},LeB old new->Qi new i=some b->∃c,Qi old i=some c∧BLe c b
 |(s,x)::r,i,b,h,hl=>by
  simp only[LeB] at h;rcases QZ hl with ⟨rfl,rfl⟩|⟨hn,hl⟩
  ·have h1:=h.1;split at h1
   ·rename_i c hc;exact⟨c,hc,h1⟩
   ·exact h1.no.elim
  ·exact Qgt h.2 hl
 |[],_,_,_,hl=>by simp[Qi] at hl
theorem Qs5:∀ {old new:List Fr},LeF old new->old.length=new.length∧∀(i:Nat) (G:Fr),new[i]? =some G->∃f,old[i]? =some f∧G.gds=[]∧LeT f.tmps G.tmps
 |[],[],_=>⟨rfl,fun i f h=>by simp at h⟩
 |f::r,G::r',h=>by
  simp only[LeF] at h;have⟨h1,h2⟩:=Qs5 h.2;refine⟨by simp[h1],fun i g I=>?_⟩
  cases i with
  |zero=>simp at I;subst I;exact⟨f,rfl,h.1.1,h.1.2⟩
  |succ i=>simpa using h2 i g (by simpa using I)
 |[],_::_,h=>h.no.elim
 |_::_,[],h=>h.no.elim
theorem FrR.le {f:Fr} {G:List (Nat×V)} {tm:Array Value} (h:FrR w ow ρ f tm) (hl:LeT f.tmps G):FrR w ow ρ ⟨G,[]⟩ tm:=by
 refine⟨fun t v hv=>?_,fun g O=>by simp at O⟩;have⟨u,J,I⟩:=Qs4 hl hv;refine I.out _ _ _ _ ?_;rcases J with J|⟨_,rfl⟩
 ·exact h.tmps t u J
 ·exact .any
theorem QzR {base nt I:Nat} {ts Y:List (Nat×V)} {gs:List Gd} {bs bs':List (Nat×Blk)} {fs U:List Fr} (ht:LeT ts Y) (hb:LeB bs bs') (hf:LeF fs U):
  LE ⟨base,nt,ts,gs,bs,fs⟩ ⟨I,nt,Y,[],bs',U⟩:=by
 refine⟨fun B w0 F ρ a w h=>⟨ρ,?_⟩⟩;have O:∀b,own bs' ρ b->own bs ρ b:=by
  rintro b ⟨i,k,hk,hp,rfl⟩;have⟨c,hc,_⟩:=Qgt hb hk;exact⟨i,c,hc,hp,rfl⟩
 have keep:Keep w (ZL B bs ρ) w (ZL B bs' ρ):=⟨Yi _,fun b _ ho=>⟨rfl,fun h=>ho (h.imp (O b) fun h=>h)⟩⟩;have⟨f1,f2⟩:=Qs5 hf;refine⟨h.below,h.tab,h.hB,h.defers,h.nt,(h.top.le ht).keep keep fun _ _=>rfl,fun id b a4=>?_,fun i j x y hx hy=>?_,fun i x hx=>?_,by rw[<-h.frames.1];exact f1.symm,fun i f' tm a2 a3=>?_⟩
 ·have⟨c,hc,G⟩:=Qgt hb a4;have:=G.out _ _ _ _ (h.blks id c hc);exact this.keep keep rfl (fun _=>rfl) fun _ _=>rfl
 ·have⟨x',J,_⟩:=Qgt hb hx;have⟨y',a6,_⟩:=Qgt hb hy;exact h.sep i j x' y' J a6
 ·have⟨x',J,G⟩:=Qgt hb hx;rw[G.bx];exact h.ge i x' J
 ·have⟨f,a5,hg,a1⟩:=f2 i f' a2;have⟨ts2,gs2⟩:=f';dsimp only at hg;subst hg;exact((h.frames.2 i f tm a5 a3).le a1).keep keep fun _ _=>rfl
theorem QrY (S:St) (id:Nat) (t:TypeId) (sz:Nat) (row:Nat->List D) (hm:S.mentions id=false):LE S ⟨S.base,S.nt,S.tmps,S.gds,(id,.arr t sz 0 row)::S.blks,S.frames⟩:=
 ⟨fun _ _ _ _ _ _ h=>⟨_,(QdC h.o hm (fun _ h=>h) none).1⟩⟩
theorem Qw7 {c:Code} {S S':St} {Q:Exit->St->Prop} (h:LE S S') (k:WP P c S' Q):WP P c S Q:=fun B w0 F ρ a w hs=>by
 have⟨ρ',h1⟩:=h.out B w0 F ρ a w hs;exact k B w0 F ρ' a w h1
theorem Qc (G:TOk P tb) {x y:Code} {Q:Exit->St->Prop} (h:wpc P tb x S fun e S=>match e with
   | .normal=>wpc P tb y S Q
   |e=>Q e S):SeqP P x y S Q:=by
 refine⟨fun B w0 F ρ a w hs=>wp_seq (wp_mono (Qam G x S _ h B w0 F ρ a w hs) ?_)⟩;rintro e I w' ⟨ρ',S',h1,h2⟩
 cases e with
 |normal=>exact Qam G y S' Q h2 B w0 F ρ' I w' h1
 |_=>exact⟨ρ',S',h1,h2⟩
theorem Zm (Y:TOk P tb) {ι:Type} {x y:Code} {Q:Exit->St->Prop} (G:ι->St) (I:ι->Prop) (h:wpc P tb x S fun e S'=>match e with
   | .normal=>∃i,I i∧LE S' (G i)
   |e=>Q e S') (k:∀i,I i->wpc P tb y (G i) Q):SeqP P x y S Q:=by
 refine⟨fun B w0 F ρ a w hs=>wp_seq (wp_mono (Qam Y x S _ h B w0 F ρ a w hs) ?_)⟩;rintro e U w' ⟨ρ',S',h1,h2⟩
 cases e with
 |normal=>
  have⟨i,hg,O⟩:=h2;have⟨J,h3⟩:=O.out B w0 F ρ' U w' h1;exact Qam Y y (G i) Q (k i hg) B w0 F J U w' h3
 |_=>exact⟨ρ',S',h1,h2⟩
end Go.Ab
