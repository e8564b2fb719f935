/-
  Models and walks beside them; plain facts on loops: a part of the frame in which a given row's proof walks the program; no condition.
-/
import Derived.Test.YtjjkhncoafdfmaaGreatDoorAbz5
import Derived.Test.YtjjkhncoafdfmaaGreatDoorAbz2
import Derived.Test.YtjjkhncoafdfmaaGreatDoorAbz4
import Derived.Sort.Row
import Derived.Sort.Grow
import Derived.Lib.SlicesCompact
import Derived.Shelf.SlSortCmp.NoneTotal
set_option linter.all false
namespace Go.Ab
open Go.RowKit
variable {P:Program} {tb:Tb} {S:St} {α β σ:Type}
open Classical in
noncomputable def gd (c:Prop) (m:Option α):Option α:=if c then m else none
theorem Qe {c:Prop} {m:Option α} {r:α} (h:gd c m=some r):c∧m=some r:=by
 unfold gd at h;split at h
 ·exact⟨‹_›,h⟩
 ·cases h
theorem Qd {c:Prop} {m:Option α} (h:c):gd c m=m:=Y4 h
def bd (m:Option α) (k:α->Option β):Option β:=match m with
 |some x=>k x
 |none=>none
theorem Qc {m:Option α} {k:α->Option β} {r:β} (h:bd m k=some r):∃x,m=some x∧k x=some r:=by
 cases m with
 |none=>cases h
 |some x=>exact⟨x,rfl,h⟩
@[simp] theorem Qa {x:α} {k:α->Option β}:bd (some x) k=k x:=rfl
theorem QBJ {m:Option α} {x:α} {k:α->Option β} (h:m=some x):bd m k=k x:=by rw[h];rfl
theorem QAO {b:Bool} {x y:Option α} {r:α} (h:(if b=true then x else y)=some r) (e:b=true):x=some r:=by rwa[Y4 e] at h
theorem QAP {b:Bool} {x y:Option α} {r:α} (h:(if b=true then x else y)=some r) (e:b=false):y=some r:=by rwa[Y3 (by rw[e];decide)] at h
open Classical in
noncomputable def Qv (c:Prop) [Inhabited α] (m:Option α):Option α:=if c then m else some default
theorem Qs {c:Prop} [Inhabited α] {m:Option α} (h:c):Qv c m=m:=Y4 h
theorem QS {c:Prop} [Inhabited α] {m:Option α} (h:¬c):Qv c m=some default:=Y3 h
theorem Qt {c:Prop} [Inhabited α] {m:Option α} {x:α} (h:Qv c m=some x) (hc:c):m=some x:=by rwa[Qv,Y4 hc] at h
def lpN (step:σ->Option (σ⊕β)):Nat->σ->Option β
 |0,_=>none
 |n+1,s=>match step s with
  |none=>none
  |some (.inl s')=>lpN step n s'
  |some (.inr b)=>some b
theorem Qsi {step:σ->Option (σ⊕β)}:∀ {n:Nat} {s:σ} {b:β},lpN step n s=some b->lpN step (n+1) s=some b
 |0,_,_,h=>by cases h
 |n+1,s,b,h=>by
  unfold lpN at h|-;split
  ·rename_i hs;rw[hs] at h;exact h
  ·rename_i s' hs;rw[hs] at h;exact Qsi h
  ·rename_i b' hs;rw[hs] at h;exact h
theorem Qym {step:σ->Option (σ⊕β)} {n m:Nat} {s:σ} {b:β} (h:lpN step n s=some b) (hm:n<=m):lpN step m s=some b:=by
 induction hm with
 |refl=>exact h
 |step _ I=>exact Qsi I
open Classical in
noncomputable def lp (step:σ->Option (σ⊕β)) (s:σ):Option β:=if h:∃b,∃n,lpN step n s=some b then some (Classical.choose h) else none
theorem Ql5 {step:σ->Option (σ⊕β)} {s:σ} {b:β}:lp step s=some b↔ ∃n,lpN step n s=some b:=by
 unfold lp
 constructor
 ·intro h;split at h
  ·rename_i I;cases h;exact Classical.choose_spec I
  ·cases h
 ·rintro⟨n,J⟩;have I:∃b,∃n,lpN step n s=some b:=⟨b,n,J⟩;rw[dif_pos I];have⟨m,hm⟩:=Classical.choose_spec I;have h1:=Qym J (Nat.le_max_left n m);have h2:=Qym hm (Nat.le_max_right n m);rw[h1] at h2
  cases h2;rfl
theorem Zr {step:σ->Option (σ⊕β)} {s:σ} {b:β} (h:step s=some (.inr b)):lp step s=some b:=Ql5.2 ⟨1,by rw[lpN,h]⟩
theorem Ji {step:σ->Option (σ⊕β)} {s s':σ} (h:step s=some (.inl s')):lp step s=lp step s':=by
 cases e:lp step s' with
 |some b=>have⟨n,I⟩:=Ql5.1 e;exact Ql5.2 ⟨n+1,by rw[lpN,h];exact I⟩
 |none=>
  cases J:lp step s with
  |none=>rfl
  |some b=>
   have⟨n,I⟩:=Ql5.1 J
   cases n with
   |zero=>cases I
   |succ n=>
    rw[lpN,h] at I;rw[Ql5.2 ⟨n,I⟩] at e;cases e
theorem Qm (hT:TOk P tb) {step:σ->Option (σ⊕β)} {s0:σ} {x:β} {c:Code} {Q:Exit->St->Prop} (hx:lp step s0=some x) (I:σ->St) (h0:LE S (I s0))
  (J:∀s y,step s=some y->(∀v,y=.inr v->v=x)->wpc P tb c (I s) fun e S'=>match e with
   | .normal=>∃s',y=.inl s'∧LE S' (I s')
   |e=>Q e S'):LoopP P c S Q:=by
 have⟨n0,Y⟩:=Ql5.1 hx;refine⟨QBA h0 fun B w0 F ρ a w hs=>?_⟩;refine wp_loop_ghost (fun n a w=>∃s ρ,lpN step n s=some x∧Sim P B w0 F ρ (I s) a w) n0 ⟨s0,ρ,Y,hs⟩ ?_;rintro n a w ⟨s,ρ,N,hs⟩
 cases n with
 |zero=>cases N
 |succ n=>
  cases O:step s with
  |none=>rw[lpN,O] at N;cases N
  |some y=>
   refine wp_mono (QaM hT c _ _ (J s y O fun v hv=>by rw[lpN,O,hv] at N;cases N;rfl) B w0 F ρ a w hs) ?_;rintro e a' w' ⟨ρ',S',h1,h2⟩
   cases e with
   |normal=>
    obtain⟨s',rfl,a1⟩:=h2;have⟨U,h3⟩:=a1.out B w0 F ρ' a' w' h1;rw[lpN,O] at N;exact⟨n,Nat.lt_succ_self n,s',U,N,h3⟩
   |_=>exact⟨ρ',S',h1,h2⟩
@[reducible] def QcU (b:Bool):List D:=[.bool b]
@[reducible] def Qi (s:ByteArray):List D:=[.str s]
@[reducible] def Qew [Inhabited α] (enc:α→List D) (xs:List α):List D:=[slD enc xs]
variable [Inhabited α] {enc:α→List D}
theorem Qtu {xs:List α} {r off:Nat} {ds:List D} {e:α} (h:Qc2 (rows enc xs r) off ds=enc e):∀i,i<xs.length->rows enc (xs.set r e) i=if i=r then Qc2 (rows enc xs r) off ds else rows enc xs i:=by
 intro i hi;split
 ·rename_i I;subst I;rw[h];simp[rows,Y0,hi]
 ·rename_i I;simp[rows,Y0,YY I]
theorem Qau {xs:List α} {n r off:Nat} {ds:List D} {e:α} (I:n=xs.length) (h:Qc2 (rows enc xs r) off ds=enc e):∀i,i<n->rows enc (xs.set r e) i=if i=r then Qc2 (rows enc xs r) off ds else rows enc xs i:=by
 subst I;exact Qtu h
theorem Qzc {xs y:List α} {r:Nat} {e:α} (h:xs.set r e=y):y.length=xs.length:=by rw[<-h];simp
theorem Qq1 {xs y:List α} {n r off:Nat} {ds:List D} {e:α} (J:xs.set r e=y) (I:n=xs.length) (h:Qc2 (rows enc xs r) off ds=enc e):∀i,i<n->rows enc y i=if i=r then Qc2 (rows enc xs r) off ds else rows enc xs i:=by
 subst J;exact Qau I h
theorem Qtv {ys:List α}:∀i,i<ys.length->rows enc ys i=QkM (ys.map enc) i:=by
 intro i hi;simp[rows,QkM,Y0,hi]
theorem Qpm {n:Nat} {z:List D} (h:enc default=z):∀i,i<(List.replicate n (default:α)).length->rows enc (List.replicate n (default:α)) i=z:=by
 intro i hi;simp at hi;simp[rows,Y0,hi,h]
theorem QwW {xs ys:List α} {n m:Nat} {r N:Nat->List D} (O:n=xs.length) (hm:m=ys.length) (h1:∀i,i<n->r i=rows enc xs i) (h2:∀i,i<m->N i=rows enc ys i):
  ∀i,i<(xs++ys).length->rows enc (xs++ys) i=QeY n r N i:=by
 intro i hi;subst O hm;simp only[QeY,rows];split
 ·rename_i I;rw[h1 i I];simp[rows,Y0,YS I]
 ·rename_i J;rw[Yj] at hi;rw[h2 _ (by omega)];simp[rows,Y0,YZ (Y1a J)]
theorem QuS {ys:List α} {m:Nat} {I:Nat->List D} (hm:m=ys.length) (h2:∀i,i<m->I i=rows enc ys i):∀i,i<ys.length->rows enc ys i=I i:=by
 intro i hi;subst hm;rw[h2 i hi]
theorem Qa7 {xs:List α} {n:Nat}:∀i,i<n->rows enc xs i=rows enc (xs.take n) i:=by
 intro i hi;simp[rows,Y0,hi]
theorem Qii {xs:List α} {k n:Nat}:∀i,i<n->rows enc xs (i+k)=rows enc ((xs.take (k+n)).drop k) i:=by
 intro i hi;simp[rows,Y0,YQ,Y14 i k,hi]
theorem QjW {xs:List α} {k n:Nat}:∀i,i<n->ZB k (rows enc xs) i=rows enc ((xs.take (k+n)).drop k) i:=by
 intro i hi;rw[Qhb,Y14];exact Qii i hi
theorem VLe.takeR {n k:Nat} {row:Nat->List D} {xs:List α} (I:n=(xs.take k).length) (J:∀i,row i=Ab.rows enc xs i):VLe (.d (.sl n row)) (.d (slD enc (xs.take k))):=
 VLe.rows I fun i hi=>by
  have:i<k:=by simp at I;omega
  rw[J];simp[Ab.rows,Y0,this]
theorem QAy {base nt:Nat} {ts:List (Nat×V)} {gs:List Gd} {bs:List (Nat×Blk)} {fs:List Fr} {f:FuncId} {args I args':List V} {res:V} {nb:List Nb} {K:V->St->Prop} (k:Nat) (h:PureC P f args' res nb)
  (hv:Qb6 (Qk bs) args=some I) (N:CellsLe I args') (hm:(nb.all fun b=>!(St.mentions ⟨base,nt,ts,gs,bs,fs⟩ (b.id+k)))=true) (J:Qaq (res.shift k) fun v=>Qa5 (nb.map (Nb.ent k)++bs) fun bs=>K v ⟨base,nt,ts,gs,bs,fs⟩):
  CallP P f args ⟨base,nt,ts,gs,bs,fs⟩ K:=Qza k (h.le N) hv hm J
theorem QyS {g:FuncId} {blk:Nat->Option Blk} {vs I args':List V} {res:V} {nb:List Nb} (h:PureC P g args' res nb) (hv:Qb6 blk vs=some I) (J:CellsLe I args'):CallD P id g blk vs res nb:=Qp (h.le J) hv
mutual
def V.plain:V->Bool
 | .d _=>true
 | .any=>true
 | .rp _=>true
 | .agg vs=>QnB vs
 | .tup vs=>QnB vs
 | .fn _ vs=>QnB vs
 |_=>false
def QnB:List V->Bool
 |[]=>true
 |v::r=>v.plain&&QnB r
end
mutual
theorem V.plain_ment (v:V) (id:Nat) (h:v.plain=true):v.mentions id=false:=by
 cases v with
 |agg vs=>exact QfW vs id h
 |tup vs=>exact QfW vs id h
 |fn f vs=>exact QfW vs id h
 |ref=>cases h
 |osl=>cases h
 |_=>rfl
theorem QfW (vs:List V) (id:Nat) (h:QnB vs=true):QU id vs=false:=by
 cases vs with
 |nil=>rfl
 |cons v r=>
  simp only[QnB,Y2] at h
  simp only[QU,V.plain_ment v id h.1]
  exact QfW r id h.2
end
theorem Qzd {S' : St} {al l : List (Nat × Bool)} {f : FuncId} {fn : Func} {args args' : List V} {res : V} {K : V -> St -> Prop} {key : Nat} {want : Bool} (O : P.funcs[f]? = some fn) (N : (fn.name == "runtime.NumGoroutine") = false) (hb : fn.body.isNone = false)
  (hv:Qb6 (Qk S'.blks) args=some args') (I:Qcv res=true) (hm:res.plain=true) (h:QaL S al l (PureC P f args' res [])) (J:K res S'):CallG P (QaL S al l) (QeQ S' key want) f args S' K:=
 QwU O N hb hv I (fun id=>V.plain_ment res id hm) h J
mutual
def V.ren (f:Nat->Nat):V->V
 | .ref i r o=>.ref (f i) r o
 | .osl i o l=>.osl (f i) o l
 | .agg vs=>.agg (Qkt f vs)
 | .tup vs=>.tup (Qkt f vs)
 | .fn g vs=>.fn g (Qkt f vs)
 | .any=>.any
 | .d x=>.d x
 | .rp cs=>.rp cs
def Qkt (f:Nat->Nat):List V->List V
 |[]=>[]
 |v::r=>v.ren f::Qkt f r
end
theorem QdD {f:Nat->Nat}:∀(vs:List V) (j:Nat),(Qkt f vs)[j]? =(vs[j]?).map (V.ren f)
 |[],j=>by simp[Qkt]
 |v::r,0=>by simp[Qkt]
 |v::r,j+1=>by simpa[Qkt] using QdD r j
theorem Ju {f:Nat->Nat}:∀(vs:List V),(Qkt f vs).length=vs.length
 |[]=>rfl
 |v::r=>by simp[Qkt,Ju r]
def Blk.ren (f:Nat->Nat):Blk->Blk
 | .box t cs=>.box t (Qkt f cs)
 | .arr t sz n row=>.arr t sz n row
theorem Blk.ren_bx (f:Nat->Nat) (b:Blk):(b.ren f).bx=b.bx:=by cases b<;>rfl
def Qyn (f:Nat->Nat):List (Nat×V)->List (Nat×V)
 |[]=>[]
 |(t,v)::r=>(t,v.ren f)::Qyn f r
def Qyo (f:Nat->Nat):List Gd->List Gd
 |[]=>[]
 |⟨t,k,w,v⟩::r=>⟨t,k,w,v.ren f⟩::Qyo f r
def QwX (f:Nat->Nat):List (Nat×Blk)->List (Nat×Blk)
 |[]=>[]
 |(i,b)::r=>(f i,b.ren f)::QwX f r
def QwY (f:Nat->Nat):List Fr->List Fr
 |[]=>[]
 |⟨ts,gs⟩::r=>⟨Qyn f ts,Qyo f gs⟩::QwY f r
def St.ren (f:Nat->Nat):St->St
 |⟨base,nt,ts,gs,bs,fs⟩=>⟨base,nt,Qyn f ts,Qyo f gs,QwX f bs,QwY f fs⟩
section
variable {w:World} {ow:Nat→Prop} {ρ ρ':Env} {f:Nat→Nat}
theorem VR.ren {v x} (h:VR w ow ρ v x) (O:∀i,ρ' (f i)=ρ i):VR w ow ρ' (v.ren f) x:=by
 induction h with
 |any=>exact .any
 |d h=>exact .d h
 |ref h1 h2=>rename_i id row off;rw[<-O id] at*;exact .ref h1 h2
 |osl0 Y h1=>rename_i id off len ad;rw[<-O id] at*;exact .osl0 Y h1
 |osl h1 h2 h3=>rename_i id off len;rw[<-O id] at*;exact .osl h1 h2 h3
 |rp vals ho hb hc U=>exact .rp vals ho hb hc U
 |agg hs h1 hv N=>
  refine .agg (by rw[Ju];exact hs) h1 fun j v J=>?_;rw[QdD] at J;obtain⟨v',I,rfl⟩:=Yg.1 J;exact N j v' I
 |tup hs hv N=>
  refine .tup (by rw[Ju];exact hs) fun j v J=>?_;rw[QdD] at J;obtain⟨v',I,rfl⟩:=Yg.1 J;exact N j v' I
 |fn hs hv N=>
  refine .fn (by rw[Ju];exact hs) fun j v J=>?_;rw[QdD] at J;obtain⟨v',I,rfl⟩:=Yg.1 J;exact N j v' I
theorem BR.ren {id:Nat} {b:Blk} (h:BR w ow ρ id b) (I:∀i,ρ' (f i)=ρ i):BR w ow ρ' (f id) (b.ren f):=by
 cases h with
 |box C h1 h2 h3 h4 h5 h6 O N=>
  refine .box C (by rw[I];exact h1) (by rw[I];exact h2) (by rw[I,Ju];exact h3) (by rw[I];exact h4) (by rw[I];exact h5) (by rw[I,Ju];exact h6) (by rw[I,Ju];exact O) fun j v U=>?_;rw[QdD] at U;obtain⟨v',J,rfl⟩:=Yg.1 U;rw[I];exact(N j v' J).ren I
 |arr0 h1 h2 h3 h4=>exact .arr0 (by rw[I];exact h1) (by rw[I];exact h2) (by rw[I];exact h3) h4
 |arr C et h1 h2 h3 h4 h5 h6 O N=>exact .arr C et (by rw[I];exact h1) (by rw[I];exact h2) (by rw[I];exact h3) (by rw[I];exact h4) h5 (by rw[I];exact h6) (by rw[I];exact O) fun i j d hi Y=>by rw[I];exact N i j d hi Y
theorem QpM:∀ {ts:List (Nat×V)} {t:Nat} {v:V},Qk (Qyn f ts) t=some v->∃u,Qk ts t=some u∧v=u.ren f
 |(u,x)::r,t,v,h=>by
  rcases QY h with ⟨rfl,rfl⟩|⟨I,h⟩
  ·exact⟨x,Zl,rfl⟩
  ·have⟨y,h1,h2⟩:=QpM h;exact⟨y,by rw[QO I];exact h1,h2⟩
 |[],_,_,h=>by simp[Qyn,Qk] at h
theorem Qsj:∀ {gs:List Gd} {g:Gd},g∈Qyo f gs->∃I∈gs,g=⟨I.t,I.key,I.want,I.v.ren f⟩
 |⟨t,k,w,v⟩::r,g,h=>by
  rcases Yi.1 h with h|h
  ·exact⟨⟨t,k,w,v⟩,by simp,h⟩
  ·have⟨I,h1,h2⟩:=Qsj h;exact⟨I,by simp[h1],h2⟩
 |[],_,h=>by simp[Qyo] at h
theorem Qfr (I:∀i j,f i=f j->i=j):∀ {bs:List (Nat×Blk)} {j:Nat} {b:Blk},Qk (QwX f bs) j=some b->∃i c,j=f i∧Qk bs i=some c∧b=c.ren f
 |(u,x)::r,j,b,h=>by
  rcases QY h with ⟨rfl,rfl⟩|⟨J,h⟩
  ·exact⟨u,x,rfl,Zl,rfl⟩
  ·obtain⟨i,c,rfl,h1,h2⟩:=Qfr I h;exact⟨i,c,rfl,by rw[QO fun e=>J (by rw[e])];exact h1,h2⟩
 |[],_,_,h=>by simp[QwX,Qk] at h
theorem Qsk:∀ {fs:List Fr} {i:Nat} {fr:Fr},(QwY f fs)[i]? =some fr->∃fr0,fs[i]? =some fr0∧fr=⟨Qyn f fr0.tmps,Qyo f fr0.gds⟩
 |⟨ts,gs⟩::r,0,fr,h=>by simp[QwY] at h;exact⟨_,rfl,h.symm⟩
 |⟨ts,gs⟩::r,i+1,fr,h=>by obtain⟨fr0,h1,h2⟩:=Qsk (fs:=r) (i:=i) (by simpa[QwY] using h);exact⟨fr0,by simpa using h1,h2⟩
 |[],_,_,h=>by simp[QwY] at h
theorem Ql6:∀ {fs:List Fr},(QwY f fs).length=fs.length
 |[]=>rfl
 |⟨_,_⟩::r=>by simp[QwY,Ql6 (fs:=r)]
theorem FrR.ren {I:Fr} {tm:Array Value} (h:FrR w ow ρ I tm) (J:∀i,ρ' (f i)=ρ i):FrR w ow ρ' ⟨Qyn f I.tmps,Qyo f I.gds⟩ tm:=by
 refine⟨fun t v hv=>?_,fun g N=>?_⟩
 ·obtain⟨u,h1,rfl⟩:=QpM hv;exact(h.tmps t u h1).ren J
 ·obtain⟨O,h1,rfl⟩:=Qsj N;rcases(h.gds O h1).h with h2|h2
  ·exact⟨.inl ⟨h2.1,h2.2.ren J⟩⟩
  ·exact⟨.inr h2⟩
end
theorem QAQ (f:Nat->Nat) (g:Nat->Nat) (N:∀i,g (f i)=i) (S:St):LE S (S.ren f):=by
 refine⟨fun B w0 F ρ a w h=>?_⟩;obtain⟨ρ',U⟩:∃ρ':Env,∀i,ρ' i=ρ (g i):=⟨fun i=>ρ (g i),fun _=>rfl⟩;refine⟨ρ',?_⟩;have I:∀i j,f i=f j->i=j:=fun i j e=>by rw[<-N i,e,N]
 have J:∀i,ρ' (f i)=ρ i:=fun i=>by rw[U,N]
 have⟨base,nt,ts,gs,bs,fs⟩:=S;have O:∀b,own (QwX f bs) ρ' b->own bs ρ b:=by
  rintro b ⟨i,k,hk,hp,rfl⟩;obtain⟨i0,c,rfl,h1,h2⟩:=Qfr I hk;rw[J] at hp|-;exact⟨i0,c,h1,hp,rfl⟩
 have keep:Keep w (ZM B bs ρ) w (ZM B (QwX f bs) ρ'):=⟨Yh _,fun b _ ho=>⟨rfl,fun h=>ho (h.imp (O b) fun h=>h)⟩⟩;refine⟨h.below,h.tab,h.hB,h.defers,h.nt,?_,?_,?_,?_,⟨?_,?_⟩⟩
 ·exact(h.top.ren (f:=f) (ρ':=ρ') J).keep keep fun _ _=>rfl
 ·intro id b hb;obtain⟨i0,c,rfl,h1,rfl⟩:=Qfr I hb;exact((h.blks i0 c h1).ren (f:=f) (ρ':=ρ') J).keep keep rfl (fun _=>rfl) fun _ _=>rfl
 ·intro i j x y hx hy hp hq he;obtain⟨i0,c,rfl,h1,_⟩:=Qfr I hx;obtain⟨j0,d,rfl,h2,_⟩:=Qfr I hy;rw[J] at hp hq he;rw[J] at he;rw[h.sep i0 j0 c d h1 h2 hp hq he]
 ·intro i x hx hp;obtain⟨i0,c,rfl,h1,rfl⟩:=Qfr I hx;rw[J] at hp|-;rw[Blk.ren_bx];exact h.ge i0 c h1 hp
 ·dsimp only[St.ren];rw[Ql6];exact h.frames.1
 ·intro i fr tm hf a1;obtain⟨Y,h1,rfl⟩:=Qsk hf;exact((h.frames.2 i Y tm h1 a1).ren (f:=f) (ρ':=ρ') J).keep keep fun _ _=>rfl
mutual
def V.inIds (ids:List Nat):V->Bool
 | .ref i _ _=>ZX ids i
 | .osl i _ _=>ZX ids i
 | .agg vs=>QnC ids vs
 | .tup vs=>QnC ids vs
 | .fn _ vs=>QnC ids vs
 |_=>true
def QnC (ids:List Nat):List V->Bool
 |[]=>true
 |v::r=>v.inIds ids&&QnC ids r
end
mutual
theorem V.inIds_ok (ids:List Nat) (v:V) (id:Nat) (h:v.inIds ids=true) (hm:v.mentions id=true):id∈ids:=by
 cases v with
 |agg vs=>exact Qi2 ids vs id h hm
 |tup vs=>exact Qi2 ids vs id h hm
 |fn f vs=>exact Qi2 ids vs id h hm
 |ref i r o=>rw[<-Y9 hm];exact ZN.1 h
 |osl i r o=>rw[<-Y9 hm];exact ZN.1 h
 |any=>cases hm
 |d=>cases hm
 |rp=>cases hm
theorem Qi2 (ids:List Nat) (vs:List V) (id:Nat) (h:QnC ids vs=true) (hm:QU id vs=true):id∈ids:=by
 cases vs with
 |nil=>cases hm
 |cons v r=>
  simp only[QnC,Y2] at h
  simp only[QU] at hm
  split at hm
  ·rename_i hv;exact V.inIds_ok ids v id h.1 hv
  ·exact Qi2 ids r id h.2 hm
end
theorem Qyp {res:V} {nb:List Nb} (h:res.inIds (nb.map (·.id))=true):∀id,res.mentions id=true->∃b∈nb,b.id=id:=fun id hm=>by
 have⟨b,hb,e⟩:=Yo.1 (V.inIds_ok _ res id h hm);exact⟨b,hb,e⟩
end Go.Ab
namespace Go.Ab
open Go.RowKit
variable {P:Program} {tb:Tb} {w:World} {ρ:Env} {a:Act} {B:Bd} {w0:World} {F:List (Array Value)} {S:St}
theorem Qtw (hT:TOk P tb) (h:Sim P B w0 F ρ S a w) {t t' ty e e' sz byt d1 d5 s' s2:Nat} {kk:TK} {zz z' z2:List D} {qq q q2:Bool} (d2:tb.find t=some ⟨.slice e,s',d1,z',q⟩) (c2:tb.find t'=some ⟨.slice e',s2,d5,z2,q2⟩) (d6:tb.find e=some ⟨kk,sz,byt,zz,qq⟩)
  {xv:V} {vs vx:Value} {id off len n m:Nat} {r r' a2:Nat->List D} (hs:VR w (ZM B S.blks ρ) ρ (.osl id off len) vs) (hx:VR w (ZM B S.blks ρ) ρ xv vx) (J:J0 (Qk S.blks) sz (.osl id off len)=some (n,r)) (d7:J0 (Qk S.blks) sz xv=some (m,r'))
  (hb:(n+m)*(byt+1)<=70368744177664) (a5:∀i,i<n+m->a2 i=QeY n r r' i) {S1:St} {nid:Nat} (hk:SimO P (ZM B S.blks ρ) B w0 F ρ S1 a w) (b2:S1.mentions nid=false) (a7:∀b,ZM B S1.blks ρ b->ZM B S.blks ρ b)
  (c7:∀t0 n0 I,Qk S.blks id=some (.arr t0 sz n0 I)->(ρ id).ph=false->¬own S1.blks ρ (ρ id).b):
  ∃v w' ρ',(Builtin.append_ #[t,t'] ty #[vs,vx]).run P w=.ok v w'∧Sim P B w0 F ρ' ⟨S1.base,S1.nt,S1.tmps,S1.gds,(nid,.arr e sz (n+m) a2)::S1.blks,S1.frames⟩ a w'∧VR w' (ZM B ((nid,.arr e sz (n+m) a2)::S1.blks) ρ') ρ' (.osl nid 0 (n+m)) v:=by
 have hu:=ZS (hT.ok _ _ d2) rfl;have b3:=ZS (hT.ok _ _ c2) rfl;have Y:=hT.ok _ _ d6;have hS:=QdB (P:=P) (w:=w) (ow:=ZM B S.blks ρ) (ρ:=ρ) h.blks hs J;have hX:=QdB (P:=P) (w:=w) (ow:=ZM B S.blks ρ) (ρ:=ρ) h.blks hx d7;have⟨adx,cx,c4⟩:=hX.hdr;have⟨ad,cap,h1,h2,h3⟩:=hs.osl_inv;have hn:n=len:=by
  have⟨ad',c',h4⟩:=hS.hdr;rw[h1] at h4;cases h4;rfl
 subst hn;rcases YW cap (n+m) with b5|O
 ·have⟨nc,C,g1,g2,g3,g4⟩:=QeE (P:=P) (ty:=ty) hu b3 Y h1 hS hX b5 hb;have U:=Qfn (w:=w) hk b2 (fun _ h=>a7 _ h) (fun _ ho=>QdY h ho) (n:=n+m) (sz:=sz) (cap:=nc) (row:=a2) (C:=C) (e:=e) (.inr rfl) (by rw[g2];exact Yh _) g3 fun q hq=>by rw[a5 q hq];exact g4 q hq
  exact⟨_,_,_,g1,U.1,U.2⟩
 ·rcases h3 with ⟨h3,h4⟩|⟨h3,h4,h5,h6⟩
  ·have c8:m=0:=by omega
   subst c8 h3 h4;have⟨f,f1,_,_⟩:=hX.cells;have hf:=f1 w rfl;have g1:=QeD (P:=P) (w:=w) (ty:=ty) hu b3 Y c4 (by simpa[flat] using hf) (base:=ad) (cap:=0);have U:=QdL (w:=w) hk b2 (fun _ h=>a7 _ h) (sz:=sz) (row:=a2) (e:=e) ad;exact⟨_,_,_,by rw[h1];exact g1,U.1,U.2⟩
  ·obtain⟨t0,n0,I,N⟩:∃t0 n0 I,Qk S.blks id=some (.arr t0 sz n0 I):=by
    simp only[J0] at J;split at J
    ·rename_i t1 s1 n1 b0 N;split at J
     ·rename_i d4;exact⟨t1,n1,b0,by rw[<-Y9 d4];exact N⟩
     ·cases J
    ·cases J
   cases h.blks id _ N with
   |arr0 g=>rw[g] at h3;cases h3
   |arr C c6 g1 g2 g3 g4 g5 g6 g7 g8=>
   have⟨f,f1,f2,f3⟩:=hX.cells;have a9:=h.ge id _ N h3;have c5:(off+(n+m))*sz<=(ρ id).cap*sz:=Yf _ (by omega);rw[Yk,Yk] at c5;subst h5;rw[g2] at h1;have c0:=QeC (P:=P) (w:=w) (ty:=ty) (te:=⟨kk,sz,byt,zz,qq⟩) hu b3 Y (n:=n) (cap:=cap) c4 g6 (o:=(ρ id).o+off*sz) (news:=flat m sz f) (f1 w rfl)
    (fun u hu=>by
     obtain⟨j,hj,rfl⟩:=Y0o.1 hu;rw[ZP] at hj;have d8:0<sz:=by
      rcases Xn sz with h|h
      ·rw[h,Y0z] at hj;omega
      ·exact h
     have hi:j/sz<m:=Y05 (by rw[Xm];exact hj);have c1:j%sz<sz:=Y18 _ d8;have e0:=QfL (f:=f) hi c1;rw[Y19 j sz] at e0;rw[(Ya.1 e0).2];exact f3 _ _ hi c1) O (by rw[ZP];dsimp only;omega)
   dsimp only at c0;have b1:(ρ id).o+off*sz+n*sz+(flat m sz f).length<=C.toList.length:=by rw[ZP];simp;omega
   have a6:¬own S1.blks ρ (ρ id).b:=c7 _ _ _ N h3;have U:=QgE (loc:=⟨(ρ id).b,(ρ id).o+off*sz,sz,n+m,cap,false⟩) (blk:=.arr e sz (n+m) a2)
    (w':=w.setRow (ρ id).b (C.toList.take ((ρ id).o+off*sz+n*sz)++flat m sz f++C.toList.drop ((ρ id).o+off*sz+n*sz+(flat m sz f).length)).toArray) hk b2 (fun _ h=>a7 _ h) (by simp)
    (fun b b6 a8=>setRow_other w _ b _ fun e=>by
     subst e;rcases a8 with a8|a8
     ·exact a8 (.inl ⟨id,_,N,h3,rfl⟩)
     ·exact a6 a8)
    (fun b b6=>setRow_other w _ b _ (fun e=>a9.blk (e▸b6))) (fun b k hc=>by
     by_cases e:b=(ρ id).b
     ·subst e;have:=(a9.cel k hc).1
      cases this
     ·exact World.cell?_of_block (setRow_other w _ b _ e)) (fun _=>.inr ⟨.inl ⟨id,_,N,h3,rfl⟩,a6⟩)
    (fun _=>⟨a9.blk,fun k hc=>by have:=(a9.cel k hc).1;cases this⟩) rfl rfl rfl fun keep=>by
     have c3:=Qbt C.toList (flat m sz f) ((ρ id).o+off*sz+n*sz) b1;refine .arr _ c6 (by simp[Env.set]) (by simp[Env.set]) (by simp[Env.set]) (by simpa[Env.set] using O) (fun i hi=>?_) (by simp only[Env.set,YE];exact setRow_heap w _ C _ c6 _ g6) ?_ fun i j d hi hd=>?_
     ·rw[a5 i hi];simp only[QeY]
      by_cases a1:i<n
      ·rw[Y4 a1];exact hS.rows i a1
      ·rw[Y3 a1];exact hX.rows _ (by omega)
     ·rw[c3];simp only[Env.set,YE];have:off*sz+cap*sz=(ρ id).cap*sz:=by rw[<-Yk];congr 1;omega
      simp;omega
     ·rw[QbJ _ _ _ _ b1];have hfl:(flat m sz f).length=m*sz:=ZP;simp only[Env.set,YE];rw[a5 i hi] at hd;simp only[QeY] at hd
      by_cases a1:i<n
      ·rw[Y4 a1] at hd;have hj:j<sz:=by have:=(Ya.1 hd).1;have:=hS.rows i a1;omega
       have b7:(i+1)*sz<=n*sz:=Yf _ (by omega);rw[Yk] at b7;rw[Y3 (by omega)];have⟨f0,_,h02,_⟩:=hS.cells;have b9:∃I,r=ZB off I∧Qk S.blks id=some (.arr t0 sz n0 I):=by
        simp only[J0,N] at J;split at J
        ·simp only[Yc,YX] at J;exact⟨_,J.2.symm,N⟩
        ·cases J
       have⟨b0,d0,b8⟩:=b9;rw[N] at b8
       cases b8
       have b4:ZB off I i=I (off+i):=by cases off<;>simp[ZB]
       rw[d0,b4] at hd;have:=(g8 (off+i) j d (by omega) hd).keep keep;rw[show(ρ id).o+off*sz+i*sz+j=(ρ id).o+(off+i)*sz+j by rw[Yk];omega];simpa using this
      ·rw[Y3 a1] at hd;have hj:j<sz:=by have:=(Ya.1 hd).1;have:=hX.rows (i-n) (by omega);omega
       have b7:n*sz<=i*sz:=Yf _ (by omega);have d3:(i+1)*sz<=(n+m)*sz:=Yf _ (by omega);rw[Yk,Yk] at d3;rw[Y4 (by omega)];have e4:(ρ id).o+off*sz+i*sz+j-((ρ id).o+off*sz+n*sz)=(i-n)*sz+j:=by rw[Nat.sub_mul];omega
       rw[e4,Y0,QfL (n:=m) (by omega) hj];exact(f2 (i-n) j d (by omega) hd).keep keep
   refine⟨_,_,_,by rw[h1];exact c0,U,?_⟩;have e1:(Value.slice (some ⟨(ρ id).b,(ρ id).o+off*sz,none⟩) (n+m) cap)=.slice (some ⟨((ρ.set nid ⟨(ρ id).b,(ρ id).o+off*sz,sz,n+m,cap,false⟩) nid).b,((ρ.set nid ⟨(ρ id).b,(ρ id).o+off*sz,sz,n+m,cap,false⟩) nid).o+0*((ρ.set nid ⟨(ρ id).b,(ρ id).o+off*sz,sz,n+m,cap,false⟩) nid).sz,none⟩) (n+m) (((ρ.set nid ⟨(ρ id).b,(ρ id).o+off*sz,sz,n+m,cap,false⟩) nid).cap-0):=by
    simp[Env.set]
   rw[e1];exact .osl (by simp[Env.set]) (by simp[Env.set]) (by simpa[Env.set] using O)
end Go.Ab
namespace Go.Ab
open Go.RowKit
variable {P:Program} {tb:Tb} {w:World} {ow:Nat→Prop} {ρ:Env} {a:Act} {B:Bd} {w0:World} {F:List (Array Value)} {S:St}
theorem Qze {n e:Nat} (hn:1<=n) (I:e<1000000):bcl (n*1000000+e)=n:=by
 have h:Nat.blt (n*1000000+e) 1000000=false:=by
  rw[YR];intro hb;rw[Y0a] at hb;omega
 have h2:(n*1000000+e)/1000000=n:=by
  rw[Xm,Nat.mul_add_div (by decide),Nat.div_eq_of_lt I,X3]
 rw[bcl,h];exact h2
theorem QjX {n e:Nat} (I:1<=n) (J:e<1000000):bcl (bty n e)=n:=Qze I J
structure SrcV (P:Program) (w:World) (ow:Nat→Prop) (ρ:Env) (sz n:Nat) (cs:List V) (val:Value):Prop where
 hdr:∃ad c,val=.slice ad n c
 len:cs.length=n*sz
 vals:∃fs:List Value,fs.length=n*sz∧(∀w',w'.heap=w.heap→(Builtin.firstCells sz n val).run P w'=.ok fs.toArray w')∧(∀u∈fs,u.oneCell'=true)∧∀j v,cs[j]? =some v→VR w ow ρ v (fs.getD j undef)
theorem QwZ {sz:Nat} {val:Value} (hv:VR w ow ρ (.d .nil) val):SrcV P w ow ρ sz 0 [] val∧∃ad,val=.slice ad 0 0:=by
 cases hv with|d hv=>
 cases hv
 rename_i ad;exact⟨⟨⟨_,_,rfl⟩,by simp,[],by simp,fun w' _=>by cases ad<;>simp[Builtin.firstCells,loadCells,loadCellsFrom],by simp,by simp⟩,_,rfl⟩
theorem Qk8 {id n ts sz:Nat} {cs:List V} {val:Value} (hn:1<=n) (U:bcl ts=n) (hb:BR w ow ρ id (.box ts cs)) (hl:cs.length=n*sz) (hv:VR w ow ρ (.osl id 0 n) val):
  (ρ id).sz=sz∧(ρ id).n=n∧SrcV P w ow ρ sz n cs val:=by
 cases hb with
 | @box _ _ C et q1 q2 q3 O q5 q6 q7 q8=>
 rw[U] at O;have e1:(ρ id).n=n:=by rw[O.1];omega
 have e2:(ρ id).sz=sz:=Nat.eq_of_mul_eq_mul_left (show 0<n by omega) (by rw[<-hl,q3,e1]);refine⟨e2,e1,?_⟩;have⟨ad,c,h1,h2,h3⟩:=hv.osl_inv;have N:((C.toList.drop (ρ id).o).take (n*sz)).length=n*sz:=by simp;omega
 have get:∀j,j<n*sz->((C.toList.drop (ρ id).o).take (n*sz))[j]? =some (C.getD ((ρ id).o+j) undef):=fun j J=>by
  rw[YP,Y4 J,YQ];have:(ρ id).o+j<C.size:=by omega
  simp[this]
 rcases h3 with ⟨h3,_⟩|⟨h3,h4,h5,h6⟩
 ·omega
 ·refine⟨⟨ad,c,h1⟩,hl,_,N,fun w' hw=>?_,fun u Y=>?_,fun j v J=>?_⟩
  ·subst h1 h5;refine run_firstCells_some w' sz n _ n c _ N fun j v J=>?_;have I:=(Ya.1 J).1;rw[N] at I;rw[get j I] at J
   cases J
   rw[Addr.add_mid];have:=Qbr (w:=w) (o:=(ρ id).o+j) q5 (by omega);simpa[World.cell?,hw] using this
  ·have⟨j,J⟩:=List.mem_iff_getElem?.1 Y;have I:=(Ya.1 J).1;rw[N] at I;rw[get j I] at J
   cases J
   exact q7 j (by omega)
  ·have I:=(Ya.1 J).1;rw[Y0,get j (by omega)];exact q8 j v J
theorem Ql7 {t t' ty e e':TypeId} {te} (ht:P.underlying t=some (.slice e)) (a6:P.underlying t'=some (.slice e')) (O:TIok P e te)
  {n m:Nat} {s x:Value} {base ad:Option Addr} {cap c:Nat} (hs:s=.slice base n cap) (hx:x=.slice ad m c) {fs I:List Value} (U:fs.length=n*te.size) (J:I.length=m*te.size)
  (f1:∀w',w'.heap=w.heap->(Builtin.firstCells te.size n s).run P w'=.ok fs.toArray w') (g1:∀w',w'.heap=w.heap->(Builtin.firstCells te.size m x).run P w'=.ok I.toArray w') (N:cap<n+m)
  (hb:(n+m)*(te.bytes+1)<=70368744177664):
  ∃nc C,(Builtin.append_ #[t,t'] ty #[s,x]).run P w=.ok (.slice (some ⟨w.heap.size,0,none⟩) (n+m) nc) (w.drew.alloc (.cells C e))∧C.size=nc*te.size∧n+m<=nc∧
   ∀j,j<(n+m)*te.size->C.getD j undef=(fs++I).getD j undef:=by
 have⟨i,z,hi,hs1,a7,hz,a8,hzl,hzr⟩:=O.info;have a5:n+m<=grownCap w (n+m) cap e:=grownCap_ge w _ _ e;have hbytes:(n+m)*te.bytes+(n+m)<=70368744177664:=by rw[Nat.mul_add,Nat.mul_one] at hb;exact hb
 have Y:¬(281474976710656<Builtin.nextslicecap (n+m) cap*i.bytes):=by
  have:=growslice_fits (bytes:=te.bytes) N (by omega);rw[a7];omega
 have b0:¬(9223372036854775807<((n:Int)+(m:Int))):=by omega
 have a9:¬(n+m<=cap):=by omega
 refine⟨grownCap w (n+m) cap e,fs.toArray++I.toArray++Builtin.zeroCells z.cells (grownCap w (n+m) cap e-(n+m)),?_,?_,a5,fun j hj=>?_⟩
 ·have a1:=f1 w.drew rfl;have a2:=g1 w.drew rfl;subst hs hx;simp[Builtin.append_,run_underlying ht,run_underlying a6,Jc O,zeroValue,typeInfo,hi,hz,Builtin.lenOf,a9,b0,Y,Question.forced,a1,a2,newRow,grownCap]
  congr 2;apply Xt;simp
 ·have h1:(fs.toArray++I.toArray++Builtin.zeroCells z.cells (grownCap w (n+m) cap e-(n+m))).size=n*te.size+m*te.size+(grownCap w (n+m) cap e-(n+m))*te.size:=by
   simp[U,J,Builtin.zeroCells,a8]
  rw[h1,<-Yk,<-Yk]
  congr 1;omega
 ·rw[Yk] at hj;rw[Y7,XL (by simp[U,J];omega),Y0];simp
theorem QnD {id:Nat} {N:St} (h:SimO P ow B w0 F ρ N a w) (hm:N.mentions id=false) (Y:∀b,ZM B N.blks ρ b->ow b) {n e tn sz cap:Nat} (hn:1<=n) (he:bcl tn=n) {cs:List V} (hl:cs.length=n*sz) (a2:QU id cs=false) {C:Array Value}
  {O:World} (a1:O=w∨O=w.drew) (hC:cap*sz<=C.size) (U:n<=cap) (h1:∀j,j<cs.length->(C.getD j undef).oneCell'=true) (hr:∀j v,cs[j]? =some v->VR w ow ρ v (C.getD j undef)):
  Sim P B w0 F (ρ.set id ⟨w.heap.size,0,sz,n,cap,false⟩) ⟨N.base,N.nt,N.tmps,N.gds,(id,.box (tn) cs)::N.blks,N.frames⟩ a (O.alloc (.cells C e))∧
  VR (O.alloc (.cells C e)) (ZM B ((id,.box (tn) cs)::N.blks) (ρ.set id ⟨w.heap.size,0,sz,n,cap,false⟩)) (ρ.set id ⟨w.heap.size,0,sz,n,cap,false⟩) (.osl id 0 n) (.slice (some ⟨w.heap.size,0,none⟩) n cap):=by
 have I:(O.alloc (.cells C e)).heap=(w.alloc (.cells C e)).heap:=by rcases a1 with rfl|rfl<;>rfl
 have J:O.os=w.os∧O.tape=w.tape∧O.output=w.output:=by rcases a1 with rfl|rfl<;>exact⟨rfl,rfl,rfl⟩
 have hcm:n*sz<=cap*sz:=Yf _ U;refine⟨QgE h hm Y (by rw[I];simp) (fun b hb _=>by rw[I];exact Below.heap_alloc w _ b hb) (fun b hb=>by rw[I];exact Below.heap_alloc w _ b (h.hB b hb)) (fun b k hc=>World.cell?_of_block (by rw[I];exact Below.heap_alloc w _ b (YK (h.below.clt b k hc) h.below.size))) (fun _=>.inl (Yh _))
  (fun _=>⟨fun a5=>absurd (h.hB _ a5) (Nat.lt_irrefl _),fun k hc=>absurd (YK (h.below.clt _ k hc) h.below.size) (Nat.lt_irrefl _)⟩)
  J.1 J.2.1 J.2.2 fun keep=>?_,?_⟩
 ·refine .box C (et:=e) (by simp[Env.set]) (by simp[Env.set]) (by simp[Env.set,hl]) ?_ ?_ ?_ (fun j hj=>by simpa[Env.set] using h1 j hj) fun j v hj=>?_
  ·rw[he];simp only[Env.set,YE];exact⟨by omega,U,fun h0=>by omega⟩
  ·rw[I];simp only[Env.set,YE];exact heap_alloc_new w _
  ·simp only[Env.set,YE];omega
  ·simp only[Env.set,YE,Yl];refine(hr j v hj).keep keep fun i hi=>Env.set_other fun e=>?_;subst e;have:=Q9 hj hi;rw[a2] at this;cases this
 ·have e1:(Value.slice (some ⟨w.heap.size,0,none⟩) n cap)=.slice (some ⟨((ρ.set id ⟨w.heap.size,0,sz,n,cap,false⟩) id).b,((ρ.set id ⟨w.heap.size,0,sz,n,cap,false⟩) id).o+0*((ρ.set id ⟨w.heap.size,0,sz,n,cap,false⟩) id).sz,none⟩) n (((ρ.set id ⟨w.heap.size,0,sz,n,cap,false⟩) id).cap-0):=by
   simp[Env.set]
  rw[e1];exact .osl (by simp[Env.set]) (by simp[Env.set]) (by simpa[Env.set] using U)
theorem QpN {t e:Nat} {te ti} (hT:TOk P tb) (a1:tb.find t=some ti) (hk:ti.kind=.slice e) (J:tb.find e=some te) {y:Value} (hy:y.cells.size=te.size) (hb:te.size<=1000000):
  ∃C,(Instr.buildSlice t 1 #[(0,y)]).run P w=.ok (.slice (some ⟨w.heap.size,0,none⟩) 1 1) (w.alloc (.cells C e))∧C.size=te.size∧∀j,j<te.size->C.getD j undef=y.cells.getD j undef:=by
 have⟨i,z,hi,hs,_,hz,O,hzl,hzr⟩:=(hT.ok _ _ J).info;have hu:=ZS (hT.ok _ _ a1) hk;have I:∀zs:Array Value,zs.size=1*te.size->∃C,Instr.fill (fun i=>some (i*te.size,te.size)) zs [(0,y)]=some C∧C.size=te.size∧∀j,j<te.size->C.getD j undef=y.cells.getD j undef:=by
  intro zs O;have N:=QiR y.cells.toList (0*te.size) 0 zs (by simp;omega);have e:y.cells.zipIdx.foldl (fun cs (x:Value×Nat)=>cs.setIfInBounds (0*te.size+x.2) x.1) zs=(y.cells.toList.zipIdx 0).foldl (fun cs (x:Value×Nat)=>cs.setIfInBounds (0*te.size+x.2) x.1) zs:=by
   rw[<-Array.foldl_toList,Array.toList_zipIdx]
  refine⟨y.cells.zipIdx.foldl (fun cs (x:Value×Nat)=>cs.setIfInBounds (0*te.size+x.2) x.1) zs,?_,by rw[e,N.1,O,Y0p],fun j hj=>?_⟩
  ·simp only[Instr.fill];rw[Y3 (by simp;omega)]
  ·rw[e,N.2,Y4 (by simp;omega)];simp
 have U:te.size<=16777216:=by omega
 by_cases Y:1*te.size=0
 ·have⟨C,h1,h2,h3⟩:=I ((Array.range (1*te.size)).map ((#[]:Array Value)[· %(#[]:Array Value).size]!)) (by simp);refine⟨C,?_,h2,h3⟩;rw[Y] at h1;simp at Y;simp[Instr.buildSlice,run_underlying hu,Jc (hT.ok _ _ J),Y,newRow] at h1|-;simp[h1]
 ·have⟨C,h1,h2,h3⟩:=I ((Array.range (1*te.size)).map (z.cells[· %z.cells.size]!)) (by simp);refine⟨C,?_,h2,h3⟩;simp at Y;simp[Instr.buildSlice,run_underlying hu,Jc (hT.ok _ _ J),Y,newRow,zeroValue,typeInfo,hi,hz] at h1|-;simp[h1];exact U
theorem QkO {id:Nat} {xs ys:List V} (N:QU id xs=false) (J:QU id ys=false):QU id (xs++ys)=false:=by
 cases h:QU id (xs++ys) with
 |false=>rfl
 |true=>
  have key:∀zs:List V,QU id zs=true->∃v∈zs,v.mentions id=true:=by
   intro zs
   induction zs with
   |nil=>intro h;simp[QU] at h
   |cons v r U=>
    intro h;simp only[QU] at h
    cases hv:v.mentions id with
    |true=>exact⟨v,by simp,hv⟩
    |false=>
     rw[hv] at h;have⟨u,O,hm⟩:=U h;exact⟨u,by simp[O],hm⟩
  have⟨v,hv,hm⟩:=key _ h;rcases Yx.1 hv with hv|hv
  ·have⟨j,I⟩:=List.mem_iff_getElem?.1 hv;rw[Q9 I hm] at N;cases N
  ·have⟨j,I⟩:=List.mem_iff_getElem?.1 hv;rw[Q9 I hm] at J;cases J
theorem QnE (hT:TOk P tb) (h:Sim P B w0 F ρ S a w) {t t' ty e e' sz byt d5 d7 s' s2:Nat} {kk:TK} {zz z' z2:List D} {qq q q2:Bool} (d6:tb.find t=some ⟨.slice e,s',d5,z',q⟩) (c2:tb.find t'=some ⟨.slice e',s2,d7,z2,q2⟩) (d8:tb.find e=some ⟨kk,sz,byt,zz,qq⟩)
  {vs vx:Value} {n m ts tn:Nat} {cs cx:List V} (hm:1<=m) (d4:1<=n->bcl ts=n) (b6:bcl tn=n+m) (hS:SrcV P w (ZM B S.blks ρ) ρ sz n cs vs) (hX:SrcV P w (ZM B S.blks ρ) ρ sz m cx vx)
  (d2:(n=0∧∃ad,vs=.slice ad 0 0)∨ ∃id,1<=n∧Qk S.blks id=some (.box (ts) cs)∧VR w (ZM B S.blks ρ) ρ (.osl id 0 n) vs)
  (hb:(n+m)*(byt+1)<=70368744177664) {S1:St} {nid:Nat} (hk:SimO P (ZM B S.blks ρ) B w0 F ρ S1 a w) (b8:S1.mentions nid=false) (c1:QU nid (cs++cx)=false) (b1:∀b,ZM B S1.blks ρ b->ZM B S.blks ρ b)
  (d0:∀id e3,Qk S.blks id=some (.box (ts) e3)->1<=n->VR w (ZM B S.blks ρ) ρ (.osl id 0 n) vs->¬own S1.blks ρ (ρ id).b):
  ∃v w' ρ',(Builtin.append_ #[t,t'] ty #[vs,vx]).run P w=.ok v w'∧Sim P B w0 F ρ' ⟨S1.base,S1.nt,S1.tmps,S1.gds,(nid,.box (tn) (cs++cx))::S1.blks,S1.frames⟩ a w'∧VR w' (ZM B ((nid,.box (tn) (cs++cx))::S1.blks) ρ') ρ' (.osl nid 0 (n+m)) v:=by
 have hu:=ZS (hT.ok _ _ d6) rfl;have c0:=ZS (hT.ok _ _ c2) rfl;have a7:=hT.ok _ _ d8;have⟨adx,capx,c5⟩:=hX.hdr;have⟨ad,cap,h1⟩:=hS.hdr;have⟨fs,fl,f1,f2,f3⟩:=hS.vals;have⟨gs,gl,g1,g2,g3⟩:=hX.vals;have Y:(cs++cx).length=(n+m)*sz:=by rw[Yj,hS.len,hX.len,Yk]
 have b7:∀j,j<(cs++cx).length->((fs++gs).getD j undef).oneCell'=true:=fun j J=>by
  have I:j<(fs++gs).length:=by rw[Yj,fl,gl,<-Yk,<-Y];exact J
  rw[Y0,Y5 I];rcases Yx.1 (Xj I) with hu|hu
  ·exact f2 _ hu
  ·exact g2 _ hu
 have d3:∀j v,(cs++cx)[j]? =some v->VR w (ZM B S.blks ρ) ρ v ((fs++gs).getD j undef):=fun j v J=>by
  rw[Y0];rcases YW j cs.length with I|U
  ·rw[YS I] at J;rw[YS (by rw[fl,<-hS.len];exact I),<-Y0];exact f3 j v J
  ·rw[YZ U] at J;rw[YZ (by rw[fl,<-hS.len];exact U),<-Y0,fl,<-hS.len];exact g3 _ v J
 rcases YW cap (n+m) with b5|O
 ·have⟨nc,C,r1,r2,r3,r4⟩:=Ql7 (P:=P) (ty:=ty) hu c0 a7 h1 c5 fl gl f1 g1 b5 hb;dsimp only at r2 r4;have a9:=QnD (w:=w) hk b8 b1 (n:=n+m) (e:=e) (tn:=tn) (sz:=sz) (cap:=nc) (by omega) b6 Y c1 (C:=C) (.inr rfl) (by rw[r2];exact Yh _) r3
   (fun j J=>by rw[r4 j (by rw[<-Y];exact J)];exact b7 j J) fun j v J=>by
    rw[r4 j (by rw[<-Y];exact(Ya.1 J).1)];exact d3 j v J
  exact⟨_,_,_,r1,a9.1,a9.2⟩
 ·rcases d2 with ⟨rfl,ad2,h2⟩|⟨id,hn,a2,hv⟩
  ·rw[h1] at h2;cases h2;omega
  ·have a6:=d0 id _ a2 hn hv;have⟨e2,e1,_⟩:=Qk8 (P:=P) hn (d4 hn) (h.blks id _ a2) hS.len hv;have d9:=h.blks id _ a2
   cases d9 with
   | @box _ _ C et q1 q2 q3 q4 q5 q6 q7 q8=>
   have⟨ad3,c3,h3,_,h4⟩:=hv.osl_inv;rw[h1] at h3
   cases h3
   rcases h4 with ⟨h4,_⟩|⟨_,h5,h6,h7⟩
   ·omega
   simp only[Nat.zero_mul,X3,Nat.sub_zero] at h6 h7;subst h6 h7;have U:=h.ge id _ a2 q1;rw[e2] at q3 q6;have c6:(n+m)*sz<=(ρ id).cap*sz:=Yf _ O;rw[Yk] at c6;have q62:=q6.2;have b9:=QeC (P:=P) (w:=w) (ty:=ty) (te:=⟨kk,sz,byt,zz,qq⟩) hu c0 a7 (n:=n) (cap:=(ρ id).cap) c5 q5 (o:=(ρ id).o) (news:=gs) (g1 w rfl) g2 O (by rw[gl];dsimp only;omega);dsimp only at b9;have a1:(ρ id).o+n*sz+gs.length<=C.toList.length:=by rw[gl];simp;omega
   have a9:=QgE (loc:=⟨(ρ id).b,(ρ id).o,sz,n+m,(ρ id).cap,false⟩) (blk:=.box (tn) (cs++cx))
    (w':=w.setRow (ρ id).b (C.toList.take ((ρ id).o+n*sz)++gs++C.toList.drop ((ρ id).o+n*sz+gs.length)).toArray) hk b8 b1 (by simp)
    (fun b c8 a8=>setRow_other w _ b _ fun e=>by
     subst e;rcases a8 with a8|a8
     ·exact a8 (.inl ⟨id,_,a2,q1,rfl⟩)
     ·exact a6 a8)
    (fun b c8=>setRow_other w _ b _ (fun e=>U.blk (e▸c8))) (fun b k hc=>by
     by_cases e:b=(ρ id).b
     ·subst e;have⟨_,e0⟩:=U.cel k hc;rw[e2] at e0;have b4:¬((ρ id).o+n*sz<=k∧k<(ρ id).o+n*sz+gs.length):=by rw[gl];omega
      have c7:=Qbt C.toList gs ((ρ id).o+n*sz) a1;have a5:=QbJ C.toList gs ((ρ id).o+n*sz) k a1;rw[Y3 b4] at a5;rw[cell_setRow_same w _ _ _ _ _ _ q5];simp only[World.cell?,q5];rw[Y7,Y0] at a5;rcases YW k C.size with I|b3
      ·rw[X8 (by rw[c7];simpa using I)] at a5|-;rw[Y5 (by simpa using I)] at a5;simp only[YU] at a5;rw[a5];simp[I]
      ·rw[XS (by rw[c7];simpa using b3)];simp[b3]
     ·exact World.cell?_of_block (setRow_other w _ b _ e)) (fun _=>.inr ⟨.inl ⟨id,_,a2,q1,rfl⟩,a6⟩)
    (fun _=>⟨U.blk,fun k hc=>by
     have:=U.cel k hc;rw[e2] at this;exact this⟩) rfl rfl rfl fun keep=>by
     have c4:=Qbt C.toList gs ((ρ id).o+n*sz) a1;have b2:∀j,j<(cs++cx).length->((C.toList.take ((ρ id).o+n*sz)++gs++C.toList.drop ((ρ id).o+n*sz+gs.length)).toArray).getD ((ρ id).o+j) undef=if j<cs.length then C.getD ((ρ id).o+j) undef else gs.getD (j-cs.length) undef:=fun j J=>by
      rw[QbJ _ _ _ _ a1];have hcl2:=hS.len
      by_cases N:j<cs.length
      ·rw[Y4 N,Y3 (by omega)];simp[Y0,Y7]
      ·rw[Y3 N,Y4 (by rw[gl];rw[Y,Yk] at J;omega)]
       congr 1;omega
     refine .box _ (et:=et) (by simp[Env.set]) (by simp[Env.set]) (by simp[Env.set,Y]) ?_ (by simp only[Env.set,YE];exact setRow_heap w _ C _ et _ q5) ?_ (fun j J=>?_) fun j v J=>?_
     ·rw[b6];simp only[Env.set,YE];exact⟨by omega,O,fun h0=>by omega⟩
     ·rw[c4];simp only[Env.set,YE];rw[Y,Yk];simp;omega
     ·simp only[Env.set,YE];rw[b2 j J]
      by_cases N:j<cs.length
      ·rw[Y4 N];exact q7 j N
      ·rw[Y3 N];have I:j-cs.length<gs.length:=by rw[gl,<-hX.len];rw[Yj] at J;omega
       rw[Y0,Y5 I];exact g2 _ (Xj I)
     ·have d1:=(Ya.1 J).1;have b0:∀i,v.mentions i=true->ρ.set nid ⟨(ρ id).b,(ρ id).o,sz,n+m,(ρ id).cap,false⟩ i=ρ i:=fun i hi=>Env.set_other fun e=>by
       subst e;have:=Q9 J hi;rw[c1] at this;cases this
      simp only[Env.set,YE];rw[b2 j d1]
      by_cases N:j<cs.length
      ·rw[Y4 N];rw[YS N] at J;exact(q8 j v J).keep keep b0
      ·rw[Y3 N];rw[YZ (by omega)] at J;exact(g3 _ v J).keep keep b0
   refine⟨_,_,_,by rw[h1];exact b9,a9,?_⟩;have e1:(Value.slice (some ⟨(ρ id).b,(ρ id).o,none⟩) (n+m) (ρ id).cap)=.slice (some ⟨((ρ.set nid ⟨(ρ id).b,(ρ id).o,sz,n+m,(ρ id).cap,false⟩) nid).b,((ρ.set nid ⟨(ρ id).b,(ρ id).o,sz,n+m,(ρ id).cap,false⟩) nid).o+0*((ρ.set nid ⟨(ρ id).b,(ρ id).o,sz,n+m,(ρ id).cap,false⟩) nid).sz,none⟩) (n+m) (((ρ.set nid ⟨(ρ id).b,(ρ id).o,sz,n+m,(ρ id).cap,false⟩) nid).cap-0):=by
    simp[Env.set]
   rw[e1];exact .osl (by simp[Env.set]) (by simp[Env.set]) (by simpa[Env.set] using O)
theorem Qsl {ow:Nat->Prop} {L:List (Nat×Blk)} (h:SimO P ow B w0 F ρ S a w) (hl:∀i b,Qk L i=some b->Qk S.blks i=some b):SimO P ow B w0 F ρ ⟨S.base,S.nt,S.tmps,S.gds,L,S.frames⟩ a w:=
 ⟨h.below,h.tab,h.hB,h.defers,h.nt,h.top,fun i b hb=>h.blks i b (hl i b hb),fun i j x y I J=>h.sep i j x y (hl i x I) (hl j y J),fun i x I=>h.ge i x (hl i x I),h.frames⟩
theorem QoA {L I:List (Nat×Blk)} (hl:∀i b,Qk L i=some b->Qk I i=some b) {b:Nat} (h:own L ρ b):own I ρ b:=by
 have⟨i,k,J,hp,e⟩:=h;exact⟨i,k,hl i k J,hp,e⟩
theorem Qfb {S:St} {id i:Nat} {t:TypeId} {cs:List V} (hm:S.mentions id=false) (h:Qk S.blks i=some (.box t cs)):QU id cs=false:=by
 cases hc:QU id cs with
 |false=>rfl
 |true=>
  have:=(St.mentions_parts hm).2.2.1;rw[ZR (id:=id) h (.inr hc)] at this;cases this
theorem QuT (hT:TOk P tb) (h:Sim P B w0 F ρ S a w) {X pre:List (Nat×Blk)} (lookX:∀i b,Qk X i=some b->Qk S.blks i=some b) (lookP:∀i b,Qk pre i=some b->Qk S.blks i=some b) (hdis:∀i b,Qk pre i=some b->Qk X i=none)
  (delP:∀ {j i:Nat} {b:Blk},Qk (delB pre j) i=some b->i≠j∧Qk pre i=some b) (lookA:∀ {l i b},Qk (X++l) i=some b->Qk X i=some b∨Qk l i=some b) {t:Nat} {op:Op} {ty pos after guard}
  {e n:Nat} {cs:List V} {gone:Option Nat} (hm:S.mentions (St.idOf S.base t)=false) (hkm:(⟨S.base,S.nt,S.tmps,S.gds,X++Qwz pre gone,S.frames⟩:St).mentions (St.idOf S.base t)=false) (he:evB tb (S.ev []) pre op=some (e,n,cs,gone)):
  ∃v w' ρ',(execOp a.eval ⟨some t,op,ty,pos,after,guard⟩).run P w=.ok (.value v) w'∧Sim P B w0 F ρ' ⟨S.base,S.nt,S.tmps,S.gds,(St.idOf S.base t,.box (bty n e) cs)::(X++Qwz pre gone),S.frames⟩ a w'∧
   VR w' (ZM B ((St.idOf S.base t,.box (bty n e) cs)::(X++Qwz pre gone)) ρ') ρ' (.osl (St.idOf S.base t) 0 n) v:=by
 have hev:=h.evR;have hsub:∀i b,Qk (X++Qwz pre gone) i=some b->Qk S.blks i=some b:=fun i b hb=>by
  rcases lookA hb with hb|hb
  ·exact lookX _ _ hb
  ·cases gone with
   |none=>exact lookP _ _ hb
   |some g=>exact lookP _ _ (delP hb).2
 have hk:=Qsl h.o (L:=X++Qwz pre gone) hsub;have hown:∀b,ZM B (X++Qwz pre gone) ρ b->ZM B S.blks ρ b:=fun b hb=>hb.elim (fun ho=>.inl (QoA hsub ho)) .inr;unfold evB at he;split at he
 ·rename_i t0 len parts;split at he
  ·rename_i e1 s1 b1 z1 q1 x hti hparts;split at he
   ·rename_i k sz byt z2 q2 hte hds;split at he
    ·rename_i hc;simp only[Yc,YX] at he;obtain⟨rfl,rfl,rfl,rfl⟩:=he;simp only[Y2] at hc;have⟨c1,c2,c3,c4⟩:=hc;have c2:=Y9 c2;have c3:e1<1000000:=by rw[Y0a] at c3;exact c3
     have c4:=Yt c4;have hl:=Qes (hev.at x) c1;have hp:parts.map (fun(i,x)=>(i,a.eval x))=#[(0,a.eval x)]:=by
      have:parts=#[(0,x)]:=by apply Xt;simpa using hparts
      rw[this];simp
     have⟨C,h1,h2,h3⟩:=QpN (P:=P) (w:=w) hT hti rfl hte (y:=a.eval x) (by rw[hl.size,c2]) c4;dsimp only at h2 h3;have hsn:=QnD (w:=w) hk hkm hown (n:=1) (e:=e1) (tn:=bty 1 e1) (sz:=sz) (cap:=1) (Yh _) (QjX (Yh _) c3) (by rw[c2,Y0p]) (QhJ (QlO hm _ _)) (C:=C) (.inl rfl) (by rw[h2,Y0p];exact Yh _) (Yh _)
      (fun j hj=>by rw[h3 j (by omega)];exact hl.one j (by rw[hl.size];exact hj)) fun j v hj=>by
       have:=(Ya.1 hj).1;rw[h3 j (by omega)];exact hl.vals j v hj
     refine⟨_,_,_,?_,hsn.1,hsn.2⟩;simp only[execOp,hp,Sem.run_bind,h1,Result.andThen_ok,Sem.run_pure]
    ·cases he
   ·cases he
  ·cases he
 ·rename_i c;split at he
  case h_2=>cases he
  rename_i hcal;split at he
  case h_2=>cases he
  rename_i s x ty1 ty2 hargs htys;have hargs:c.args=#[s,x]:=by apply Xt;simpa using hargs
  have htys:c.argTypes=#[ty1,ty2]:=by apply Xt;simpa using htys
  have hrun:∀w',(execOp a.eval ⟨some t,.call c,ty,pos,after,guard⟩).run P w'=((Builtin.append_ #[ty1,ty2] ty #[a.eval s,a.eval x]>>=fun v=>(pure (.value v):Sem Next)).run P w'):=fun w'=>by
   simp only[execOp,resolve,hcal,hargs,htys,pure_bind,invoke,builtin,XX,YI,Y0s]
  split at he
  case h_2=>cases he
  rename_i e1 s' by' z' q e' s2 by2 z2 q2 hti hti'
  split at he
  case h_2=>cases he
  rename_i kk sz byt zz qq ix o m hte hxv;split at he
  case h_2=>cases he
  rename_i tx cx hlx;split at he
  ·rename_i hc hsv;split at he
   case h_2=>cases he
   rename_i hb;simp only[Yc,YX] at he;obtain⟨rfl,rfl,rfl,rfl⟩:=he;simp only[Y2] at hc;have⟨c1,c2,c3,c4⟩:=hc;have c1:=Y9 c1;have c2:=Yt c2;have c3:e1<1000000:=by rw[Y0a] at c3;exact c3
   have c4:=Y9 c4;have hbx:bcl tx=m:=by rw[c1];exact QjX c2 c3
   have hX:=(Qk8 (P:=P) c2 hbx (h.blks _ _ (lookP _ _ hlx)) c4 (hev.eq hxv)).2.2;have⟨hS,hS2⟩:=QwZ (P:=P) (sz:=sz) (hev.eq hsv);have⟨v,w',ρ',r1,r2,r3⟩:=QnE hT h (ty:=ty) (n:=0) (m:=m) (ts:=0) (tn:=bty m e1) (nid:=St.idOf S.base t) hti hti' hte c2 (fun h0=>by omega) (by rw[Yl];exact QjX c2 c3) hS hX (.inl ⟨rfl,hS2⟩) (by rw[Yl];exact Yt hb) hk hkm
    (by rw[YA];exact Qfb hm (lookP _ _ hlx)) hown (fun _ _ _ h0 _=>by omega)
   rw[YA] at r2 r3;rw[Yl] at r3;exact⟨v,w',ρ',by rw[hrun,Sem.run_bind,r1];rfl,r2,r3⟩
  ·rename_i is n1 hc hsv;split at he
   case h_2=>cases he
   rename_i ts cs1 hls;split at he
   case h_2=>cases he
   rename_i hc2;simp only[Yc,YX] at he;obtain⟨rfl,rfl,rfl,rfl⟩:=he;simp only[Y2] at hc hc2;have⟨c1,c2,c3,c4⟩:=hc;have⟨d1,d2,d3,d4⟩:=hc2;have c1:=Y9 c1;have c2:=Yt c2;have c3:e1<1000000:=by rw[Y0a] at c3;exact c3
   have c4:=Y9 c4;have d1:=Y9 d1;have d2:=Yt d2;have d3:=Y9 d3;have d4:=Yt d4;have hbx:bcl tx=m:=by rw[c1];exact QjX c2 c3
   have hbs:bcl ts=n1:=by rw[d1];exact QjX d2 c3
   have hX:=(Qk8 (P:=P) c2 hbx (h.blks _ _ (lookP _ _ hlx)) c4 (hev.eq hxv)).2.2;have hS:=(Qk8 (P:=P) d2 hbs (h.blks _ _ (lookP _ _ hls)) d3 (hev.eq hsv)).2.2;have hph:(ρ is).ph=false:=by
    cases h.blks _ _ (lookP _ _ hls) with
    |box C q1=>exact q1
   have⟨v,w',ρ',r1,r2,r3⟩:=QnE hT h (ty:=ty) (n:=n1) (m:=m) (ts:=ts) (tn:=bty (n1+m) e1) (nid:=St.idOf S.base t) hti hti' hte c2 (fun _=>hbs) (QjX (by omega) c3) hS hX (.inr ⟨is,d2,lookP _ _ hls,hev.eq hsv⟩) d4 hk hkm
    (QkO (Qfb hm (lookP _ _ hls)) (Qfb hm (lookP _ _ hlx))) hown (fun id cs0 hl _ hv=>by
     rintro⟨i,k,hk2,hpi,e⟩;have hsl:=hev.eq hsv;have⟨ad1,p1,u1,u2,u3⟩:=hv.osl_inv;have⟨ad2,p2,v1,v2,v3⟩:=hsl.osl_inv;rw[u1] at v1
     cases v1
     rcases u3 with ⟨u3,_⟩|⟨u3,u4,u5,u6⟩
     ·omega
     rcases v3 with ⟨v3,_⟩|⟨v3,v4,v5,v6⟩
     ·omega
     rw[u5] at v5;have hbb:(ρ id).b=(ρ is).b:=by simp only[Yc,Addr.mk.injEq] at v5;exact v5.1
     rcases lookA hk2 with hk3|hk3
     ·have:=h.sep i is _ _ (lookX _ _ hk3) (lookP _ _ hls) hpi hph (e.trans hbb);subst this;rw[hdis _ _ hls] at hk3;cases hk3
     ·have⟨hne,hk4⟩:=delP hk3;exact hne (h.sep i is _ _ (lookP _ _ hk4) (lookP _ _ hls) hpi hph (e.trans hbb)))
   exact⟨v,w',ρ',by rw[hrun,Sem.run_bind,r1];rfl,r2,r3⟩
  ·cases he
 ·cases he
end Go.Ab
namespace Go.Ab
open Go.RowKit
variable {P:Program} {tb:Tb} {w:World} {ow:Nat→Prop} {ρ:Env} {a:Act} {B:Bd} {w0:World} {F:List (Array Value)} {S:St}
def hasB (bs:List (Nat×Blk)) (i:Nat):Bool:=match Qk bs i with
 |some _=>true
 |none=>false
mutual
def V.within (p:Nat->Bool):V->Bool
 | .ref i _ _=>p i
 | .osl i _ _=>p i
 | .agg vs=>Qij p vs
 | .tup vs=>Qij p vs
 | .fn _ vs=>Qij p vs
 |_=>true
def Qij (p:Nat->Bool):List V->Bool
 |[]=>true
 |v::r=>match v.within p with
  |true=>Qij p r
  |false=>false
end
def Blk.within (p:Nat->Bool):Blk->Bool
 | .box _ cs=>Qij p cs
 | .arr ..=>true
def Qik (p:Nat->Bool):List (Nat×Blk)->Bool
 |[]=>true
 |(_,b)::r=>match b.within p with
  |true=>Qik p r
  |false=>false
theorem QnF {i j:Nat} (h:Nat.beq i j=true):i=j:=Y9 h
mutual
theorem V.within_of {p:Nat->Bool} {id:Nat} (v:V) (h:v.within p=true) (hm:v.mentions id=true):p id=true:=by
 cases v with
 |ref i _ _=>simp only[V.mentions] at hm;rw[<-QnF hm];exact h
 |osl i _ _=>simp only[V.mentions] at hm;rw[<-QnF hm];exact h
 |agg vs=>exact Qfs vs h hm
 |tup vs=>exact Qfs vs h hm
 |fn f vs=>exact Qfs vs h hm
 |_=>simp[V.mentions] at hm
theorem Qfs {p:Nat->Bool} {id:Nat} (vs:List V) (h:Qij p vs=true) (hm:QU id vs=true):p id=true:=by
 cases vs with
 |nil=>simp[QU] at hm
 |cons v r=>
  simp only[Qij] at h
  split at h
  ·rename_i h1
   simp only[QU] at hm
   cases h2:v.mentions id
   ·rw[h2] at hm;exact Qfs r h hm
   ·exact V.within_of v h1 h2
  ·cases h
end
theorem Blk.within_of {p:Nat->Bool} {id:Nat} {b:Blk} (h:b.within p=true) (hm:b.mentions id=true):p id=true:=by
 cases b with
 |box t cs=>exact Qfs cs h hm
 |arr=>simp[Blk.mentions] at hm
theorem QnG {p:Nat->Bool}:∀ {bs:List (Nat×Blk)} {i:Nat} {b:Blk},Qik p bs=true->Qk bs i=some b->b.within p=true
 |(j,x)::r,i,b,h,hl=>by
  simp only[Qik] at h;split at h
  ·rename_i h1;rcases QY hl with ⟨_,rfl⟩|⟨_,hl⟩
   ·exact h1
   ·exact QnG h hl
  ·cases h
 |[],_,_,_,hl=>by simp[Qk] at hl
theorem Qfc {bs:List (Nat×Blk)} {i:Nat} (h:hasB bs i=true):∃b,Qk bs i=some b:=by
 unfold hasB at h;split at h
 ·exact⟨_,‹_›⟩
 ·cases h
theorem Qi3 {bs:List (Nat×Blk)} {i:Nat} {b:Blk} (h:Qk bs i=some b):hasB bs i=true:=by simp[hasB,h]
def Agr (l I:Loc):Prop:=I=l∨(l.n=0∧I.n=0∧(l.ph=true∨l.cap=0))
theorem VR.agr {v:V} {x:Value} {ρ':Env} (h:VR w ow ρ v x) (J:∀i,v.mentions i=true->Agr (ρ i) (ρ' i)):VR w ow ρ' v x:=by
 induction h with
 |any=>exact .any
 |d h=>exact .d h
 |ref h1 h2=>
  rename_i id row off;rcases J id (by simp[V.mentions]) with e|⟨e,_⟩
  ·rw[<-e] at h1 h2|-;exact .ref h1 h2
  ·omega
 |osl0 O h1=>
  rename_i id off len ad;rcases J id (by simp[V.mentions]) with e|⟨e,_⟩
  ·rw[<-e] at h1;exact .osl0 O h1
  ·exact .osl0 O (by omega)
 |osl h1 h2 h3=>
  rename_i id off len;rcases J id (by simp[V.mentions]) with e|⟨e,e1,Y⟩
  ·rw[<-e] at h1 h2 h3|-;exact .osl h1 h2 h3
  ·have hl:len=0:=by omega
   have ho:off=0:=by omega
   subst hl ho;have hc:(ρ id).cap=0:=Y.elim (fun h=>by rw[h1] at h;cases h) fun h=>h;rw[hc];exact .osl0 rfl (XW _)
 |rp vals ho hb hc U=>exact .rp vals ho hb hc U
 |agg hs h1 hv N=>exact .agg hs h1 fun j v I=>N j v I fun id hm=>J id (by simpa[V.mentions] using Q9 I hm)
 |tup hs hv N=>exact .tup hs fun j v I=>N j v I fun id hm=>J id (by simpa[V.mentions] using Q9 I hm)
 |fn hs hv N=>exact .fn hs fun j v I=>N j v I fun id hm=>J id (by simpa[V.mentions] using Q9 I hm)
theorem BR.agr {i:Nat} {b:Blk} {ρ':Env} (h:BR w ow ρ i b) (hi:ρ' i=ρ i) (Y:∀i,b.mentions i=true->Agr (ρ i) (ρ' i)):BR w ow ρ' i b:=by
 cases h with
 |box C h1 h2 h3 h4 h5 h6 N I=>
  exact .box C (by rw[hi];exact h1) (by rw[hi];exact h2) (by rw[hi];exact h3) (by rw[hi];exact h4) (by rw[hi];exact h5) (by rw[hi];exact h6) (by rw[hi];exact N) fun j v O=>by rw[hi];exact(I j v O).agr fun i hm=>Y i (by simpa[Blk.mentions] using Q9 O hm)
 |arr0 h1 h2 h3 h4=>exact .arr0 (by rw[hi];exact h1) (by rw[hi];exact h2) (by rw[hi];exact h3) h4
 |arr C et h1 h2 h3 h4 h5 h6 N I=>exact .arr C et (by rw[hi];exact h1) (by rw[hi];exact h2) (by rw[hi];exact h3) (by rw[hi];exact h4) h5 (by rw[hi];exact h6) (by rw[hi];exact N) fun i j d J U=>by rw[hi];exact I i j d J U
theorem FrR.agr {f:Fr} {tm:Array Value} {ρ':Env} (h:FrR w ow ρ f tm) (J:∀i,(Jg i f.tmps=true∨Jh i f.gds=true)->Agr (ρ i) (ρ' i)):FrR w ow ρ' f tm:=by
 refine⟨fun t v hv=>(h.tmps t v hv).agr fun i hm=>J i (.inl (QeZ hv hm)),fun g I=>?_⟩;rcases(h.gds g I).h with h1|h1
 ·exact⟨.inl ⟨h1.1,h1.2.agr fun i hm=>J i (.inr (Qe0 I hm))⟩⟩
 ·exact⟨.inr h1⟩
structure KeptE (bs:List (Nat×Blk)) (ρ0:Env) (w w':World):Prop extends Kept (fun b=>b<w.heap.size∧¬own bs ρ0 b) w w' where
 side:∀i x,Qk bs i=some x→(ρ0 i).ph=false→x.bx=true→∀k,(k<(ρ0 i).o∨(ρ0 i).o+(ρ0 i).cap*(ρ0 i).sz≤k)→w'.cell? ⟨(ρ0 i).b,k,none⟩=w.cell? ⟨(ρ0 i).b,k,none⟩
def Qzf (bs:List (Nat×Blk)) (ρ0:Env) (b k:Nat):Prop:=∃i x,Qk bs i=some x∧(ρ0 i).ph=false∧x.bx=true∧(ρ0 i).b=b∧(k<(ρ0 i).o∨(ρ0 i).o+(ρ0 i).cap*(ρ0 i).sz<=k)
structure EffC (P:Program) (f:FuncId) (args:List V) (bs:List (Nat×Blk)) (res:V) (bs':List (Nat×Blk)):Prop where
 can:Callable P f
 shut:res.within (hasB bs')=true
 shutB:Qik (hasB bs') bs'=true
 out:∀(Z:Nat→Prop) w vals ρ0,Qhq w (fun x=>own bs ρ0 x∨Z x) ρ0 args vals→(∀i b,Qk bs i=some b→BR w (fun x=>own bs ρ0 x∨Z x) ρ0 i b)→
  (∀i j x y,Qk bs i=some x→Qk bs j=some y→(ρ0 i).ph=false→(ρ0 j).ph=false→(ρ0 i).b=(ρ0 j).b→i=j)→
  (∀i x,Qk bs i=some x→(ρ0 i).ph=false→¬Z (ρ0 i).b)→(∀b,Z b→b<w.heap.size)→TabB P (fun b=>b<w.heap.size∧¬own bs ρ0 b) w→
  Calls P f vals w fun e w'=>∃v ρ,e=.returned v∧KeptE bs ρ0 w w'∧(∀i x y,Qk bs i=some x→Qk bs' i=some y→Agr (ρ0 i) (ρ i))∧
   VR w' (fun x=>own bs' ρ x∨Z x) ρ res v∧(∀i b,Qk bs' i=some b→BR w' (fun x=>own bs' ρ x∨Z x) ρ i b)∧
   (∀i j x y,Qk bs' i=some x→Qk bs' j=some y→(ρ i).ph=false→(ρ j).ph=false→(ρ i).b=(ρ j).b→i=j)∧
   (∀i x,Qk bs' i=some x→(ρ i).ph=false→(w.heap.size≤(ρ i).b∨own bs ρ0 (ρ i).b)∧∀k,Qzf bs ρ0 (ρ i).b k→x.bx=true∧(k<(ρ i).o∨(ρ i).o+(ρ i).cap*(ρ i).sz≤k))
theorem Qq2 {Z J:Nat->Prop} {sub:∀b,Z b->J b} {bs:List (Nat×Blk)} {ρ0:Env} {w:World} {ow:Nat->Prop} (I:∀i b,Qk bs i=some b->BR w ow ρ0 i b):KeptD ⟨J,Z,sub,Qzf bs ρ0⟩ w w:=
 ⟨Kept.refl _ _,fun _ _ _=>rfl,fun b k ⟨i,x,N,hp,_,e,_⟩=>e▸(I i x N).lt hp⟩
theorem Qtx {Z:Nat->Prop} {bs:List (Nat×Blk)} {ρ0:Env} {w:World} {sub:∀b,Z b->b<w.heap.size∧¬own bs ρ0 b} {i:Nat} {x:Blk} (I:∀i j x y,Qk bs i=some x->Qk bs j=some y->(ρ0 i).ph=false->(ρ0 j).ph=false->(ρ0 i).b=(ρ0 j).b->i=j)
  (O:Qk bs i=some x) (hp:(ρ0 i).ph=false):Bd.free ⟨fun b=>b<w.heap.size∧¬own bs ρ0 b,Z,sub,Qzf bs ρ0⟩ (ρ0 i) x.bx:=
 ⟨fun hk=>hk.2 ⟨i,x,O,hp,rfl⟩,fun k ⟨j,y,N,J,U,e,Y⟩=>by
  have:=I j i y x N O J hp e;subst this;rw[O] at N;cases N;exact⟨U,Y⟩⟩
theorem Qw0 {Z:Nat->Prop} {bs:List (Nat×Blk)} {ρ0:Env} {w w':World} {sub:∀b,Z b->b<w.heap.size∧¬own bs ρ0 b} (h:KeptD ⟨fun b=>b<w.heap.size∧¬own bs ρ0 b,Z,sub,Qzf bs ρ0⟩ w w'):KeptE bs ρ0 w w':=
 ⟨h.toKept,fun i x J hp hb k I=>h.cell _ k ⟨i,x,J,hp,hb,rfl,I⟩⟩
theorem Qk9 {bs:List (Nat×Blk)} {ρ0:Env} {b k:Nat} (h:∀i x,Qk bs i=some x->x.bx=false) (hc:Qzf bs ρ0 b k):False:=by
 have⟨i,x,I,_,q,_⟩:=hc;rw[h i x I] at q;cases q
theorem Qi4 {bs:List (Nat×Blk)} {ρ0:Env} {w w':World} (h:∀i x,Qk bs i=some x->x.bx=false) (k:Kept (fun b=>b<w.heap.size∧¬own bs ρ0 b) w w'):KeptE bs ρ0 w w':=
 ⟨k,fun i x I _ hb=>by rw[h i x I] at hb;cases hb⟩
theorem VR.mono {v:V} {x:Value} {ow':Nat->Prop} (h:VR w ow ρ v x) (hs:∀b,ow' b->ow b):VR w ow' ρ v x:=
 h.keep ⟨Yh _,fun b _ ho=>⟨rfl,fun h=>ho (hs b h)⟩⟩ fun _ _=>rfl
theorem BR.mono {i:Nat} {b:Blk} {ow':Nat->Prop} (h:BR w ow ρ i b) (hs:∀b,ow' b->ow b):BR w ow' ρ i b:=
 h.keep ⟨Yh _,fun b _ ho=>⟨rfl,fun h=>ho (hs b h)⟩⟩ rfl (fun _=>rfl) fun _ _=>rfl
theorem VR.env {v:V} {x:Value} {ρ':Env} (h:VR w ow ρ v x) (I:∀i,v.mentions i=true->ρ' i=ρ i):VR w ow ρ' v x:=
 h.keep ⟨Yh _,fun _ _ ho=>⟨rfl,ho⟩⟩ I
theorem BR.env {i:Nat} {b:Blk} {ρ':Env} (h:BR w ow ρ i b) (hi:ρ' i=ρ i) (I:∀i,b.mentions i=true->ρ' i=ρ i):BR w ow ρ' i b:=
 h.keep ⟨Yh _,fun _ _ ho=>⟨rfl,ho⟩⟩ hi (fun _=>rfl) I
theorem VR.unren {f:Nat->Nat} {u:V} {x:Value} (h:VR w ow ρ u x):∀v:V,u=v.ren f->VR w ow (fun i=>ρ (f i)) v x:=by
 induction h with
 |any=>intro v hv;cases v<;>simp only[V.ren] at hv<;>first|exact .any|cases hv
 |d h=>intro v hv;cases v<;>simp only[V.ren] at hv<;>first|(cases hv;exact .d h)|cases hv
 |ref h1 h2=>intro v hv;cases v<;>simp only[V.ren] at hv<;>first|(cases hv;exact .ref (ρ:=fun i=>ρ (f i)) h1 h2)|cases hv
 |osl0 U h1=>intro v hv;cases v<;>simp only[V.ren] at hv<;>first|(cases hv;exact .osl0 (ρ:=fun i=>ρ (f i)) U h1)|cases hv
 |osl h1 h2 h3=>intro v hv;cases v<;>simp only[V.ren] at hv<;>first|(cases hv;exact .osl (ρ:=fun i=>ρ (f i)) h1 h2 h3)|cases hv
 |rp vals ho hb hc O=>intro v hv;cases v<;>simp only[V.ren] at hv<;>first|(cases hv;exact .rp vals ho hb hc O)|cases hv
 |agg hs h1 hv J=>
  intro v I;cases v<;>simp only[V.ren] at I<;>try cases I
  rename_i vs;refine .agg (by rw[Ju] at hs;exact hs) h1 fun j v N=>J j (v.ren f) (by rw[QdD,N];rfl) v rfl
 |tup hs hv J=>
  intro v I;cases v<;>simp only[V.ren] at I<;>try cases I
  rename_i vs;refine .tup (by rw[Ju] at hs;exact hs) fun j v N=>J j (v.ren f) (by rw[QdD,N];rfl) v rfl
 |fn hs hv J=>
  intro v I;cases v<;>simp only[V.ren] at I<;>try cases I
  rename_i g vs;refine .fn (by rw[Ju] at hs;exact hs) fun j v N=>J j (v.ren f) (by rw[QdD,N];rfl) v rfl
theorem BR.unren {f:Nat->Nat} {i:Nat} {b:Blk} (h:BR w ow ρ (f i) (b.ren f)):BR w ow (fun i=>ρ (f i)) i b:=by
 cases b with
 |box t cs=>
  cases h with|box C h1 h2 h3 h4 h5 h6 I J=>
  rw[Ju] at h3 h6 I;exact .box C h1 h2 h3 h4 h5 h6 I fun j v N=>(J j (v.ren f) (by rw[QdD,N];rfl)).unren v rfl
 |arr t sz n row=>
  cases h with
  |arr0 h1 h2 h3 h4=>exact .arr0 h1 h2 h3 h4
  |arr C et h1 h2 h3 h4 h5 h6 I J=>exact .arr C et h1 h2 h3 h4 h5 h6 I J
def Qbk (r:List (Nat×Nat)) (k i:Nat):Nat:=match Qk r i with
 |some j=>j
 |none=>i+k
theorem QgM {j:Nat}:∀ {bs:List (Nat×Blk)} {i:Nat} {b:Blk},Qk (delB bs j) i=some b->i≠j∧Qk bs i=some b
 |(u,x)::r,i,b,h=>by
  simp only[delB] at h;split at h
  ·rename_i hb;have:=Y9 hb;subst this;have⟨h1,h2⟩:=QgM h;exact⟨h1,by rw[QO (YY h1)];exact h2⟩
  ·rename_i hb;rcases QY h with ⟨rfl,rfl⟩|⟨I,h⟩
   ·exact⟨fun e=>by subst e;simp at hb,Zl⟩
   ·have⟨h1,h2⟩:=QgM h;exact⟨h1,by rw[QO I];exact h2⟩
 |[],_,_,h=>by simp[delB,Qk] at h
def QqB (f:Nat->Nat) (M:List (Nat×Blk)) (S:List (Nat×Blk)):List (Nat×Blk)->List (Nat×Blk)
 |[]=>S
 |(j,_)::r=>match Qk M j with
  |some b=>QhF (QqB f M S r) (f j) (b.ren f)
  |none=>delB (QqB f M S r) (f j)
def Ql8 (f:Nat->Nat) (bs M:List (Nat×Blk)) (S:List (Nat×Blk)):List (Nat×Blk)->List (Nat×Blk)
 |[]=>S
 |(j,_)::r=>match Qk bs j with
  |some _=>Ql8 f bs M S r
  |none=>match Qk M j with
   |some b=>(f j,b.ren f)::Ql8 f bs M S r
   |none=>Ql8 f bs M S r
theorem QgN {f:Nat->Nat} {M S:List (Nat×Blk)}:∀ {bs:List (Nat×Blk)} {i:Nat} {b:Blk},Qk (QqB f M S bs) i=some b->
  (∃j b',Qk M j=some b'∧i=f j∧b=b'.ren f)∨(Qk S i=some b∧∀j x,(j,x)∈bs->i≠f j)
 |[],i,b,h=>.inr ⟨h,fun _ _ hm=>by simp at hm⟩
 |(j,x)::r,i,b,h=>by
  simp only[QqB] at h;split at h
  ·rename_i b' J;rcases Qa6 h with ⟨h1,h2,_⟩|⟨h1,h2⟩
   ·exact .inl ⟨j,b',J,h1,h2⟩
   ·rcases QgN h2 with h3|⟨h3,h4⟩
    ·exact .inl h3
    ·refine .inr ⟨h3,fun I N hm=>?_⟩;rcases Yi.1 hm with e|hm
     ·cases e;exact h1
     ·exact h4 I N hm
  ·have⟨h1,h2⟩:=QgM h;rcases QgN h2 with h3|⟨h3,h4⟩
   ·exact .inl h3
   ·refine .inr ⟨h3,fun I N hm=>?_⟩;rcases Yi.1 hm with e|hm
    ·cases e;exact h1
    ·exact h4 I N hm
theorem Qft {f:Nat->Nat} {bs M S:List (Nat×Blk)}:∀ {l:List (Nat×Blk)} {i:Nat} {b:Blk},Qk (Ql8 f bs M S l) i=some b->
  (∃j b',Qk M j=some b'∧i=f j∧b=b'.ren f)∨Qk S i=some b
 |[],i,b,h=>.inr h
 |(j,x)::r,i,b,h=>by
  simp only[Ql8] at h;split at h
  ·exact Qft h
  ·split at h
   ·rename_i b' I;rcases QY h with ⟨rfl,rfl⟩|⟨_,h⟩
    ·exact .inl ⟨j,b',I,rfl,rfl⟩
    ·exact Qft h
   ·exact Qft h
theorem Zb {α:Type}:∀ {l:List (Nat×α)} {i:Nat} {x:α},Qk l i=some x->(i,x)∈l
 |(u,y)::r,i,x,h=>by
  rcases QY h with ⟨rfl,rfl⟩|⟨_,h⟩
  ·simp
  ·exact YM _ (Zb h)
 |[],_,_,h=>by simp[Qk] at h
def inB (S:List (Nat×Blk)) (f:Nat->Nat):List (Nat×Blk)->Prop
 |[]=>True
 |(j,b)::r=>(match Qk S (f j) with
  |some I=>BLe I (b.ren f)
  | none => Stuck "no such block") ∧ inB S f r
theorem Qsm {T:List (Nat×Blk)} {f:Nat->Nat}:∀ {bs:List (Nat×Blk)},inB T f bs->∀j b,(j,b)∈bs->∃I,Qk T (f j)=some I∧BLe I (b.ren f)
 |(j,b)::r,h,j',b',hm=>by
  simp only[inB] at h;rcases Yi.1 hm with e|hm
  ·cases e
   have h1:=h.1;split at h1
   ·exact⟨_,‹_›,h1⟩
   ·exact h1.no.elim
  ·exact Qsm h.2 j' b' hm
 |[],_,_,_,hm=>by simp at hm
def Jj (bs:List (Nat×Blk)):List (Nat×Blk)->List Nat
 |[]=>[]
 |(j,_)::r=>match Qk bs j with
  |some _=>Jj bs r
  |none=>j::Jj bs r
def Qd7:List (Nat×Blk)->List Nat
 |[]=>[]
 |(j,_)::r=>j::Qd7 r
def Qw1 (i:Nat):List Nat->Bool
 |[]=>false
 |j::r=>match Nat.beq i j with
  |true=>true
  |false=>Qw1 i r
def Qc5 (f:Nat->Nat):List Nat->Bool
 |[]=>true
 |j::r=>match Qw1 (f j) (r.map f) with
  |true=>false
  |false=>Qc5 f r
theorem QoB {i:Nat}:∀ {l:List Nat},i∈l->Qw1 i l=true
 |j::r,h=>by
  simp only[Qw1];split
  ·rfl
  ·rename_i hb;rcases Yi.1 h with rfl|h
   ·simp at hb
   ·exact QoB h
 |[],h=>by simp at h
theorem Qhf {f:Nat->Nat}:∀ {l:List Nat},Qc5 f l=true->∀i∈l,∀j∈l,f i=f j->i=j
 |x::r,h,i,hi,j,hj,e=>by
  simp only[Qc5] at h;split at h
  ·cases h
  ·rename_i hb;have key:∀y∈r,f x≠f y:=fun y N e=>by
    have:=QoB (i:=f x) (l:=r.map f) (by rw[e];exact List.mem_map_of_mem N);rw[this] at hb;cases hb
   rcases Yi.1 hi with h1|I<;>rcases Yi.1 hj with h2|J
   ·rw[h1,h2]
   ·subst h1;exact absurd e (key j J)
   ·subst h2;exact absurd e.symm (key i I)
   ·exact Qhf h i I j J e
 |[],_,i,hi,_,_,_=>by simp at hi
theorem Qep {bs:List (Nat×Blk)}:∀ {i:Nat} {x:Blk},(i,x)∈bs->i∈Qd7 bs:=by
 induction bs with
 |nil=>intro i x h;simp at h
 |cons p r I=>
  have⟨j,y⟩:=p;intro i x h;simp only[Qd7];rcases Yi.1 h with h|h
  ·cases h;simp
  ·exact YM _ (I h)
theorem QjY {bs:List (Nat×Blk)}:∀ {M:List (Nat×Blk)} {i:Nat} {x:Blk},(i,x)∈M->Qk bs i=none->i∈Jj bs M
 |(j,y)::r,i,x,h,hn=>by
  simp only[Jj];rcases Yi.1 h with h|h
  ·cases h;rw[hn];simp
  ·split
   ·exact QjY h hn
   ·exact YM _ (QjY h hn)
 |[],_,_,h,_=>by simp at h
theorem Qzg {f:FuncId} {args args':List V} {bs bs':List (Nat×Blk)} {res:V} {vals:Array Value} (g:Nat->Nat) (h:EffC P f args' bs res bs') (hs:Sim P B w0 F ρ S a w) (hv:Qhq w (ZM B S.blks ρ) ρ args vals)
  (hw:CellsLe args (Qkt g args')) (hi:∀j b,(j,b)∈bs->∃b0,Qk S.blks (g j)=some b0∧BLe b0 (b.ren g))
  (ha:∀i∈Qd7 bs++Jj bs bs',∀j∈Qd7 bs++Jj bs bs',g i=g j->i=j) (hm:∀j∈Jj bs bs',S.mentions (g j)=false) (L:List (Nat×Blk))
  (a5:∀ {i b},Qk L i=some b->(∃j b',Qk bs' j=some b'∧i=g j∧b=b'.ren g)∨(Qk S.blks i=some b∧∀j x,Qk bs j=some x->i≠g j)):
  Calls P f vals w fun e w'=>∃v ρ1,e=.returned v∧Sim P B w0 F ρ1 ⟨S.base,S.nt,S.tmps,S.gds,L,S.frames⟩ a w'∧VR w' (ZM B L ρ1) ρ1 (res.ren g) v∧∀i,S.mentions i=true->Agr (ρ i) (ρ1 i):=by
 have a1:∀i x,Qk bs i=some x->∃b0,Qk S.blks (g i)=some b0∧BLe b0 (x.ren g):=fun i x I=>hi i x (Zb I);have Y:∀b,own bs (fun i=>ρ (g i)) b->own S.blks ρ b:=fun b ⟨i,x,I,hp,e⟩=>by
  have⟨b0,h1,_⟩:=a1 i x I;exact⟨g i,b0,h1,hp,e⟩
 let Z:Nat->Prop:=fun b=>ZM B S.blks ρ b∧¬own bs (fun i=>ρ (g i)) b
 have sub:∀b,own bs (fun i=>ρ (g i)) b∨Z b->ZM B S.blks ρ b:=fun b hb=>hb.elim (fun h=>.inl (Y b h)) fun h=>h.1;have c3:∀i x j y,Qk bs i=some x->Qk bs j=some y->g i=g j->i=j:=fun i x j y I hy e=>ha i (by simp[Qep (Zb I)]) j (by simp[Qep (Zb hy)]) e;have⟨c1,c2⟩:=hw.get;refine Calls.mono (h.out Z w vals (fun i=>ρ (g i)) ⟨by rw[hv.1,c1,Ju],fun j v J=>?_⟩ (fun i b hb=>?_) (fun i j x y I hy O N e=>?_) (fun i x I _ hz=>?_) (fun b hb=>QdY hs hb.1) (hs.tabs fun b hb=>⟨hs.hB b hb,fun ho=>by obtain⟨i,x,I,hp,rfl⟩:=Y b ho;exact(hs.ge i x I hp).blk hb⟩)) ?_
 ·have⟨u,hu,d1⟩:=c2 j (v.ren g) (by rw[QdD,J];rfl);exact((d1.out _ _ _ _ (hv.2 j u hu)).unren v rfl).mono sub
 ·have⟨b0,h1,h2⟩:=a1 i b hb;exact((h2.out _ _ _ _ (hs.blks _ _ h1)).unren).mono sub
 ·have⟨x0,h1,_⟩:=a1 i x I;have⟨y0,h2,_⟩:=a1 j y hy;exact c3 i x j y I hy (hs.sep _ _ _ _ h1 h2 O N e)
 ·rename_i hp;exact hz.2 ⟨i,x,I,hp,rfl⟩
 rintro e w' ⟨v,ρ',rfl,kept,same,c8,c5,c6,b8⟩
 --the cells beside what the call is handed
 have b3:∀b k,own bs (fun i=>ρ (g i)) b->B.cel b k->∃i x,Qk bs i=some x∧(ρ (g i)).ph=false∧x.bx=true∧True∧(ρ (g i)).b=b∧(k<(ρ (g i)).o∨(ρ (g i)).o+(ρ (g i)).cap*(ρ (g i)).sz<=k):=by
  rintro b k ⟨i,x,I,hp,rfl⟩ hc;have⟨b0,h1,h2⟩:=a1 i x I;have⟨q1,q2⟩:=(hs.ge _ _ h1 hp).cel k hc;have:=h2.bx;rw[Blk.ren_bx] at this;exact⟨i,x,I,hp,by rw[this];exact q1,trivial,rfl,q2⟩
 --the surroundings behind the call
 have a9:∀j x,Qk bs' j=some x->Qk bs j=none->j∈Jj bs bs':=fun j x I hn=>QjY (Zb I) hn;have a8:∀j x,Qk bs' j=some x->j∈Qd7 bs++Jj bs bs':=fun j x I=>by
  cases hb:Qk bs j with
  |none=>simp[a9 j x I hb]
  |some y=>simp[Qep (Zb hb)]
 classical
 let ρ1:Env:=fun i=>if I:∃j,hasB bs' j=true∧g j=i then ρ' I.choose else ρ i
 have a7:∀j x,Qk bs' j=some x->ρ1 (g j)=ρ' j:=fun j x J=>by
  have I:∃j',hasB bs' j'=true∧g j'=g j:=⟨j,Qi3 J,rfl⟩;simp only[ρ1,dif_pos I];have⟨y,hy⟩:=Qfc I.choose_spec.1;rw[ha _ (a8 _ y hy) j (a8 j x J) I.choose_spec.2]
 have b4:∀i,(∀j x,Qk bs' j=some x->g j≠i)->ρ1 i=ρ i:=fun i hn=>by
  simp only[ρ1];rw[dif_neg];rintro⟨j,J,e⟩;have⟨y,hy⟩:=Qfc J;exact hn j y hy e
 have c0:∀i b,Qk S.blks i=some b->S.mentions i=true:=fun i b hb=>by
  cases hc:S.mentions i
  ·have:=(St.mentions_parts hc).2.2.1;rw[ZR (id:=i) hb (.inl rfl)] at this;cases this
  ·rfl
 have U:∀i,S.mentions i=true->Agr (ρ i) (ρ1 i):=fun i hi=>by
  by_cases I:∃j x,Qk bs' j=some x∧g j=i
  ·obtain⟨j,x,J,rfl⟩:=I;rw[a7 j x J]
   cases hb:Qk bs j with
   |none=>
    have:=hm j (a9 j x J hb);rw[hi] at this;cases this
   |some y=>exact same j y x hb J
  ·exact .inl (b4 i fun j x J e=>I ⟨j,x,J,e⟩)
 have a2:∀i b,Qk S.blks i=some b->(∀j x,Qk bs j=some x->i≠g j)->ρ1 i=ρ i:=fun i b hb hn=>b4 i fun j x J e=>by
  cases c7:Qk bs j with
  |none=>
   have:=hm j (a9 j x J c7);rw[e,c0 i b hb] at this;cases this
  |some y=>exact hn j y c7 e.symm
 have a6:∀i b,Qk S.blks i=some b->(∀j x,Qk bs j=some x->i≠g j)->(ρ i).ph=false->¬own bs (fun i=>ρ (g i)) (ρ i).b:=fun i b hb hn hp=>by
  rintro⟨j,x,I,N,e⟩;have⟨b0,h1,_⟩:=a1 j x I;exact hn j x I (hs.sep _ _ _ _ hb h1 hp N e.symm)
 have b5:∀b,ZM B L ρ1 b->own bs' ρ' b∨Z b:=fun b hb=>by
  rcases hb with ⟨i,x,I,hp,rfl⟩|hb
  ·rcases a5 I with ⟨j,b',J,rfl,_⟩|⟨h1,h2⟩
   ·rw[a7 j b' J] at hp|-;exact .inl ⟨j,b',J,hp,rfl⟩
   ·rw[a2 i _ h1 h2] at hp|-;exact .inr ⟨.inl ⟨i,x,h1,hp,rfl⟩,a6 i x h1 h2 hp⟩
  ·refine .inr ⟨.inr hb,fun ho=>?_⟩;obtain⟨i,x,I,hp,rfl⟩:=Y b ho;exact(hs.ge i x I hp).blk (B.sub _ hb)
 have c4:∀(u:V) (x:Value),u.within (hasB bs')=true->VR w' (fun x=>own bs' ρ' x∨Z x) ρ' u x->VR w' (ZM B L ρ1) ρ1 (u.ren g) x:=fun u x hu I=>by
  have h1:VR w' (fun x=>own bs' ρ' x∨Z x) (fun i=>ρ1 (g i)) u x:=I.env fun i hi=>by
   have⟨b,hb⟩:=Qfc (V.within_of u hu hi);exact a7 i b hb
  exact(h1.ren fun i=>rfl).mono b5
 have b9:∀(i:Nat) (b:Blk),Qk bs' i=some b->BR w' (ZM B L ρ1) ρ1 (g i) (b.ren g):=fun i b hb=>by
  have h1:BR w' (fun x=>own bs' ρ' x∨Z x) (fun i=>ρ1 (g i)) i b:=(c5 i b hb).env (a7 i b hb) fun j J=>by
   have⟨b2,d0⟩:=Qfc (Blk.within_of (QnG h.shutB hb) J);exact a7 j b2 d0
  exact(h1.ren fun i=>rfl).mono b5
 have keep:Keep w (ZM B S.blks ρ) w' (ZM B L ρ1):=⟨kept.size,fun b hb ho=>⟨kept.block b ⟨hb,fun h1=>ho (.inl (Y b h1))⟩,fun h1=>by
  rcases b5 b h1 with ⟨j,x,I,hp,rfl⟩|h2
  ·rcases b8 j x I hp with h3|h3
   ·omega
   ·exact ho (.inl (Y _ h3))
  ·exact ho h2.1⟩⟩
 refine⟨v,ρ1,rfl,⟨hs.below.next kept.os kept.tape kept.output kept.size (fun b hb=>?_) (fun b k hc=>?_),hs.tab,fun b hb=>YK (hs.hB b hb) kept.size,hs.defers,hs.nt,?_,fun i b hb=>?_,fun i j x y I hy O N e=>?_,fun i x I hp=>?_,hs.frames.1,fun i f tm hf ht=>?_⟩,c4 _ _ h.shut c8,U⟩
 ·refine kept.block b ⟨hs.hB b hb,fun h1=>?_⟩;obtain⟨i,x,I,hp,rfl⟩:=Y b h1;exact(hs.ge i x I hp).blk hb
 ·by_cases ho:own bs (fun i=>ρ (g i)) b
  ·have⟨i,x,I,hp,q1,q2,q3,q4⟩:=b3 b k ho hc;subst q3;exact kept.side i x I hp q1 k q4
  ·exact World.cell?_of_block (kept.block b ⟨YK (hs.below.clt b k hc) hs.below.size,ho⟩)
 ·refine(hs.top.keep keep fun _ _=>rfl).agr fun i hi=>U i ?_
  cases hc:S.mentions i
  ·have⟨m1,m2,_,_⟩:=St.mentions_parts hc;dsimp only at hi;rw[m1,m2] at hi;simp at hi
  ·rfl
 ·rcases a5 hb with ⟨j,b',J,rfl,rfl⟩|⟨h1,h2⟩
  ·exact b9 j b' J
  ·refine((hs.blks i b h1).keep keep rfl (fun hp=>kept.block _ ⟨(hs.blks i b h1).lt hp,a6 i b h1 h2 hp⟩) fun _ _=>rfl).agr (a2 i b h1 h2) fun j J=>U j ?_
   cases hc:S.mentions j
   ·have:=(St.mentions_parts hc).2.2.1;rw[ZR (id:=j) h1 (.inr J)] at this;cases this
   ·rfl
 ·have key:∀i x,Qk L i=some x->(ρ1 i).ph=false->(∃j b',Qk bs' j=some b'∧i=g j∧ρ1 i=ρ' j)∨(Qk S.blks i=some x∧(∀j x,Qk bs j=some x->i≠g j)∧ρ1 i=ρ i):=fun i x I hp=>by
   rcases a5 I with ⟨j,b',J,rfl,_⟩|⟨h1,h2⟩
   ·exact .inl ⟨j,b',J,rfl,a7 j b' J⟩
   ·exact .inr ⟨h1,h2,a2 i _ h1 h2⟩
  have b6:∀j b' i x,Qk bs' j=some b'->(ρ' j).ph=false->Qk S.blks i=some x->(∀j x,Qk bs j=some x->i≠g j)->(ρ i).ph=false->(ρ' j).b≠(ρ i).b:=fun j b' i x J N h1 h2 O e=>by
   rcases(b8 j b' J N).1 with h3|h3
   ·have:=(hs.blks i x h1).lt O;omega
   ·rw[e] at h3;exact a6 i x h1 h2 O h3
  rcases key i x I O with ⟨j1,b1,g1,rfl,e1⟩|⟨g1,g2,e1⟩<;>rcases key j y hy N with ⟨j2,b2,k1,rfl,e2⟩|⟨k1,k2,e2⟩
  ·rw[e1] at O e;rw[e2] at N e;rw[c6 j1 j2 b1 b2 g1 k1 O N e]
  ·rw[e1] at O e;rw[e2] at N e;exact absurd e (b6 j1 b1 j y g1 O k1 k2 N)
  ·rw[e1] at O e;rw[e2] at N e;exact absurd e.symm (b6 j2 b2 i x k1 N g1 g2 O)
  ·rw[e1] at O e;rw[e2] at N e;exact hs.sep i j x y g1 k1 O N e
 ·rcases a5 I with ⟨j,b',J,rfl,rfl⟩|⟨h1,h2⟩
  ·rw[a7 j b' J] at hp|-;have⟨h3,h4⟩:=b8 j b' J hp;refine⟨fun hB=>?_,fun k hc=>?_⟩
   ·rcases h3 with h3|h3
    ·have:=hs.hB _ hB;omega
    ·have⟨i,x,I,b7,e⟩:=Y _ h3;rw[<-e] at hB;exact(hs.ge i x I b7).blk hB
   ·rcases h3 with h3|h3
    ·have:=hs.below.clt _ k hc;have:=hs.below.size;omega
    ·have⟨i,x,I,b7,q1,_,q3,q4⟩:=b3 _ k h3 hc;rw[Blk.ren_bx];exact h4 k ⟨i,x,I,b7,q1,q3,q4⟩
  ·rw[a2 i _ h1 h2] at hp|-;exact hs.ge i x h1 hp
 ·refine((hs.frames.2 i f tm hf ht).keep keep fun _ _=>rfl).agr fun j J=>U j ?_
  cases hc:S.mentions j
  ·have:=(St.mentions_parts hc).2.2.2;rw[Qe1 (id:=j) hf J] at this;cases this
  ·rfl
theorem QuU {f:FuncId} {args args':List V} {bs bs':List (Nat×Blk)} {res:V} {vals:Array Value} (g:Nat->Nat) (h:EffC P f args' bs res bs') (hs:Sim P B w0 F ρ S a w) (hv:Qhq w (ZM B S.blks ρ) ρ args vals)
  (N:CellsLe args (Qkt g args')) (hi:∀j b,(j,b)∈bs->∃J,Qk S.blks (g j)=some J∧BLe J (b.ren g))
  (O:∀i∈Qd7 bs++Jj bs bs',∀j∈Qd7 bs++Jj bs bs',g i=g j->i=j) (hm:∀j∈Jj bs bs',S.mentions (g j)=false) (L:List (Nat×Blk))
  (I:∀ {i b},Qk L i=some b->(∃j b',Qk bs' j=some b'∧i=g j∧b=b'.ren g)∨(Qk S.blks i=some b∧∀j x,Qk bs j=some x->i≠g j)):
  Calls P f vals w fun e w'=>∃v ρ1,e=.returned v∧Sim P B w0 F ρ1 ⟨S.base,S.nt,S.tmps,S.gds,L,S.frames⟩ a w'∧VR w' (ZM B L ρ1) ρ1 (res.ren g) v:=
 Calls.mono (Qzg g h hs hv N hi O hm L I) fun _ _ ⟨v,ρ1,h1,h2,h3,_⟩=>⟨v,ρ1,h1,h2,h3⟩
theorem QuV {S:List (Nat×Blk)} {g:Nat->Nat} {bs bs':List (Nat×Blk)} {i:Nat} {b:Blk} (hb:Qk (Ql8 g bs bs' (QqB g bs' S bs) bs') i=some b):
  (∃j b',Qk bs' j=some b'∧i=g j∧b=b'.ren g)∨(Qk S i=some b∧∀j x,Qk bs j=some x->i≠g j):=by
 rcases Qft hb with h1|h1
 ·exact .inl h1
 ·rcases QgN h1 with h2|⟨h2,h3⟩
  ·exact .inl h2
  ·exact .inr ⟨h2,fun j x I=>h3 j x (Zb I)⟩
theorem Qzh {f:FuncId} {args args':List V} {bs bs':List (Nat×Blk)} {res:V} {K:V->St->Prop} (g:Nat->Nat) (h:EffC P f args' bs res bs') (N:CellsLe args (Qkt g args')) (hi:inB S.blks g bs)
  (I:Qc5 g (Qd7 bs++Jj bs bs')=true) (hm:(Jj bs bs').all (fun j=>!(S.mentions (g j)))=true)
  (O:K (res.ren g) ⟨S.base,S.nt,S.tmps,S.gds,Ql8 g bs bs' (QqB g bs' S.blks bs) bs',S.frames⟩):CallP P f args S K:=by
 have hi:=Qsm hi;have I:=Qhf I;have hm:∀j∈Jj bs bs',S.mentions (g j)=false:=fun j J=>by simpa using Ye.1 hm j J
 refine⟨h.can,fun B w0 F ρ a w vals hs hv=>?_⟩;refine Calls.mono (QuU g h hs hv N hi I hm _ QuV) ?_;rintro e w' ⟨v,ρ1,rfl,h1,h2⟩;exact⟨v,ρ1,_,_,rfl,h1,h2,O⟩
def QuW:Blk->Nat->V
 | .box t _,j=>(match bcl t with
  |0=>.ref j 0 0
  |n+1=>.osl j 0 (n+1))
 | .arr _ _ n _,j=>.osl j 0 n
def QuX:Nat->List (Nat×Blk)->List (Nat×V)
 |_,[]=>[]
 |t,(j,b)::r=>(t,QuW b j)::QuX (t+1) r
def Qfd (ρ:Env):Blk->Nat->Value
 | .box t _,j=>(match bcl t with
  |0=>.pointer (some ⟨(ρ j).b,(ρ j).o+0*(ρ j).sz+0,none⟩)
  |n+1=>.slice (some ⟨(ρ j).b,(ρ j).o+0*(ρ j).sz,none⟩) (n+1) ((ρ j).cap-0))
 | .arr _ _ n _,j=>match (ρ j).ph with
  |true=>.slice none 0 0
  |false=>.slice (some ⟨(ρ j).b,(ρ j).o+0*(ρ j).sz,none⟩) n ((ρ j).cap-0)
def Qq3:Blk->Blk->Prop
 | .box t cs,.box t' cs'=>(cs.length,bcl t)=(cs'.length,bcl t')
 | .arr _ sz n _,.arr _ sz' n' _=>sz=sz'∧n=n'
 | _, _ => Stuck "another kind of block"
def outB (T:List (Nat×Blk)):List (Nat×Blk)->Prop
 |[]=>True
 |(j,b)::r=>(match Qk T j with
  |some I=>BLe I b
  | none => Stuck "no such block") ∧ outB T r
theorem QuY {T:List (Nat×Blk)}:∀ {M:List (Nat×Blk)},outB T M->∀j b,(j,b)∈M->∃I,Qk T j=some I∧BLe I b
 |(j,b)::r,h,j',b',hm=>by
  simp only[outB] at h;rcases Yi.1 hm with e|hm
  ·cases e
   have h1:=h.1;split at h1
   ·exact⟨_,‹_›,h1⟩
   ·exact h1.no.elim
  ·exact QuY h.2 j' b' hm
 |[],_,_,_,hm=>by simp at hm
theorem QpO:∀ {bs:List (Nat×Blk)} {t u:Nat} {v:V},Qk (QuX t bs) u=some v->∃i j b,u=t+i∧bs[i]? =some (j,b)∧v=QuW b j
 |(j,b)::r,t,u,v,h=>by
  rcases QY h with ⟨rfl,rfl⟩|⟨_,h⟩
  ·exact⟨0,j,b,rfl,rfl,rfl⟩
  ·obtain⟨i,I,b',rfl,h2,h3⟩:=QpO h;exact⟨i+1,I,b',by omega,by simpa using h2,h3⟩
 |[],_,_,_,h=>by simp[QuX,Qk] at h
theorem Qw2 {j:Nat} {b:Blk} (h:BR w ow ρ j b):VR w ow ρ (QuW b j) (Qfd ρ b j):=by
 cases h with
 | @box t cs C et h1 h2 h3 h4=>
  have⟨I,J,_⟩:=h4;simp only[QuW,Qfd]
  cases hb:bcl t with
  |zero=>exact .ref h1 (by rw[I];omega)
  |succ m=>rw[hb] at I;exact .osl h1 (by omega) J
 |arr0 h1 h2 h3 h4=>simp only[QuW,Qfd,h1];exact .osl0 h4 (XW _)
 |arr C et h1 h2 h3 h4=>simp only[QuW,Qfd,h1];exact .osl h1 (by omega) (by omega)
theorem Qw3 {j:Nat} {b b':Blk} {w1 w2:World} {a7 a5 a6:Nat->Prop} {ρ':Env} (h:BR w1 a7 ρ j b) (h':BR w2 a5 ρ' j b') (hs:Qq3 b b') (I:VR w2 a6 ρ' (QuW b j) (Qfd ρ b j)):Agr (ρ j) (ρ' j):=by
 cases h with
 | @box t cs C et h1 h2 h3 h4=>
  cases h' with
  | @box t' cs' C' et' k1 k2 Y k4=>
   simp only[Qq3,YX] at hs;have⟨e1,e2⟩:=hs;have⟨p1,p2,p3⟩:=h4;have⟨q1,q2,q3⟩:=k4;have en:(ρ' j).n=(ρ j).n:=by rw[p1,q1,e2]
   have a2:0<(ρ j).n:=by rw[p1];omega
   have U:(ρ' j).sz=(ρ j).sz:=by
    rw[e1,Y,en] at h3;exact Nat.eq_of_mul_eq_mul_left a2 h3
   have a1:(ρ j).b=(ρ' j).b->(ρ j).o=(ρ' j).o->(ρ j).cap=(ρ' j).cap->ρ' j=ρ j:=fun eb eo ec=>by
    cases hl:ρ j;cases N:ρ' j
    rw[hl] at h1 en U eb eo ec;rw[N] at k1 en U eb eo ec;simp only at*;simp only[Loc.mk.injEq];exact⟨eb.symm,eo.symm,U,en,ec.symm,by rw[h1,k1]⟩
   left
   simp only[QuW,Qfd] at I
   cases hb:bcl t with
   |zero=>
    rw[hb] at I;dsimp only at I;generalize J:(Value.pointer (some ⟨(ρ j).b,(ρ j).o+0*(ρ j).sz+0,none⟩))=x at I
    cases I with|ref g1 g2=>
    simp only[Value.pointer.injEq,Yc,Addr.mk.injEq] at J;exact a1 J.1 (by have:=J.2.1;omega) (by rw[p3 hb,q3 (by rw[<-e2];exact hb)])
   |succ m=>
    rw[hb] at I;dsimp only at I;generalize J:(Value.slice (some ⟨(ρ j).b,(ρ j).o+0*(ρ j).sz,none⟩) _ ((ρ j).cap-0))=x at I
    cases I with
    |osl0 g0 g1=>omega
    |osl g1 g2 g3=>
     simp only[Value.slice.injEq,Yc,Addr.mk.injEq] at J;exact a1 J.1.1 (by have:=J.1.2.1;omega) (by omega)
  |arr0=>exact hs.no.elim
  |arr=>exact hs.no.elim
 |arr0 h1 h2 h3 h4=>
  right
  cases h' with
  |box=>exact hs.no.elim
  |arr0 k1 k2 Y k4=>exact⟨by omega,by omega,.inl h1⟩
  |arr C et k1 k2 Y k4=>simp only[Qq3] at hs;exact⟨by omega,by omega,.inl h1⟩
 |arr C et h1 h2 h3 h4=>
  have key:∃O n',(ρ' j).sz=O∧(ρ' j).n=n'∧O=(ρ j).sz∧n'=(ρ j).n:=by
   cases h' with
   |box=>exact hs.no.elim
   |arr0 k1 k2 Y k4=>simp only[Qq3] at hs;exact⟨_,_,k2,Y,by omega,by omega⟩
   |arr C et k1 k2 Y k4=>simp only[Qq3] at hs;exact⟨_,_,k2,Y,by omega,by omega⟩
  have⟨O,n',e1,e2,e3,e4⟩:=key;simp only[QuW,Qfd,h1] at I;generalize J:(Value.slice (some ⟨(ρ j).b,(ρ j).o+0*(ρ j).sz,none⟩) _ ((ρ j).cap-0))=x at I
  cases I with
  |osl0 g0 g1=>
   simp only[Value.slice.injEq] at J
   right
   exact⟨by omega,by omega,.inr (by omega)⟩
  |osl g1 g2 g3=>
   simp only[Value.slice.injEq,Yc,Addr.mk.injEq] at J
   left
   have⟨⟨q1,q2,_⟩,_,q3⟩:=J
   cases hl:ρ j;cases N:ρ' j
   rw[hl] at h1 e3 e4 q1 q2 q3;rw[N] at e1 e2 g1 q1 q2 q3;simp only at*;simp only[Loc.mk.injEq];exact⟨q1.symm,by omega,by omega,by omega,by omega,by rw[h1,g1]⟩
theorem Ql9:∀ {bs:List (Nat×Blk)} {i j:Nat} {b:Blk},Qc5 (fun i=>i) (Qd7 bs)=true->bs[i]? =some (j,b)->Qk bs j=some b
 |(u,x)::r,0,j,b,_,h=>by simp at h;obtain⟨rfl,rfl⟩:=h;exact Zl
 |(u,x)::r,i+1,j,b,ha,h=>by
  have J:r[i]? =some (j,b):=by simpa using h
  have hm:=Qep (Xb J);have I:u≠j:=fun e=>by
   subst e;simp only[Qd7,Qc5,List.map_id'] at ha;rw[QoB hm] at ha;cases ha
  rw[QO I];refine Ql9 ?_ J;simp only[Qd7,Qc5] at ha;split at ha
  ·cases ha
  ·exact ha
 |[],_,_,_,_,h=>by simp at h
theorem Qku {bs:List (Nat×Blk)} {ρ:Env} {i j:Nat} {b:Blk} (h:bs[i]? =some (j,b)):((bs.map fun p=>Qfd ρ p.2 p.1).toArray).getD i undef=Qfd ρ b j:=by
 simp[Y7,h]
theorem QBK {base nt:Nat} {ts:List (Nat×V)} {gs:List Gd} {blks:List (Nat×Blk)} {fs:List Fr} {f:FuncId} {args args':List V} {bs M:List (Nat×Blk)} {res:V} {K:V->St->Prop} (r:List (Nat×Nat)) (k:Nat) (h:EffC P f args' bs res M)
  (J:CellsLe args (Qkt (Qbk r k) args')) (hi:inB blks (Qbk r k) bs) (N:Qc5 (Qbk r k) (Qd7 bs++Jj bs M)=true) (hm:(Jj bs M).all (fun j=>!(St.mentions ⟨base,nt,ts,gs,blks,fs⟩ (Qbk r k j)))=true)
  (I:Qaq (res.ren (Qbk r k)) fun v=>Qa5 (Ql8 (Qbk r k) bs M (QqB (Qbk r k) M blks bs) M) fun bs=>K v ⟨base,nt,ts,gs,bs,fs⟩):
  CallP P f args ⟨base,nt,ts,gs,blks,fs⟩ K:=by
 rw[QC,Z4] at I;exact Qzh (Qbk r k) h J hi N hm I
end Go.Ab
namespace Go.Ab
open Go.RowKit
variable {P:Program} {tb:Tb} {w:World} {ρ:Env} {a:Act} {B:Bd} {w0:World} {F:List (Array Value)} {S:St}
 {cs:Nat→Option CS} {m:Nat} {ops:List Oper} {S0:St} {A:List (List Nat)} {R:List Rs} {ls:List Nat}
structure EffD (P:Program) (pre:List (Nat×Blk)) (f:FuncId) (args:List V) (res:V) (nb post:List (Nat×Blk)):Prop where
 can:Callable P f
 out:∃args' bs r M g,EffC P f args' bs r M∧CellsLe args (Qkt g args')∧inB pre g bs∧Qc5 g (Qd7 bs++Jj bs M)=true∧res=r.ren g∧
  (∀i b,Qk (nb++post) i=some b→(∃j b',Qk M j=some b'∧i=g j∧b=b'.ren g)∨(Qk pre i=some b∧∀j x,Qk bs j=some x→i≠g j))∧(∀j∈Jj bs M,hasB nb (g j)=true∨(hasB post (g j)=true∧hasB pre (g j)=false))
theorem Qi5 {g:Nat->Nat} {bs M X:List (Nat×Blk)}:∀ {l:List (Nat×Blk)} {j:Nat},j∈Jj bs l->(∀i x,(i,x)∈l->∃y,Qk M i=some y)->hasB (Ql8 g bs M X l) (g j)=true
 |(i,x)::r,j,h,hM=>by
  simp only[Jj] at h;simp only[Ql8];split at h
  ·exact Qi5 h fun i x J=>hM i x (YM _ J)
  ·have⟨y,N⟩:=hM i x (by simp);rw[N];dsimp only
   by_cases e:g i=g j
   ·rw[e];exact Qi3 Zl
   ·rcases Yi.1 h with h1|h
    ·subst h1;exact absurd rfl e
    ·have:=Qi5 (g:=g) (bs:=bs) (M:=M) (X:=X) h fun i x J=>hM i x (YM _ J);have⟨b,I⟩:=Qfc this;exact Qi3 (b:=b) (by rw[QO e];exact I)
 |[],_,h,_=>by simp[Jj] at h
theorem QdO {α:Type}:∀ {l:List (Nat×α)} {i:Nat} {x:α},(i,x)∈l->∃y,Qk l i=some y
 |(u,z)::r,i,x,h=>by
  by_cases e:u=i
  ·subst e;exact⟨z,Zl⟩
  ·rcases Yi.1 h with h1|h1
   ·cases h1;exact absurd rfl e
   ·rw[QO e];exact QdO h1
 |[],_,_,h=>by simp at h
theorem Qzi {pre nb post:List (Nat×Blk)} {f:FuncId} {args args':List V} {bs M:List (Nat×Blk)} {res I:V} (r:List (Nat×Nat)) (k:Nat) (h:EffC P f args' bs I M)
  (U:CellsLe args (Qkt (Qbk r k) args')) (hi:inB pre (Qbk r k) bs) (ha:Qc5 (Qbk r k) (Qd7 bs++Jj bs M)=true) (Y:I.ren (Qbk r k)=res)
  (O:Ql8 (Qbk r k) bs M [] M=nb) (J:QqB (Qbk r k) M pre bs=post):EffD P pre f args res nb post:=by
 subst Y O J;refine⟨h.can,_,_,_,_,Qbk r k,h,U,hi,ha,rfl,fun i b hb=>?_,fun j hj=>.inl (Qi5 hj fun i x N=>QdO N)⟩;rw[Qj] at hb
 cases hl:Qk (Ql8 (Qbk r k) bs M [] M) i with
 |some b'=>
  rw[hl] at hb;simp at hb;subst hb;rcases Qft hl with h1|h1
  ·exact .inl h1
  ·simp[Qk] at h1
 |none=>
  rw[hl] at hb;simp at hb;rcases QgN hb with h1|⟨h1,h2⟩
  ·exact .inl h1
  ·exact .inr ⟨h1,fun j x N=>h2 j x (Zb N)⟩
def QB9 (cs:Nat->Option CS) (T0:List (Nat×Blk)):Nat->List (Nat×Blk)
 |0=>T0
 |j+1=>match cs j with
  |some (.eff _ _ post _ _)=>post
  |some (.app _ _ post)=>post
  |_=>QB9 cs T0 j
theorem QuZ {x:Option CS} (h:QiX x=true):(∃res nb post p q,x=some (.eff res nb post p q))∨ ∃pre res post,x=some (.app pre res post):=by
 unfold QiX at h;split at h
 ·exact .inl ⟨_,_,_,_,_,rfl⟩
 ·exact .inr ⟨_,_,_,rfl⟩
 ·cases h
def QBY (cs:Nat->Option CS) (I:Nat->Nat->Bool) (m:Nat):Bool:=(List.range m).all fun j=>match QiX (cs j) with
 |true=>(List.range j).all fun i=>match QiX (cs i) with
  |true=>I j i
  |false=>true
 |false=>true
def QdZ (S0:St) (R:List Rs) (T:List (Nat×Blk)):Bool:=(Qd7 T).all (fun i=>!hasB S0.blks i)&&R.all fun r=>r.nb.all fun p=>!Q8 p.1 T
def St.addB (S:St) (T:List (Nat×Blk)):St:=match S with
 |⟨base,nt,ts,gs,bs,fs⟩=>⟨base,nt,ts,gs,bs++T,fs⟩
theorem QpP {T:List (Nat×Blk)}:(S0.addB T).tmps=S0.tmps:=by cases S0;rfl
theorem QdP {T:List (Nat×Blk)} {E:Nat->Bool}:stOf (S0.addB T) R E=⟨S0.base,S0.nt,QdN E 0 R++S0.tmps,Qd6 E 0 R,JH E 0 R++(S0.blks++T),S0.frames⟩:=by
 have⟨base,nt,ts,gs,bs,fs⟩:=S0;rfl
theorem Qkv {T:List (Nat×Blk)} {E:Nat->Bool}:stOf (S0.addB T) R E=(stOf S0 R E).addB T:=by
 have⟨base,nt,ts,gs,bs,fs⟩:=S0;simp only[stOf,St.addB,X5]
theorem Qu0 {S S':St} {o:Oper} {j:Nat} {K:Option (Nat×Bool)->V->List (Nat×Blk)->Prop} (U:S'.ev=S.ev) (hg:S'.gds=S.gds) (J:S'.base=S.base) (hb:∀i b,Qk S.blks i=some b->Qk S'.blks i=some b)
  (h:Qnm P tb cs ops j o S K):Qnm P tb cs ops j o S' K:=by
 have a5:∀ {al l:List (Nat×Bool)} {p:Prop},QaL S' al l p=QaL S al l p:=fun {al l p}=>QfR (fun al x=>by rw[U]);have Y:∀ {key:Nat} {want:Bool} {p:Prop},QjJ S' key want p=QjJ S key want p:=fun {key want p}=>by simp only[QjJ,U]
 have⟨dst,op,ty,pos,after,guard⟩:=o
 cases guard with
 |none=>
  cases hv:Qyg op
  ·rw[Qfp hv] at h|-
   cases hN:isN op<;>simp only[hN,U,J] at h|-
   ·exact Qfq (fun _ _ _=>rfl) hb h
   ·exact QgK (fun _ _=>rfl) hb h
  ·obtain⟨f,args,a2,rfl⟩:=Qoi hv;simp only[Qnm,U] at h|-;split at h
   ·rename_i h1 h2;refine⟨⟨h.1.can,?_⟩,h.2⟩;have⟨args',hv,hp⟩:=h.1.out;exact⟨args',Qct hb _ _ hv,hp⟩
   ·exact h
   ·exact h.no.elim
 |some a1=>
  have⟨jg,want⟩:=a1;simp only[Qnm,U,hg] at h|-;split at h
  ·rename_i key _ _ _ _ _ hjg;have O:∀(al l:List (Nat×Bool)),QaL S' al l=QaL S al l:=fun al l=>funext fun p=>a5;have N:∀(key:Nat) (want:Bool),QjJ S' key want=QjJ S key want:=fun k w=>funext fun p=>Y;simp only[O,N]
   cases op<;>try simp only at h|-
   case call c=>
    have⟨I,args,a2⟩:=c
    cases I<;>try simp only at h|-
    case value f=>
     split at h
     ·refine⟨⟨h.1.can,Qdf (fun hx=>?_) h.1.out⟩,h.2⟩;have⟨args',hv,hp⟩:=hx;exact⟨args',Qct hb _ _ hv,hp⟩
     ·exact h
     ·exact h.no.elim
    all_goals exact Qfq (fun _ _ _=>rfl) hb h
   all_goals exact Qfq (fun _ _ _=>rfl) hb h
  ·exact h.no.elim
theorem Qty {ev ev':Operand->V} {N vis':Nat->Option Blk} {pre:List (Nat×Blk)} {base:Nat} {dst:Option Nat} {op:Op} {K:V->List (Nat×Blk)->Prop} (J:∀x∈op.operands.toList,ev x=ev' x) (hb:∀i b,N i=some b->vis' i=some b)
  (h:QwH tb ev N pre base dst op K):QwH tb ev' vis' pre base dst op K:=by
 cases op<;>simp only[QwH] at h|- <;>first|exact h.no.elim|exact QgK J hb h|skip
 case call c=>
  split at h
  ·split at h
   ·rename_i s x t t' I htys;have e1:ev s=ev' s:=J s (Qhc (by rw[I];simp));have O:ev x=ev' x:=J x (Qhc (by rw[I];simp));rw[e1,O] at h;split at h
    ·split at h
     ·split at h
      ·rename_i h1 h2;rw[h1,Qen hb h2];dsimp only at h|-;split at h
       ·exact QgK J hb h
       ·exact h
       ·exact h.no.elim
      ·exact h.no.elim
     ·exact h.no.elim
    ·exact h.no.elim
   ·exact h.no.elim
  ·exact h.no.elim
 case store t a x=>
  have e1:ev a=ev' a:=J a (by simp[Op.operands]);have O:ev x=ev' x:=J x (by simp[Op.operands]);rw[e1,O] at h;exact h
theorem Qu1 {ev ev':Operand->V} {pre:List (Nat×Blk)} {op:Op} (N:∀x∈op.operands.toList,ev x=ev' x):evB tb ev pre op=evB tb ev' pre op:=by
 unfold evB;split
 ·rename_i t len parts;split
  ·rename_i e s b z q x hti J;have e1:ev x=ev' x:=N x (by simp[Op.operands,J]);rw[e1]
  ·rfl
 ·rename_i c;split
  ·split
   ·rename_i s x t t' I htys;have e1:ev s=ev' s:=N s (Qhc (by rw[I];simp));have O:ev x=ev' x:=N x (Qhc (by rw[I];simp));rw[e1,O]
   ·rfl
  ·rfl
 ·rfl
theorem QpQ {ev ev':Operand->V} {I vis':Nat->Option Blk} {pre:List (Nat×Blk)} {base:Nat} {dst:Option Nat} {op:Op} {K:V->List (Nat×Blk)->Prop} (J:∀x∈op.operands.toList,ev x=ev' x) (hb:∀i b,I i=some b->vis' i=some b)
  (h:evA tb ev I pre base dst op K):evA tb ev' vis' pre base dst op K:=by
 unfold evA at h|-;split at h
 ·refine Qfq (fun x hm _=>J x hm) (fun i b hi=>?_) h
  cases hl:Qk pre i with
  |some b'=>rw[hl] at hi;simpa using hi
  |none=>rw[hl] at hi;simp only[XD] at hi|-;exact hb i b hi
 ·rw[<-Qu1 J];split at h
  ·exact h
  ·exact Qty J hb h
theorem Qw4 {S S':St} {o:Oper} {j:Nat} {K:Option (Nat×Bool)->V->List (Nat×Blk)->Prop} (N:S'.ev=S.ev) (U:S'.gds=S.gds) (I:S'.base=S.base) (hb:∀i b,Qk S.blks i=some b->Qk S'.blks i=some b)
  (h:evD P tb cs ops j o S K):evD P tb cs ops j o S' K:=by
 cases O:QgJ (cs j)
 ·rw[Qpy O] at h|-;exact Qu0 N U I hb h
 ·have⟨pre,res,post,hc,J,h1,h2⟩:=Qoj O h;unfold evD;rw[hc,J];simp only[QC];rw[N,I];exact⟨QpQ (fun _ _=>rfl) hb h1,h2⟩
theorem Walked.more (W:Walked P tb cs m ops S0 A R) {T:List (Nat×Blk)} (U:∀r∈R,∀p∈r.nb,Q8 p.1 T=false):Walked P tb cs m ops (S0.addB T) A R:=by
 refine⟨W.hm,fun j o Y ho=>?_,W.lt,W.dsts,W.ne,W.ids,fun i ri hi p hp=>?_,W.ment,fun i ri hi=>?_,fun i ri t hi O=>?_,W.len⟩
 ·have⟨r,h1,h2,h3,h4,h5,h6⟩:=W.facts j o Y ho;refine⟨r,h1,h2,h3,h4,h5,?_⟩;have hb0:(stOf S0 (R.take j) (ZX (nth A j))).base=S0.base:=by cases S0;rfl
  have N:(stOf S0 (R.take j) (ZX (nth A j))).blks=JH (ZX (nth A j)) 0 (R.take j)++S0.blks:=by cases S0;rfl
  have J:(stOf (S0.addB T) (R.take j) (ZX (nth A j))).ev=(stOf S0 (R.take j) (ZX (nth A j))).ev:=by
   funext al x;cases S0;cases x<;>rfl
  refine Qw4 (S:=stOf S0 (R.take j) (ZX (nth A j))) J (by cases S0;rfl) (by cases S0;rfl) (fun i b hb=>?_) h6;rw[N] at hb;rw[QdP];dsimp only;rw[<-X5,Qj,hb];rfl
 ·have h1:=W.new i ri hi p hp;have h2:=U ri (Xb hi) p hp;have⟨base,nt,ts,gs,bs,fs⟩:=S0;have⟨m1,m2,m3,m4⟩:=St.mentions_parts h1;refine St.mentions_mk m1 m2 ?_ m4;rw[QF] at m3 h2|-;intro q I;rcases Yx.1 I with I|I
  ·exact m3 q I
  ·exact h2 q I
 ·have:=W.slots i ri hi
  cases S0;exact this
 ·rw[QpP];exact W.mask i ri t hi O
theorem QgO {bs:List (Nat×Blk)} {i:Nat} (h:hasB bs i=false):Qk bs i=none:=by
 unfold hasB at h;split at h
 ·cases h
 ·assumption
theorem QoC (W:Walked P tb cs m ops S0 A R) {J:Array Oper} (d2:J.toList=ops) {pre post:List (Nat×Blk)} (b6:QdZ S0 R pre=true) (d8:QdZ S0 R post=true)
  {E:Nat->Bool} (hE:QgL m A E) {j:Nat} {o:Oper} (hj:j<m) (b8:E j=false) (ho:ops[j]? =some o) {res:V} {nb:List (Nat×Blk)} {p:FuncId->List V->Prop} {q:Prop} (b5:cs j=some (.eff res nb post p q)) (hp:∀g vs,p g vs->EffD P pre g vs res nb post) (hq:q->LeB pre post)
  (hfr:∀id,hasB post id=true->hasB pre id=false->(stOf (S0.addB pre) R E).mentions id=false) (h0:o.dst≠none)
  (hr:∀e∈Zo o.after.toList,E e=true) (h:Sim P B w0 F ρ (stOf (S0.addB (pre)) R E) a w) {next:Act->World->Prop}
  (hn:∀ρ' a' w',Sim P B w0 F ρ' (stOf (S0.addB (post)) R (Qgh E j)) a' w'->next a' w') (Q:Exit->Act->World->Prop)
  (f2:∃f args a7,o.op=.call ⟨.value f,args,a7⟩):wpOp P J Q j next a w:=by
 have W0:=W;have f3:∀T,QdZ S0 R T=true->∀r∈R,∀p∈r.nb,Q8 p.1 T=false:=fun T this r hr p hp=>by
  simp only[QdZ,Y2] at this;have:=Ye.1 (Ye.1 this.2 r hr) p hp;simpa using this
 have d9:∀T,QdZ S0 R T=true->∀i b,Qk T i=some b->Qk S0.blks i=none:=fun T this i b hb=>by
  simp only[QdZ,Y2] at this;have:=Ye.1 this.1 i (Qep (Zb hb));exact QgO (by simpa using this)
 have e6:J[j]? =some o:=by rw[<-d2] at ho;simpa using ho
 have W:=W0.more (f3 pre b6);have W1:=W0.more (f3 post d8);have⟨r,b4,hanc,h8,c8,g6,N⟩:=W.facts j o hj ho;have e9:=W.ancIn hE hj ho hr;have hlt:∀i∈nth A j,i<j:=W.ancLt (j+1) j (by omega) hj;have⟨t,c0,htn,hkt⟩:=(W.slots j r b4).resolve_left (fun h=>h0 (by rw[<-h8];exact h.1));have h9:o.dst=some t:=by rw[<-h8];exact c0
 have a2:∀x∈o.op.operands.toList,∀al,(stOf (S0.addB (pre)) (R.take j) (ZX (nth A j))).ev al x=(stOf (S0.addB (pre)) R E).ev al x:=fun x hx al=>QuF W hlt e9 (c8 x hx) al;have g7:∀g∈Qd6 E 0 R,g.t≠t∧g.key≠t:=fun g hg=>by
  have⟨i,q,O,g2,g3,g4,g5⟩:=QaX.1 hg;rw[Yl] at g2;have hne:i≠j:=fun e=>by subst e;rw[b8] at g2;cases g2
  refine⟨fun e=>W.ne j i r q b4 O (YY hne) t c0 (by rw[<-e];exact g3),fun e=>?_⟩;have c1:i<m:=by rw[<-W.hm];exact(Ya.1 O).1
  have⟨oi,hoi⟩:=W.op c1;have⟨q',f1,_,_,_,f5,f6⟩:=W.facts i oi c1 hoi;rw[O] at f1;cases f1;have⟨gg,vv,nn,⟨k1,_,_⟩,k4⟩:=Qok f6;rcases k4 with ⟨_,k5⟩|⟨jg,want,oj,key,k5,k6,k7,k8⟩
  ·rw[<-k1,k5] at g4;cases g4
  ·rw[<-k1,k8] at g4;simp only[Yc,YX] at g4;have⟨oj',key',l1,l2,l3,_⟩:=f5 jg want k5;rw[k6] at l1;cases l1;have d1:=hE i c1 g2 jg l3;have e0:jg≠j:=fun e=>by subst e;rw[b8] at d1;cases d1
   have f7:jg<m:=by have:=W.ancLt (i+1) i (by omega) c1 jg l3;omega
   have⟨rj,r1,_,r3,_⟩:=W.facts jg oj f7 k6;refine W.ne jg j rj r r1 b4 e0 key (by rw[r3];exact k7) ?_;rw[g4.1,e];exact c0
 have c2:=QdP (S0:=S0) (R:=R) (T:=pre) (E:=E);have d5:∀p∈r.nb,(stOf (S0.addB (pre)) R E).mentions p.1=false:=fun p hp=>Qyi W hE b4 b8 hp;have b7:∀T,QdZ S0 R T=true->∀i b,Qk T i=some b->Qk (JH E 0 R) i=none:=fun T hk i b hb=>by
  cases hl:Qk (JH E 0 R) i with
  |none=>rfl
  |some b'=>
   exfalso;have⟨q,rq,O,_,g3⟩:=Jp.1 (Zb hl);have:=f3 T hk rq (Xb O) _ g3;rw[ZR (id:=i) hb (.inl rfl)] at this;cases this
 rw[Qpy (by rw[b5];rfl)] at N;have hpT:∀i b,Qk post i=some b->Qk S0.blks i=none∧Qk (JH E 0 R) i=none:=fun i b hb=>by
  exact⟨d9 post d8 i b hb,b7 post d8 i b hb⟩
 --what stands Y the call
 have Y:∀ {g:FuncId} {vs:List V} {vals:Array Value},EffD P (pre) g vs res nb post->Qhq w (ZM B (stOf (S0.addB (pre)) R E).blks ρ) ρ vs vals->nb=r.nb->
   Calls P g vals w fun e w'=>∃v ρ1,e=.returned v∧Sim P B w0 F ρ1 ⟨S0.base,S0.nt,QdN E 0 R++S0.tmps,Qd6 E 0 R,r.nb++(JH E 0 R++(S0.addB post).blks),S0.frames⟩ a w'∧VR w' (ZM B (r.nb++(JH E 0 R++(S0.addB post).blks)) ρ1) ρ1 res v:=by
  intro g vs vals hd hv d4;have⟨args',bs,r0,M,gm,hc,hw,hi,ha,f9,hL,hN⟩:=hd.out;have a9:(S0.addB post).blks=S0.blks++post:=by cases S0;rfl
  rw[a9,f9];have g8:=Qsm hi;have e8:(stOf (S0.addB (pre)) R E).blks=JH E 0 R++(S0.blks++pre):=by rw[c2]
  have a6:∀i b,Qk (pre) i=some b->Qk (stOf (S0.addB (pre)) R E).blks i=some b:=fun i b hb=>by
   rw[e8,Qj,b7 pre b6 i b hb,Qj,d9 pre b6 i b hb];simpa using hb
  have:=QuU (L:=r.nb++(JH E 0 R++(S0.blks++post))) gm hc h hv hw (fun i b hb=>by
    have⟨b0,O,g2⟩:=g8 i b hb;exact⟨b0,a6 _ _ O,g2⟩) (Qhf ha) (fun i hi=>by
    rcases hN i hi with hN|⟨hN1,hN2⟩
    ·have⟨b,hb⟩:=Qfc hN;rw[d4] at hb;exact d5 (gm i,b) (Zb hb)
    ·exact hfr _ hN1 hN2) (fun {i b} hb=>by
    have c7:∀j' x,Qk bs j'=some x->∃b0,Qk (pre) (gm j')=some b0:=fun j' x hx=>by
     have⟨b0,O,_⟩:=g8 j' x (Zb hx);exact⟨b0,O⟩
    rw[Qj] at hb
    cases h1:Qk r.nb i with
    |some b1=>
     rw[h1] at hb;simp at hb;subst hb;rcases hL i b1 (by rw[Qj,d4,h1];rfl) with h2|⟨h2,h3⟩
     ·exact .inl h2
     ·exact .inr ⟨a6 _ _ h2,h3⟩
    |none=>
     rw[h1] at hb;simp only[XD] at hb;rw[Qj] at hb
     cases h2:Qk (JH E 0 R) i with
     |some b2=>
      rw[h2] at hb;simp at hb;subst hb;refine .inr ⟨by rw[e8,Qj,h2];rfl,fun j' x hx e=>?_⟩;have⟨b0,O⟩:=c7 j' x hx;rw[<-e] at O;rw[b7 pre b6 i b0 O] at h2;cases h2
     |none=>
      rw[h2] at hb;simp only[XD] at hb;rw[Qj] at hb
      cases h3:Qk S0.blks i with
      |some b3=>
       rw[h3] at hb;simp at hb;subst hb;refine .inr ⟨by rw[e8,Qj,h2,Qj,h3];rfl,fun j' x hx e=>?_⟩;have⟨b0,O⟩:=c7 j' x hx;rw[<-e] at O;rw[d9 pre b6 i b0 O] at h3;cases h3
      |none=>
       rw[h3] at hb;simp only[XD] at hb;rcases hL i b (by rw[Qj,d4,h1];simpa using hb) with h4|⟨h4,h5⟩
       ·exact .inl h4
       ·exact .inr ⟨a6 _ _ h4,h5⟩)
  refine Calls.mono this ?_;rintro e w' ⟨v,ρ1,rfl,O,g2⟩;rw[c2] at O;exact⟨v,ρ1,rfl,O,g2⟩
 have⟨dst,op,ty,pos,after,guard⟩:=o;have⟨f,args,a7,h7⟩:=f2;dsimp only at h9 c8 a2 g6 h7;subst h9 h7;have add:∀ {ρ1 w' x},Sim P B w0 F ρ1 ⟨S0.base,S0.nt,QdN E 0 R++S0.tmps,Qd6 E 0 R,r.nb++(JH E 0 R++(S0.addB post).blks),S0.frames⟩ a w'->
   (match r.g with
   |none=>VR w' (ZM B (r.nb++(JH E 0 R++(S0.addB post).blks)) ρ1) ρ1 r.v x
   |some (key,want)=>(a.tmps.getD key undef=.bool want∧VR w' (ZM B (r.nb++(JH E 0 R++(S0.addB post).blks)) ρ1) ρ1 r.v x)∨(a.tmps.getD key undef≠ .bool want∧x=undef))->
   Sim P B w0 F ρ1 (stOf (S0.addB post) R (Qgh E j)) (a.put (some t) x) w':=fun h1 h2=>by
  have c4:(S0.addB post).base=S0.base∧(S0.addB post).nt=S0.nt∧(S0.addB post).tmps=S0.tmps∧(S0.addB post).frames=S0.frames:=by have⟨base,nt,ts,gs,bs,fs⟩:=S0;exact⟨rfl,rfl,rfl,rfl⟩
  exact Qie W1 b4 c0 b8 (h:=by rw[c4.1,c4.2.1,c4.2.2.1,c4.2.2.2];exact h1) h2 g7
 cases guard with
 |none=>
  have c3:Region.wanted ⟨some t,.call ⟨.value f,args,a7⟩,ty,pos,after,none⟩ (yielded J a.tmps)=true:=by simp[Region.wanted]
  refine QiZ e6 c3 ?_;simp only[Qnm] at N;split at N
  ·rename_i I;rw[b5] at I;cases I
  ·rename_i g cap f8 nb' d6 p' q' hf I;rw[b5] at I;simp only[Yc,CS.eff.injEq] at I;have⟨e1,e2,e3,e4,e5⟩:=I;subst e1 e2 e3 e4 e5;rw[QC] at N;have⟨a1,k1,k2,k3⟩:=N;have f0:(stOf (S0.addB (pre)) R E).ev [] f=.fn g cap:=by rw[<-a2 f (ZT.2 (.inl rfl)) []];exact hf
   have U:args.toList.map ((stOf (S0.addB (pre)) (R.take j) (ZX (nth A j))).ev [])=args.toList.map ((stOf (S0.addB (pre)) R E).ev []):=Xg fun x hx=>a2 x (ZT.2 (.inr (by simpa using hx))) [];rw[U] at a1;have hD:=hp _ _ a1;have⟨fcs,d7,f4,e7⟩:=QlQ (h.evR.eq f0);have a5:=Qdd (ev:=(stOf (S0.addB (pre)) R E).ev) (al:=[]) h.evR.at args f4 e7;unfold Oper.wp;rw[QfN d7 hD.can,Oper.upon_enter];refine Calls.mono (Y hD a5 k3) ?_;rintro e w' ⟨v,ρ1,rfl,h1,h2⟩;exact hn ρ1 _ w' (add h1 (by rw[<-k1];rw[<-k2];exact h2))
  ·exact N.no.elim
 |some gdd=>
  have⟨jg,want⟩:=gdd;have⟨oj,key,l1,l2,l3,l4⟩:=g6 jg want rfl;have hjgA:J[jg]? =some oj:=by rw[<-d2] at l1;simpa using l1
  have hy:=Qh9 (tmps:=a.tmps) (want:=want) hjgA l2;have c3:Region.wanted ⟨some t,.call ⟨.value f,args,a7⟩,ty,pos,after,some (jg,want)⟩ (yielded J a.tmps)=(yielded J a.tmps jg==some want):=by simp[Region.wanted]
  have hL:Sim P B w0 F ρ ⟨S0.base,S0.nt,QdN (ZX (nth A j)) 0 (R.take j)++S0.tmps,Qd6 (ZX (nth A j)) 0 (R.take j),JH E 0 R++(S0.blks++pre),S0.frames⟩ a w:=by
   rw[c2] at h;refine h.congr (fun t v hv=>?_) (fun g hg=>?_) (fun _ _=>Iff.rfl)
   ·rw[Qj] at hv|-
    cases hl:Qk (QdN (ZX (nth A j)) 0 (R.take j)) t with
    |some v'=>
     rw[hl] at hv;simp at hv;subst hv;have⟨i,q,O,g2,g3,g4⟩:=Qe3 hl;rw[Yl] at g2;rw[Qid (QuE W R fun _ _ h=>h) (Qeo O).2 (by rw[Yl];exact e9 i (ZN.1 g2)) g3,g4];rfl
    |none=>
     rw[hl] at hv;simp at hv
     cases hl2:Qk (QdN E 0 R) t with
     |none=>simpa using hv
     |some v'=>
      have⟨i,q,O,g2,g3,g4⟩:=Qe3 hl2;have:=W.mask i q t O g3;rw[QpP] at this;rw[this] at hv;cases hv
   ·have⟨i,q,O,g2,g3,g4,g5⟩:=QaX.1 hg;rw[Yl] at g2;exact QaX.2 ⟨i,q,(Qeo O).2,by rw[Yl];exact e9 i (ZN.1 g2),g3,g4,g5⟩
  have d0:∀al x,St.ev ⟨S0.base,S0.nt,QdN (ZX (nth A j)) 0 (R.take j)++S0.tmps,Qd6 (ZX (nth A j)) 0 (R.take j),JH E 0 R++(S0.blks++pre),S0.frames⟩ al x=(stOf (S0.addB (pre)) (R.take j) (ZX (nth A j))).ev al x:=fun al x=>by
   rw[QdP];cases x<;>rfl
  simp only[Qnm,l1] at N;have⟨odst,oop,oty,opos,oaft,ogd⟩:=oj;dsimp only at l2 N;subst l2;dsimp only at N;split at N
  ·rename_i I;rw[b5] at I;cases I
  ·rename_i g cap f8 d6 p' q' hf I;rw[b5] at I;simp only[Yc,CS.eff.injEq] at I;have⟨e1,e2,e3,e4,e5⟩:=I;subst e1 e2 e3 e4 e5;rw[QC] at N;have⟨⟨hcan,a1,c5⟩,k1,k2,k3⟩:=N
   by_cases hw:a.tmps.getD key undef=.bool want
   ·have hwt:Region.wanted ⟨some t,.call ⟨.value f,args,a7⟩,ty,pos,after,some (jg,want)⟩ (yielded J a.tmps)=true:=by rw[c3];exact hy.2 hw
    refine QiZ e6 hwt ?_;have g0:(stOf (S0.addB (pre)) (R.take j) (ZX (nth A j))).gds=Qd6 (ZX (nth A j)) 0 (R.take j):=by rw[QdP]
    rw[g0] at a1 hf;have b9:∀k g,(k,g)∈closure (Qd6 (ZX (nth A j)) 0 (R.take j)) 9 key want->a.tmps.getD k undef=.bool g:=fun k g hm=>Qem hL 9 key want hw k g hm;generalize closure (Qd6 (ZX (nth A j)) 0 (R.take j)) 9 key want=al at b9 a1 hf;have a1:p g (args.toList.map ((stOf (S0.addB (pre)) (R.take j) (ZX (nth A j))).ev al)++cap):=by
     refine QeH hL al b9 al _ (fun _ hx=>hx) ?_;rw[QfR (S':=stOf (S0.addB (pre)) (R.take j) (ZX (nth A j))) d0];exact a1
    have f0:(stOf (S0.addB (pre)) R E).ev al f=.fn g cap:=by rw[<-a2 f (ZT.2 (.inl rfl)) _];exact hf
    have U:args.toList.map ((stOf (S0.addB (pre)) (R.take j) (ZX (nth A j))).ev al)=args.toList.map ((stOf (S0.addB (pre)) R E).ev al):=Xg fun x hx=>a2 x (ZT.2 (.inr (by simpa using hx))) _;rw[U] at a1;have hD:=hp _ _ a1;have c6:=h.evR.h al f b9;rw[f0] at c6;have⟨fcs,d7,f4,e7⟩:=QlQ c6;have a5:=Qdd (ev:=(stOf (S0.addB (pre)) R E).ev) (al:=al) (fun x=>h.evR.h _ x b9) args f4 e7;unfold Oper.wp;rw[QfN d7 hD.can,Oper.upon_enter];refine Calls.mono (Y hD a5 k3) ?_;rintro e w' ⟨v,ρ1,rfl,h1,h2⟩;exact hn ρ1 _ w' (add h1 (by rw[<-k1];rw[<-k2];exact .inl ⟨hw,h2⟩))
   ·have hwf:Region.wanted ⟨some t,.call ⟨.value f,args,a7⟩,ty,pos,after,some (jg,want)⟩ (yielded J a.tmps)=false:=by
     rw[c3]
     cases hb:(yielded J a.tmps jg==some want)
     ·rfl
     ·exact absurd (hy.1 hb) hw
    unfold wpOp;simp only[e6,hwf,Yw,Xi];have c5:q:=by
     refine QlR hL hw (key:=key) (want:=want) ?_;unfold QjJ at c5|-;rw[d0];exact c5
    have a8:=hq c5;refine hn ρ _ w (add ?_ (by rw[<-k1];exact .inr ⟨hw,rfl⟩));rw[<-k3,YA];have a9:(S0.addB post).blks=S0.blks++post:=by cases S0;rfl
    rw[a9];rw[c2] at h
    --the blocks are no more than they were
    have lk:∀i b,Qk (JH E 0 R++(S0.blks++post)) i=some b->∃c,Qk (JH E 0 R++(S0.blks++pre)) i=some c∧BLe c b:=fun i b hb=>by
     rw[Qj] at hb|-
     cases h1:Qk (JH E 0 R) i with
     |some b1=>rw[h1] at hb;simp at hb;subst hb;exact⟨_,rfl,BLe.refl _⟩
     |none=>
      rw[h1] at hb;simp only[XD] at hb|-;rw[Qj] at hb|-
      cases h2:Qk S0.blks i with
      |some b2=>rw[h2] at hb;simp at hb;subst hb;exact⟨_,rfl,BLe.refl _⟩
      |none=>
       rw[h2] at hb;simp only[XD] at hb|-;exact QgI a8 hb
    have g9:∀b,own (JH E 0 R++(S0.blks++post)) ρ b->own (JH E 0 R++(S0.blks++pre)) ρ b:=by
     rintro b ⟨i,k,hk,hp,rfl⟩;have⟨c,hc,_⟩:=lk i k hk;exact⟨i,c,hc,hp,rfl⟩
    have keep:Keep w (ZM B (JH E 0 R++(S0.blks++pre)) ρ) w (ZM B (JH E 0 R++(S0.blks++post)) ρ):=⟨Yh _,fun b _ ho=>⟨rfl,fun h=>ho (h.imp (g9 b) fun h=>h)⟩⟩;refine⟨h.below,h.tab,h.hB,h.defers,h.nt,h.top.keep keep fun _ _=>rfl,fun id b hbk=>?_,fun i j x y hx hy=>?_,fun i x hx=>?_,h.frames.1,fun i f' tm c6 htm=>(h.frames.2 i f' tm c6 htm).keep keep fun _ _=>rfl⟩
    ·have⟨c,hc,a8⟩:=lk id b hbk;have:=a8.out _ _ _ _ (h.blks id c hc);exact this.keep keep rfl (fun _=>rfl) fun _ _=>rfl
    ·have⟨x',d3,_⟩:=lk i x hx;have⟨y',hy',_⟩:=lk j y hy;exact h.sep i j x' y' d3 hy'
    ·have⟨x',d3,a8⟩:=lk i x hx;rw[a8.bx];exact h.ge i x' d3
  ·exact N.no.elim
theorem Qu2 (W:Walked P tb cs m ops S0 A R) {E:Nat->Bool} (hE:QgL m A E) {j:Nat} (hj:E j=false) {id:Nat} (U:S0.mentions id=false)
  (hm:∀i q,R[i]? =some q->i≠j->j∉nth A i->q.v.mentions id=false∧∀x∈q.nb,x.1≠id∧x.2.mentions id=false):(stOf S0 R E).mentions id=false:=by
 have⟨m1,m2,m3,m4⟩:=St.mentions_parts U;have I:∀(i:Nat) (q:Rs),R[i]? =some q->E i=true->q.v.mentions id=false∧∀x∈q.nb,x.1≠id∧x.2.mentions id=false:=fun i q hi N=>by
  have a1:i≠j:=fun e=>by subst e;rw[hj] at N;cases N
  have Y:i<m:=by rw[<-W.hm];exact(Ya.1 hi).1
  have O:j∉nth A i:=fun h=>by have:=hE i Y N j h;rw[hj] at this;cases this
  exact hm i q hi a1 O
 have⟨base,nt,ts,gs,bs,fs⟩:=S0;dsimp only at m1 m2 m3 m4;refine St.mentions_mk ?_ ?_ ?_ m4
 ·refine Qc4.2 fun x J=>?_;rcases Yx.1 J with J|J
  ·have⟨i,q,h1,h2,h3⟩:=Qom J;rw[Yl] at h2;rw[h3];simp only[Rs.shown];split
   ·exact(I i q h1 h2).1
   ·rfl
  ·exact Qc4.1 m1 x J
 ·refine QfQ.2 fun g hg=>?_;have⟨i,q,h1,h2,_,_,h5⟩:=QaX.1 hg;rw[Yl] at h2;rw[h5];exact(I i q h1 h2).1
 ·refine QF.2 fun x J=>?_;rcases Yx.1 J with J|J
  ·have⟨i,q,h1,h2,h3⟩:=Jp.1 J;rw[Yl] at h2;exact⟨((I i q h1 h2).2 x h3).1,((I i q h1 h2).2 x h3).2⟩
  ·exact QF.1 m3 x J
theorem Qla {j:Nat} {p:Nat×Blk}:∀ {bs:List (Nat×Blk)},p∈delB bs j->p∈bs
 |[],h=>by simp[delB] at h
 |(u,x)::r,h=>by
  simp only[delB] at h;split at h
  ·exact YM _ (Qla h)
  ·rcases Yi.1 h with h|h
   ·rw[h];simp
   ·exact YM _ (Qla h)
theorem QgP {id:Nat} {x:Blk}:∀ {bs:List (Nat×Blk)} {i:Nat},Qk (QhF bs id x) i=if i=id then(Qk bs id).map fun _=>x else Qk bs i
 |[],i=>by simp[QhF,Qk]
 |(u,y)::r,i=>by
  simp only[QhF];split
  ·rename_i hb;have:=Y9 hb;subst this
   by_cases e:i=u
   ·subst e;rw[Zl,Y4 rfl,Zl];rfl
   ·rw[QO (YY e),Y3 e,QO (YY e)]
  ·rename_i hb;have I:u≠id:=fun e=>by subst e;simp at hb
   by_cases e:u=i
   ·subst e;rw[Zl,Y3 I,Zl]
   ·rw[QO e,QgP,QO I,QO e]
theorem Qw5 {ev:Operand->V} {I:Nat->Option Blk} {pre:List (Nat×Blk)} {base:Nat} {dst:Option Nat} {op:Op} {K:V->List (Nat×Blk)->Prop} (h:QwH tb ev I pre base dst op K) (hs:¬ ∃N J O,op=.store N J O):dst≠none:=by
 intro e;subst e
 cases op<;>simp only[QwH,evN] at h<;>first|exact h.no.elim|exact absurd ⟨_,_,_,rfl⟩ hs|skip
 all_goals (repeat' split at h)
 all_goals first
  |exact h.no.elim
  |contradiction
  |(simp_all;done)
theorem Qtz (hT:TOk P tb) {S:St} {X pre post:List (Nat×Blk)} {res:V} {dst:Option Nat} {op:Op} {ty pos after guard} (h:Sim P B w0 F ρ S a w) (hX:S.blks=X++pre) (hdis:∀i b,Qk pre i=some b->Qk X i=none)
  (hm:∀t,dst=some t->S.mentions (St.idOf S.base t)=false) (he:QwH tb (S.ev []) (Qk X) pre S.base dst op (fun v post'=>v=res∧post'=post)):
  ∃n v w' ρ',(execOp a.eval ⟨dst,op,ty,pos,after,guard⟩).run P w=.ok n w'∧(n=.value v∨(n=.skip∧v=undef))∧Sim P B w0 F ρ' ⟨S.base,S.nt,S.tmps,S.gds,X++post,S.frames⟩ a w'∧VR w' (ZM B (X++post) ρ') ρ' res v:=by
 have lookX:∀i b,Qk X i=some b->Qk S.blks i=some b:=fun i b hb=>by rw[hX,Qj,hb];rfl
 have lookP:∀i b,Qk pre i=some b->Qk S.blks i=some b:=fun i b hb=>by rw[hX,Qj,hdis i b hb];simpa using hb
 have lookP':=lookP
 by_cases hst:∃tt aa xx,op=.store tt aa xx
 ·obtain⟨tt,aa,xx,rfl⟩:=hst;simp only[QwH] at he;split at he
  case h_2=>exact he.no.elim
  rename_i ti id row off hti hpa;have hiff:∀(blk:Blk) {b0:Blk},Qk pre id=some b0->QhF pre id blk=post->∀i y,Qk (X++post) i=some y↔Qk (QhF S.blks id blk) i=some y:=fun blk b0 hlk k2 i y=>by
   rw[<-k2,hX]
   by_cases e:i=id
   ·subst e;simp[Qj,QgP,hdis _ _ hlk,hlk]
   ·simp only[Qj,QgP,Y3 e]
  split at he
  ·rename_i t' cs1 hsz hlk;split at he
   case h_2=>exact he.no.elim
   rename_i hle;rw[Za] at he;have⟨k1,k2⟩:=he;have hE:evE tb dst (.store tt aa xx) S (fun v S'=>v=.any∧S'=⟨S.base,S.nt,S.tmps,S.gds,QhF S.blks id (.box t' (Qc2 cs1 off (S.ev [] xx).cells)),S.frames⟩):=by
    have⟨base,nt,ts,gs,bs,fs⟩:=S;simp only[evE,hti];rw[hpa];simp only[hsz,lookP _ _ hlk,hle,Za,Z4];exact⟨trivial,trivial⟩
   obtain⟨n,v,w',ρ',x,S',g1,g2,g3,g4,rfl,rfl⟩:=QeF hT h ⟨dst,.store tt aa xx,ty,pos,after,guard⟩ hE;refine⟨n,v,w',ρ',g1,g2,g3.congr (fun _ _ h=>h) (fun _ h=>h) fun i y=>hiff _ hlk k2 i y,?_⟩;rw[<-k1];exact .any
  ·rename_i t' sz n0 rw0 hsz hlk;split at he
   case h_2=>exact he.no.elim
   rename_i ds hle hds;have⟨rw1,hrw1,k1,k2⟩:=he;have hE:evE tb dst (.store tt aa xx) S (fun v S'=>v=.any∧S'=⟨S.base,S.nt,S.tmps,S.gds,QhF S.blks id (.arr t' sz n0 rw1),S.frames⟩):=by
    have⟨base,nt,ts,gs,bs,fs⟩:=S;simp only[evE,hti];rw[hpa];simp only[hsz,lookP _ _ hlk,hle,hds,Z4];exact⟨rw1,hrw1,trivial,rfl⟩
   obtain⟨n,v,w',ρ',x,S',g1,g2,g3,g4,rfl,rfl⟩:=QeF hT h ⟨dst,.store tt aa xx,ty,pos,after,guard⟩ hE;refine⟨n,v,w',ρ',g1,g2,g3.congr (fun _ _ h=>h) (fun _ h=>h) fun i y=>hiff _ hlk k2 i y,?_⟩;rw[<-k1];exact .any
  ·exact he.no.elim
 cases dst with
 |none=>
  exact absurd rfl (Qw5 he fun e=>hst e)
 |some t=>
 have hm:=hm t rfl;have hnid:∀b,Qk S.blks (St.idOf S.base t)=some b->False:=fun b hb=>by
  have:=(St.mentions_parts hm).2.2.1;rw[ZR hb (.inl rfl)] at this;cases this
 --the blocks in another order
 have front:∀ {ρ' w'} {b:Blk} {rest:List (Nat×Blk)} {v},(∀i x,Qk (X++rest) i=some x->True)->Sim P B w0 F ρ' ⟨S.base,S.nt,S.tmps,S.gds,(St.idOf S.base t,b)::(X++rest),S.frames⟩ a w'->
   VR w' (ZM B ((St.idOf S.base t,b)::(X++rest)) ρ') ρ' res v->post=(St.idOf S.base t,b)::rest->
   Sim P B w0 F ρ' ⟨S.base,S.nt,S.tmps,S.gds,X++post,S.frames⟩ a w'∧VR w' (ZM B (X++post) ρ') ρ' res v:=fun {ρ' w' b rest v} _ h1 h2 h3=>by
  have hXn:Qk X (St.idOf S.base t)=none:=by
   cases hl:Qk X (St.idOf S.base t) with
   |none=>rfl
   |some b=>exact(hnid b (lookX _ _ hl)).elim
  have iff:∀i x,Qk (X++post) i=some x↔Qk ((St.idOf S.base t,b)::(X++rest)) i=some x:=fun i x=>by
   rw[h3]
   by_cases e:St.idOf S.base t=i
   ·subst e;rw[Zl,Qj,hXn,Zl];rfl
   ·rw[QO e,Qj,Qj,QO e]
  refine⟨h1.congr (fun _ _ h=>h) (fun _ h=>h) fun i x=>iff i x,h2.mono fun b hb=>hb.elim (fun ho=>.inl (QoA (fun i x hx=>(iff i x).1 hx) ho)) .inr⟩
 have newCase:∀ {op':Op},evN tb (S.ev []) (Qk X) S.base (some t) op' (fun id v b=>v=res∧(id,b)::pre=post)->
   ∃n v w' ρ',(execOp a.eval ⟨some t,op',ty,pos,after,guard⟩).run P w=.ok n w'∧(n=.value v∨(n=.skip∧v=undef))∧Sim P B w0 F ρ' ⟨S.base,S.nt,S.tmps,S.gds,X++post,S.frames⟩ a w'∧VR w' (ZM B (X++post) ρ') ρ' res v:=fun {op'} hk=>by
  have h2:=QuD (fun t' ht=>by cases ht;exact hm) (Qyh (QgK (fun _ _=>rfl) lookX hk));have⟨n,v,w',ρ',x,S',g1,g2,g3,g4,g5⟩:=QeF hT h ⟨some t,op',ty,pos,after,guard⟩ h2;obtain⟨i,b,⟨hi,k1,k2⟩,rfl⟩:=g5;subst hi k1;have g3':Sim P B w0 F ρ' ⟨S.base,S.nt,S.tmps,S.gds,(St.idOf S.base t,b)::(X++pre),S.frames⟩ a w':=by rw[<-hX];exact g3
  have g4':VR w' (ZM B ((St.idOf S.base t,b)::(X++pre)) ρ') ρ' x v:=by rw[<-hX];exact g4
  have⟨f1,f2⟩:=front (fun _ _ _=>trivial) g3' g4' k2.symm;exact⟨n,v,w',ρ',g1,g2,f1,f2⟩
 cases op<;>simp only[QwH] at he<;>first|exact he.no.elim|exact newCase he|skip
 case store=>exact absurd ⟨_,_,_,rfl⟩ hst
 case call c=>
  split at he
  case h_2=>exact he.no.elim
  rename_i hcal;split at he
  case h_2=>exact he.no.elim
  rename_i s x ty1 ty2 hargs htys;have hargs:c.args=#[s,x]:=by apply Xt;simpa using hargs
  have htys:c.argTypes=#[ty1,ty2]:=by apply Xt;simpa using htys
  have hrun:∀w',(execOp a.eval ⟨some t,.call c,ty,pos,after,guard⟩).run P w'=((Builtin.append_ #[ty1,ty2] ty #[a.eval s,a.eval x]>>=fun v=>(pure (.value v):Sem Next)).run P w'):=fun w'=>by
   simp only[execOp,resolve,hcal,hargs,htys,pure_bind,invoke,builtin,XX,YI,Y0s]
  split at he
  case h_2=>exact he.no.elim
  rename_i e s' by' z' q e' s2 by2 z2 q2 dst' hti hti' hd
  cases hd
  split at he
  case h_2=>exact he.no.elim
  rename_i kk sz byt zz qq hte;split at he
  case h_2=>exact he.no.elim
  rename_i n r m r' hcs hcx;split at he
  ·exact newCase he
  case h_3=>exact he.no.elim
  rename_i id off len hsv;have⟨hb,n1,rw1,hn1,hrw1,he⟩:=he;rw[St.idK_eq] at he;have⟨k1,k2⟩:=he;subst hn1;have hev:=h.evR;have hs:=hev.eq hsv;rw[hsv] at hcs;have hlkid:∀b,Qk S.blks id=some b->Qk X id=none:=fun b hb=>by
   simp only[J0] at hcs;split at hcs
   ·rename_i hl;exact hdis _ _ hl
   ·cases hcs
  have hsub:∀i b,Qk (X++delB pre id) i=some b->i≠id∧Qk S.blks i=some b:=fun i b hb=>by
   rw[Qj] at hb
   cases hl:Qk X i with
   |some b'=>
    rw[hl] at hb;simp at hb;subst hb;refine⟨fun e=>?_,lookX _ _ hl⟩;subst e;rw[hlkid _ (lookX _ _ hl)] at hl;cases hl
   |none=>
    rw[hl] at hb;simp only[XD] at hb;have⟨h1,h2⟩:=QgM hb;exact⟨h1,lookP _ _ h2⟩
  have hk:=Qsl h.o (L:=X++delB pre id) fun i b hb=>(hsub i b hb).2;have⟨v,w',ρ',g1,g2,g3⟩:=Qtw hT h (ty:=ty) (nid:=St.idOf S.base t) hti hti' hte hs (hev.at x) (Qen lookP hcs) (Qen lookX hcx) hb hrw1 hk (by
    have⟨m1,m2,m3,m4⟩:=St.mentions_parts hm;refine St.mentions_mk m1 m2 ?_ m4;rw[hX,QF] at m3;rw[QF];intro p hp;rcases Yx.1 hp with hp|hp
    ·exact m3 p (Y0q _ hp)
    ·exact m3 p (Y0k _ (Qla hp)))
   (fun b hb=>hb.elim (fun ho=>.inl (QoA (fun i x hx=>(hsub i x hx).2) ho)) .inr) (fun t0 n0 row0 hl hp=>by
    rintro⟨i,k,hk,hpi,e⟩;have⟨hne,hk2⟩:=hsub i k hk;exact hne (h.sep i id _ _ hk2 hl hpi hp e))
  subst k1;have⟨f1,f2⟩:=front (rest:=delB pre id) (fun _ _ _=>trivial) g2 g3 k2.symm;exact⟨_,v,w',ρ',by rw[hrun,Sem.run_bind,g1];rfl,.inl rfl,f1,f2⟩
theorem Qu3 (hT:TOk P tb) {S:St} {X pre post:List (Nat×Blk)} {res:V} {dst:Option Nat} {op:Op} {ty pos after guard} (h:Sim P B w0 F ρ S a w) (Y:S.blks=X++pre) (J:∀i b,Qk pre i=some b->Qk X i=none)
  (hm:∀t,dst=some t->QAK op=false->S.mentions (St.idOf S.base t)=false) (he:evA tb (S.ev []) (Qk X) pre S.base dst op (fun v U=>v=res∧U=post)):
  ∃n v w' ρ',(execOp a.eval ⟨dst,op,ty,pos,after,guard⟩).run P w=.ok n w'∧(n=.value v∨(n=.skip∧v=undef))∧Sim P B w0 F ρ' ⟨S.base,S.nt,S.tmps,S.gds,X++post,S.frames⟩ a w'∧VR w' (ZM B (X++post) ρ') ρ' res v:=by
 unfold evA at he;split at he
 ·obtain⟨v,w',x,g1,g2,g3,rfl,rfl⟩:=QgD hT (ev:=fun _ x=>S.ev [] x) (ow:=ZM B S.blks ρ) (ρ:=ρ) ⟨fun _ x _=>h.evR.at x⟩ (fun i b hi=>h.blks i b (by
    rw[Y,Qj]
    cases hl:Qk pre i with
    |some b'=>rw[hl] at hi;simp only[Option.some_or,Yc] at hi;subst hi;rw[J _ _ hl];rfl
    |none=>rw[hl] at hi;simp only[XD] at hi;rw[hi];rfl)) (fun _ hb=>QdY h hb) (fun _ h=>h) ⟨dst,op,ty,pos,after,guard⟩ he
  have h2:=h.pure g2;have⟨base,nt,ts,gs,bs,fs⟩:=S;dsimp only at Y;subst Y;exact⟨_,v,w',ρ,g1,.inl rfl,h2,g3⟩
 ·rename_i hp;split at he
  ·rename_i e n cs I t hB;rw[St.idK_eq] at he;have⟨k1,k2⟩:=he;subst k1;have hm:=hm t rfl hp;have N:∀i b,Qk X i=some b->Qk S.blks i=some b:=fun i b hb=>by rw[Y,Qj,hb];rfl
   have O:∀i b,Qk pre i=some b->Qk S.blks i=some b:=fun i b hb=>by rw[Y,Qj,J i b hb];simpa using hb
   have a1:∀p,p∈Qwz pre I->p∈pre:=fun p hp=>by
    cases I with
    |none=>exact hp
    |some g=>exact Qla hp
   have a6:(⟨S.base,S.nt,S.tmps,S.gds,X++Qwz pre I,S.frames⟩:St).mentions (St.idOf S.base t)=false:=by
    have⟨m1,m2,m3,m4⟩:=St.mentions_parts hm;refine St.mentions_mk m1 m2 ?_ m4;rw[Y,QF] at m3;rw[QF];intro p hp;rcases Yx.1 hp with hp|hp
    ·exact m3 p (Y0q _ hp)
    ·exact m3 p (Y0k _ (a1 p hp))
   have⟨v,w',ρ',r1,r2,r3⟩:=QuT (ty:=ty) (pos:=pos) (after:=after) (guard:=guard) hT h N O J QgM (fun {l i b} hb=>by
    rw[Qj] at hb
    cases hl:Qk X i with
    |some b'=>rw[hl] at hb;exact .inl hb
    |none=>rw[hl] at hb;simp only[XD] at hb;exact .inr hb) hm a6 hB
   have a5:Qk X (St.idOf S.base t)=none:=by
    cases hl:Qk X (St.idOf S.base t) with
    |none=>rfl
    |some b=>
     have:=(St.mentions_parts hm).2.2.1;rw[ZR (N _ _ hl) (.inl rfl)] at this;cases this
   have a2:∀i x,Qk (X++post) i=some x↔Qk ((St.idOf S.base t,.box (bty n e) cs)::(X++Qwz pre I)) i=some x:=fun i x=>by
    rw[<-k2]
    by_cases e:St.idOf S.base t=i
    ·subst e;rw[Zl,Qj,a5,Zl];rfl
    ·rw[QO e,Qj,Qj,QO e]
   exact⟨_,v,w',ρ',r1,.inl rfl,r2.congr (fun _ _ h=>h) (fun _ h=>h) fun i x=>a2 i x,r3.mono fun b hb=>hb.elim (fun ho=>.inl (QoA (fun i x hx=>(a2 i x).1 hx) ho)) .inr⟩
  ·exact Qtz hT h Y J (fun t ht=>hm t ht hp) he
theorem QoD (hT:TOk P tb) (W:Walked P tb cs m ops S0 A R) {opsA:Array Oper} (hops:opsA.toList=ops) {pre post:List (Nat×Blk)} (hv0:QdZ S0 R pre=true) (hv1:QdZ S0 R post=true)
  {E:Nat->Bool} (hE:QgL m A E) {j:Nat} {o:Oper} (hj:j<m) (hjE:E j=false) (ho:ops[j]? =some o) {res:V} (hcs:cs j=some (.app pre res post))
  (hnid:∀t,o.dst=some t->QAK o.op=false->S0.mentions (St.idOf S0.base t)=false∧Q8 (St.idOf S0.base t) pre=false∧∀i q,R[i]? =some q->i≠j->j∉nth A i->q.v.mentions (St.idOf S0.base t)=false∧∀x∈q.nb,x.1≠St.idOf S0.base t∧x.2.mentions (St.idOf S0.base t)=false)
  (hr:∀e∈Zo o.after.toList,E e=true) (h:Sim P B w0 F ρ (stOf (S0.addB pre) R E) a w) {next:Act->World->Prop}
  (hn:∀ρ' a' w',Sim P B w0 F ρ' (stOf (S0.addB post) R (Qgh E j)) a' w'->next a' w') (Q:Exit->Act->World->Prop):wpOp P opsA Q j next a w:=by
 have W0:=W;have hvT:∀T,QdZ S0 R T=true->∀r∈R,∀p∈r.nb,Q8 p.1 T=false:=fun T this r hr p hp=>by
  simp only[QdZ,Y2] at this;have:=Ye.1 (Ye.1 this.2 r hr) p hp;simpa using this
 have hvS:∀T,QdZ S0 R T=true->∀i b,Qk T i=some b->Qk S0.blks i=none:=fun T this i b hb=>by
  simp only[QdZ,Y2] at this;have:=Ye.1 this.1 i (Qep (Zb hb));exact QgO (by simpa using this)
 have hoA:opsA[j]? =some o:=by rw[<-hops] at ho;simpa using ho
 have W1:=W0.more (hvT post hv1);have hvT:=hvT pre hv0;have hvS:=hvS pre hv0;have W:=W0.more hvT;obtain⟨r,hr1,hanc,hrd,hopr,hgd,hev⟩:=W0.facts j o hj ho;have hin:=W.ancIn hE hj ho hr;have hlt:∀i∈nth A j,i<j:=W.ancLt (j+1) j (by omega) hj;have hloc:∀x∈o.op.operands.toList,∀al,(stOf S0 (R.take j) (ZX (nth A j))).ev al x=(stOf S0 R E).ev al x:=fun x hx al=>QuF W0 hlt hin (hopr x hx) al;have hblk:∀id b,Qk (stOf S0 (R.take j) (ZX (nth A j))).blks id=some b->Qk (stOf S0 R E).blks id=some b:=fun id b hb=>QuG W0 hin hb;obtain⟨pre',res',post',hcs',hg,hA,k1,k2,k3⟩:=Qoj (by rw[hcs];rfl) hev;rw[hcs] at hcs';simp only[Yc,CS.app.injEq] at hcs';obtain⟨e1,e2,e3⟩:=hcs';subst e1 e2 e3;have hbase:∀(R':List Rs) (E':Nat->Bool),(stOf S0 R' E').base=S0.base:=fun R' E'=>by obtain⟨base,nt,ts,gs,bs,fs⟩:=S0;rfl
 have hblks:(stOf S0 R E).blks=JH E 0 R++S0.blks:=by obtain⟨base,nt,ts,gs,bs,fs⟩:=S0;rfl
 have hA2:=QpQ (ev':=(stOf S0 R E).ev []) (vis':=Qk (JH E 0 R++S0.blks)) (fun x hx=>hloc x hx []) (fun i b hb=>by rw[<-hblks];exact hblk i b hb) hA;have hS2:stOf (S0.addB pre) R E=(stOf S0 R E).addB pre:=Qkv;rw[hS2] at h;have hev2:((stOf S0 R E).addB pre).ev=(stOf S0 R E).ev:=by
  funext al x
  generalize stOf S0 R E=S9;obtain⟨base,nt,ts,gs,bs,fs⟩:=S9
  cases x<;>rfl
 have hm2:∀t,o.dst=some t->QAK o.op=false->((stOf S0 R E).addB pre).mentions (St.idOf ((stOf S0 R E).addB pre).base t)=false:=fun t ht hhp=>by
  obtain⟨n1,n2,n3⟩:=hnid t ht hhp;have hm1:=Qu2 W0 hE hjE n1 n3;have hb2:((stOf S0 R E).addB pre).base=S0.base:=by
   rw[<-hbase R E];generalize stOf S0 R E=S9;obtain⟨base,nt,ts,gs,bs,fs⟩:=S9;rfl
  rw[hb2];obtain⟨m1,m2,m3,m4⟩:=St.mentions_parts hm1;have e1:((stOf S0 R E).addB pre).tmps=(stOf S0 R E).tmps∧((stOf S0 R E).addB pre).gds=(stOf S0 R E).gds∧((stOf S0 R E).addB pre).blks=(stOf S0 R E).blks++pre∧((stOf S0 R E).addB pre).frames=(stOf S0 R E).frames:=by
   generalize stOf S0 R E=S9;obtain⟨base,nt,ts,gs,bs,fs⟩:=S9;exact⟨rfl,rfl,rfl,rfl⟩
  refine St.mentions_mk (by rw[e1.1];exact m1) (by rw[e1.2.1];exact m2) ?_ (by rw[e1.2.2.2];exact m4);rw[e1.2.2.1];rw[QF] at m3 n2|-;intro p hp;rcases Yx.1 hp with hp|hp
  ·exact m3 p hp
  ·exact n2 p hp
 have hb2:((stOf S0 R E).addB pre).base=S0.base:=by
  rw[<-hbase R E];generalize stOf S0 R E=S9;obtain⟨base,nt,ts,gs,bs,fs⟩:=S9;rfl
 have hX:((stOf S0 R E).addB pre).blks=(JH E 0 R++S0.blks)++pre:=by
  rw[<-hblks];generalize stOf S0 R E=S9;obtain⟨base,nt,ts,gs,bs,fs⟩:=S9;rfl
 have hdis:∀i b,Qk pre i=some b->Qk (JH E 0 R++S0.blks) i=none:=fun i b hb=>by
  rw[Qj,hvS i b hb]
  cases hl:Qk (JH E 0 R) i with
  |none=>rfl
  |some b'=>
   exfalso;obtain⟨q,rq,g1,_,g3⟩:=Jp.1 (Zb hl);have:=hvT rq (Xb g1) _ g3;rw[ZR (id:=i) hb (.inl rfl)] at this;cases this
 obtain⟨n,v,w',ρ',g1,g0,g2,g3⟩:=Qu3 (ty:=o.type) (pos:=o.pos) (after:=o.after) (guard:=none) hT h hX hdis hm2 (by rw[hev2,hb2];rw[hbase] at hA2;exact hA2);have hoe:o=⟨o.dst,o.op,o.type,o.pos,o.after,none⟩:=by rw[<-hg]
 have hwd:Region.wanted o (yielded opsA a.tmps)=true:=by rw[hoe];simp[Region.wanted]
 refine QiZ hoA hwd ?_;have hshape:(⟨((stOf S0 R E).addB pre).base,((stOf S0 R E).addB pre).nt,((stOf S0 R E).addB pre).tmps,((stOf S0 R E).addB pre).gds,(JH E 0 R++S0.blks)++post,((stOf S0 R E).addB pre).frames⟩:St)=⟨S0.base,S0.nt,QdN E 0 R++S0.tmps,Qd6 E 0 R,r.nb++(JH E 0 R++(S0.addB post).blks),S0.frames⟩:=by
  rw[<-k3];obtain⟨base,nt,ts,gs,bs,fs⟩:=S0;simp only[stOf,St.addB,X5,YA]
 have hbl:(JH E 0 R++S0.blks)++post=r.nb++(JH E 0 R++(S0.addB post).blks):=by
  rw[<-k3];obtain⟨base,nt,ts,gs,bs,fs⟩:=S0;simp only[St.addB,X5,YA]
 rw[hshape] at g2;rw[hbl] at g3;have fin:next (a.put o.dst v) w':=by
  rcases W0.slots j r hr1 with ⟨hdn,hnb⟩|⟨t,htd,htn,hkt⟩
  ·have hod:o.dst=none:=by rw[<-hrd];exact hdn
   rw[hod];refine hn ρ' _ w' ?_;rw[QuH hr1 hdn hnb];rw[hnb] at g2;have e:stOf (S0.addB post) R E=⟨S0.base,S0.nt,QdN E 0 R++S0.tmps,Qd6 E 0 R,[]++(JH E 0 R++(S0.addB post).blks),S0.frames⟩:=by obtain⟨base,nt,ts,gs,bs,fs⟩:=S0;rfl
   rw[e];exact g2
  ·have hod:o.dst=some t:=by rw[<-hrd];exact htd
   have hkey:∀g∈Qd6 E 0 R,g.t≠t∧g.key≠t:=fun g hg=>by
    obtain⟨i,q,g1,g2,g3,g4,g5⟩:=QaX.1 hg;rw[Yl] at g2;have hne:i≠j:=fun e=>by subst e;rw[hjE] at g2;cases g2
    refine⟨fun e=>W.ne j i r q hr1 g1 (YY hne) t htd (by rw[<-e];exact g3),fun e=>?_⟩;have him:i<m:=by rw[<-W.hm];exact(Ya.1 g1).1
    obtain⟨oi,hoi⟩:=W.op him;obtain⟨q',f1,_,_,_,f5,f6⟩:=W.facts i oi him hoi;rw[g1] at f1;cases f1;obtain⟨gg,vv,nn,⟨k1,_,_⟩,k4⟩:=Qok f6;rcases k4 with ⟨_,k5⟩|⟨jg,want,oj,key,k5,k6,k7,k8⟩
    ·rw[<-k1,k5] at g4;cases g4
    ·rw[<-k1,k8] at g4;simp only[Yc,YX] at g4;obtain⟨oj',key',l1,l2,l3,_⟩:=f5 jg want k5;rw[k6] at l1;cases l1;have hEjg:=hE i him g2 jg l3;have hjgne:jg≠j:=fun e=>by subst e;rw[hjE] at hEjg;cases hEjg
     have hjgm:jg<m:=by have:=W.ancLt (i+1) i (by omega) him jg l3;omega
     obtain⟨rj,r1,_,r3,_⟩:=W.facts jg oj hjgm k6;refine W.ne jg j rj r r1 hr1 hjgne key (by rw[r3];exact k7) ?_;rw[g4.1,e];exact htd
   have hk0:(S0.addB post).base=S0.base∧(S0.addB post).nt=S0.nt∧(S0.addB post).tmps=S0.tmps∧(S0.addB post).frames=S0.frames:=by obtain⟨base,nt,ts,gs,bs,fs⟩:=S0;exact⟨rfl,rfl,rfl,rfl⟩
   rw[hod];exact hn ρ' _ w' (Qie W1 hr1 htd hjE (h:=by rw[hk0.1,hk0.2.1,hk0.2.2.1,hk0.2.2.2];exact g2) (x:=v) (by rw[<-k1];rw[<-k2];exact g3) hkey)
 unfold Oper.wp;rw[hoe,g1];rcases g0 with rfl|⟨rfl,rfl⟩
 ·exact fin
 ·exact fin
def Qc6 (ids:List Nat):List (Nat×Blk)->List (Nat×Blk)
 |[]=>[]
 |(i,b)::r=>match ZX ids i with
  |true=>Qc6 ids r
  |false=>(i,b)::Qc6 ids r
def Zc (bs:List (Nat×Blk)):List Nat->List (Nat×Blk)
 |[]=>[]
 |i::r=>match Qk bs i with
  |some b=>(i,b)::Zc bs r
  |none=>Zc bs r
theorem Qci {ids:List Nat} {i:Nat}:∀ {bs:List (Nat×Blk)},Qk (Qc6 ids bs) i=if ZX ids i=true then none else Qk bs i
 |[]=>by simp[Qc6,Qk]
 |(u,b)::r=>by
  simp only[Qc6];split
  ·rename_i h;rw[Qci];split
   ·rfl
   ·rename_i h2;rw[QO];intro e;subst e;exact h2 h
  ·rename_i h
   by_cases e:u=i
   ·subst e;rw[Zl,h,Zl];simp
   ·rw[QO e,Qci,QO e]
theorem Qi6 {bs:List (Nat×Blk)} {i:Nat}:∀ {ids:List Nat},Qk (Zc bs ids) i=if ZX ids i=true then Qk bs i else none
 |[]=>by simp[Zc,Qk,ZX]
 |u::r=>by
  have I:=Qi6 (bs:=bs) (i:=i) (ids:=r)
  by_cases e:u=i
  ·subst e;have h1:ZX (u::r) u=true:=by simp[ZX]
   simp only[h1,YE];simp only[Zc]
   cases h:Qk bs u with
   |some b=>exact Zl
   |none=>simp only[I,h];split<;>rfl
  ·have hb:Nat.beq u i=false:=by
    cases hb:Nat.beq u i
    ·rfl
    ·exact absurd (Y9 hb) e
   have h1:ZX (u::r) i=ZX r i:=by simp only[ZX,hb]
   rw[h1];simp only[Zc];split
   ·rw[QO e,I]
   ·exact I
def S0h (dsts:List (Option Nat)) (ids:List Nat) (S:St):St:=match S with
 |⟨base,nt,ts,_,bs,fs⟩=>⟨base,nt,Qoh dsts ts,[],Qc6 ids bs,fs⟩
def Qsn (ops:List Oper) (cs:Nat->Option CS) (m:Nat):Bool:=(List.range m).all fun j=>match QiX (cs j)&& !QgJ (cs j),ops[j]? with
 |true,some ⟨_,.call ⟨.value _,_,_⟩,_,_,_,_⟩=>true
 |true,_=>false
 |false,_=>true
theorem Qu4 (h:Qsn ops cs m=true) {j:Nat} {o:Oper} (J:j<m) (h1:(QiX (cs j)&& !QgJ (cs j))=true) (ho:ops[j]? =some o):∃f args I,o.op=.call ⟨.value f,args,I⟩:=by
 have:=Ye.1 h j (by simpa using J);rw[h1,ho] at this;split at this
 ·rename_i h2;cases h2;exact⟨_,_,_,rfl⟩
 ·cases this
 ·rename_i h2;cases h2
def Qdg (cs:Nat->Option CS) (j:Nat):List (Nat×Blk):=match cs j with
 |some (.eff _ _ post _ _)=>post
 |some (.app _ _ post)=>post
 |_=>[]
def hid (cs:Nat->Option CS) (pr:Nat->List (Nat×Blk)) (ro:Nat->List Nat) (T0:List (Nat×Blk)) (E:Nat->Bool):Nat->List (Nat×Blk)
 |0=>T0
 |n+1=>match E n&&QiX (cs n) with
  |true=>Qc6 (ro n) (Qdg cs n)++Qc6 (Qd7 (Qc6 (ro n) (pr n))) (hid cs pr ro T0 E n)
  |false=>hid cs pr ro T0 E n
def QjZ (cs:Nat->Option CS) (pr:Nat->List (Nat×Blk)) (j id:Nat):Bool:=QiX (cs j)&&(hasB (pr j) id||hasB (Qdg cs j) id)
def Qpe (cs:Nat->Option CS) (pr:Nat->List (Nat×Blk)) (ro:Nat->List Nat) (j id:Nat):Bool:=QjZ cs pr j id&& !ZX (ro j) id
theorem Qc7:∀ {T:List (Nat×Blk)} {id:Nat},ZX (Qd7 T) id=hasB T id
 |[],id=>rfl
 |(i,b)::r,id=>by
  have I:=Qc7 (T:=r) (id:=id);unfold hasB at I|-;simp only[Qd7,ZX,Qk]
  cases hb:Nat.beq i id
  ·exact I
  ·rfl
theorem Qso {ids:List Nat} {T:List (Nat×Blk)} {id:Nat}:hasB (Qc6 ids T) id=(hasB T id&& !ZX ids id):=by
 unfold hasB;rw[Qci]
 cases ZX ids id
 ·simp
 ·simp
theorem QgQ {T:List (Nat×Blk)} {id:Nat} (h:hasB T id=false):Qk T id=none:=QgO h
theorem QpR {T:List (Nat×Blk)} {id:Nat} {b:Blk} (h:Qk T id=some b):hasB T id=true:=by simp[hasB,h]
variable {pr:Nat→List (Nat×Blk)} {ro:Nat→List Nat} {T0:List (Nat×Blk)}
theorem QoE {E:Nat->Bool} {n id:Nat} (h:Qpe cs pr ro n id=false):Qk (hid cs pr ro T0 E (n+1)) id=Qk (hid cs pr ro T0 E n) id:=by
 simp only[hid];split
 ·rename_i hb;simp only[Y2] at hb;simp only[Qpe,QjZ,hb.2,Yn] at h;rw[Qj,Qci,Qci,Qc7,Qso]
  cases hm:ZX (ro n) id
  ·rw[hm] at h;simp only[Y00,YT,XH] at h;simp[QgQ h.2,h.1]
  ·simp
 ·rfl
theorem Qi7 {E E':Nat->Bool} {id:Nat}:∀ {n:Nat},(∀i,i<n->Qpe cs pr ro i id=true->E i=E' i)->Qk (hid cs pr ro T0 E n) id=Qk (hid cs pr ro T0 E' n) id
 |0,_=>rfl
 |n+1,h=>by
  have J:=Qi7 (n:=n) fun i hi=>h i (by omega)
  cases I:Qpe cs pr ro n id
  ·rw[QoE I,QoE I,J]
  ·have e:=h n (by omega) I;simp only[hid,e];split
   ·rw[Qj,Qj,Qci (bs:=hid cs pr ro T0 E n),Qci (bs:=hid cs pr ro T0 E' n),J]
   ·exact J
theorem QAR {E:Nat->Bool} {n id:Nat} (J:E n=true) (I:Qpe cs pr ro n id=true):Qk (hid cs pr ro T0 E (n+1)) id=Qk (Qdg cs n) id:=by
 simp only[Qpe,QjZ,Y2,YF] at I;have⟨⟨h1,h2⟩,h3⟩:=I;simp only[hid,J,h1,Y1c];rw[Qj,Qci,Qci,Qc7,Qso,h3];simp only[Yw,Xi,Y00,YT]
 cases hl:Qk (Qdg cs n) id with
 |some b=>rfl
 |none=>
  have:hasB (Qdg cs n) id=false:=by simp[hasB,hl]
  rw[this,Y0v] at h2;rw[h2];simp
theorem Qma {E:Nat->Bool} {n id:Nat}:∀ {d:Nat},(∀i,n<=i->i<n+d->E i=true->Qpe cs pr ro i id=false)->Qk (hid cs pr ro T0 E (n+d)) id=Qk (hid cs pr ro T0 E n) id
 |0,_=>rfl
 |d+1,h=>by
  have I:=Qma (d:=d) fun i h1 h2=>h i h1 (by omega);show Qk (hid cs pr ro T0 E ((n+d)+1)) id=_
  cases J:E (n+d)
  ·simp only[hid,J,Yv];exact I
  ·rw[QoE (h (n+d) (by omega) (by omega) J)];exact I
theorem Qfu {ids:List Nat} {p:Nat×Blk}:∀ {bs:List (Nat×Blk)},p∈Qc6 ids bs->p∈bs
 |[],h=>by simp[Qc6] at h
 |(u,x)::r,h=>by
  simp only[Qc6] at h;split at h
  ·exact YM _ (Qfu h)
  ·rcases Yi.1 h with h|h
   ·rw[h];simp
   ·exact YM _ (Qfu h)
theorem Qmb {E:Nat->Bool} {p:Nat×Blk}:∀ {n:Nat},p∈hid cs pr ro T0 E n->p∈T0∨ ∃k,k<n∧E k=true∧QiX (cs k)=true∧p∈Qdg cs k
 |0,h=>.inl h
 |n+1,h=>by
  simp only[hid] at h;split at h
  ·rename_i hb;simp only[Y2] at hb;rcases Yx.1 h with h|h
   ·exact .inr ⟨n,by omega,hb.1,hb.2,Qfu h⟩
   ·rcases Qmb (Qfu h) with h|⟨k,h1,h2⟩
    ·exact .inl h
    ·exact .inr ⟨k,by omega,h2⟩
  ·rcases Qmb h with h|⟨k,h1,h2⟩
   ·exact .inl h
   ·exact .inr ⟨k,by omega,h2⟩
theorem Qzj {E E':Nat->Bool}:∀ {n:Nat},(∀i,i<n->QiX (cs i)=true->E i=E' i)->hid cs pr ro T0 E n=hid cs pr ro T0 E' n
 |0,_=>rfl
 |n+1,h=>by
  have I:=Qzj (n:=n) fun i hi=>h i (by omega);simp only[hid]
  cases J:QiX (cs n)
  ·simp only[XO];exact I
  ·rw[h n (by omega) J,I]
def QnH (cs:Nat->Option CS) (pr:Nat->List (Nat×Blk)) (I:Nat->Nat->Bool) (S0:St) (R:List Rs) (T0:List (Nat×Blk)) (m j id:Nat):Bool:=
 !S0.mentions id&&(!Q8 id T0&&(!Q8 id (pr j)&&((List.range m).all (fun i=>Nat.beq i j||(I i j||(!QiX (cs i)|| !Q8 id (Qdg cs i))))&&
  QmH (fun i q=>Nat.beq i j||(I i j||(!q.v.mentions id&&q.nb.all fun x=>!Nat.beq x.1 id&& !x.2.mentions id))) 0 R)))
def QnI (cs:Nat->Option CS) (pr:Nat->List (Nat×Blk)) (ro:Nat->List Nat) (i j:Nat):Bool:=
 (Qd7 (pr i)++Qd7 (Qdg cs i)).all (fun id=>ZX (ro i) id|| !QjZ cs pr j id)&&(Qd7 (pr j)++Qd7 (Qdg cs j)).all (fun id=>ZX (ro j) id|| !QjZ cs pr i id)
def QBZ (cs:Nat->Option CS) (pr:Nat->List (Nat×Blk)) (ro:Nat->List Nat) (I:Nat->Nat->Bool) (S0:St) (R:List Rs) (T0:List (Nat×Blk)) (m j:Nat):Bool:=match QiX (cs j) with
 |false=>true
 |true=>QdZ S0 R (pr j)&&(QdZ S0 R (Qdg cs j)&&((List.range j).all (fun i=>match QiX (cs i) with
  |false=>true
  |true=>I j i||QnI cs pr ro i j)&&(Qd7 (Qdg cs j)).all (fun id=>hasB (pr j) id||QnH cs pr I S0 R T0 m j id)))
def QCa (cs:Nat->Option CS) (pr:Nat->List (Nat×Blk)) (I:Nat->Nat->Bool) (S0:St) (R:List Rs) (T0:List (Nat×Blk)) (ops:List Oper) (m:Nat):Bool:=
 QmH (fun j r=>match QgJ (cs j),ops[j]?,r.dst with
  |true,some o,some t=>QAK o.op||QnH cs pr I S0 R T0 m j (St.idOf S0.base t)
  |_,_,_=>true) 0 R
def QAt (cs:Nat->Option CS) (pr:Nat->List (Nat×Blk)) (ro:Nat->List Nat) (I:Nat->Nat->Bool) (S0:St) (R:List Rs) (T0:List (Nat×Blk)) (ops:List Oper) (m:Nat):Bool:=
 QdZ S0 R T0&&((List.range m).all (QBZ cs pr ro I S0 R T0 m)&&QCa cs pr I S0 R T0 ops m)
def Qfv (P:Program) (cs:Nat->Option CS) (pr:Nat->List (Nat×Blk)) (ro:Nat->List Nat) (T0:List (Nat×Blk)) (I:List (List Bool)):Nat->Prop
 |0=>True
 |n+1=>(match cs n with
  |some (.eff res nb post p q)=>(∀g vs,p g vs->EffD P (pr n) g vs res nb post)∧(q->LeB (pr n) post)∧Zc (hid cs pr ro T0 (fun i=>QdC (Qfi I n) i) n) (Qd7 (pr n))=pr n∧Zc post (ro n)=Zc (pr n) (ro n)
  |some (.app pre _ post)=>pre=pr n∧Zc (hid cs pr ro T0 (fun i=>QdC (Qfi I n) i) n) (Qd7 (pr n))=pr n∧Zc post (ro n)=Zc (pr n) (ro n)
  |_=>True)∧Qfv P cs pr ro T0 I n
theorem Qj0 {I:List (List Bool)}:∀ {m:Nat},Qfv P cs pr ro T0 I m->∀ {j:Nat},j<m->match cs j with
  |some (.eff res nb post p q)=>(∀g vs,p g vs->EffD P (pr j) g vs res nb post)∧(q->LeB (pr j) post)∧Zc (hid cs pr ro T0 (fun i=>QdC (Qfi I j) i) j) (Qd7 (pr j))=pr j∧Zc post (ro j)=Zc (pr j) (ro j)
  |some (.app pre _ post)=>pre=pr j∧Zc (hid cs pr ro T0 (fun i=>QdC (Qfi I j) i) j) (Qd7 (pr j))=pr j∧Zc post (ro j)=Zc (pr j) (ro j)
  |_=>True
 |m+1,h,j,hj=>by
  by_cases e:j=m
  ·subst e;exact h.1
  ·exact Qj0 h.2 (by omega)
theorem Qq4 {I:List (List Bool)} {m:Nat} (h:Qfv P cs pr ro T0 I m) {j:Nat} (J:j<m) (N:QiX (cs j)=true):
  Zc (hid cs pr ro T0 (fun i=>QdC (Qfi I j) i) j) (Qd7 (pr j))=pr j∧Zc (Qdg cs j) (ro j)=Zc (pr j) (ro j):=by
 have:=Qj0 h J;rcases QuZ N with ⟨res,nb,post,p,q,e⟩|⟨pre,res,post,e⟩
 ·rw[e] at this;simp only[Qdg,e];exact this.2.2
 ·rw[e] at this;simp only[Qdg,e];exact this.2
theorem Qil {T:List (Nat×Blk)} (h:QdZ S0 R T=true):(∀i b,(i,b)∈T->hasB S0.blks i=false)∧∀r∈R,∀p∈r.nb,Q8 p.1 T=false:=by
 simp only[QdZ,Y2] at h;refine⟨fun i b hb=>by simpa using Ye.1 h.1 i (Qep hb),fun r I p hp=>by simpa using Ye.1 (Ye.1 h.2 r I) p hp⟩
theorem Qsp {T:List (Nat×Blk)} (h1:∀i b,(i,b)∈T->hasB S0.blks i=false) (h2:∀r∈R,∀p∈r.nb,Q8 p.1 T=false):QdZ S0 R T=true:=by
 simp only[QdZ,Y2];refine⟨Ye.2 fun i hi=>?_,Ye.2 fun r I=>Ye.2 fun p hp=>by simpa using h2 r I p hp⟩;have:hasB T i=true:=by rw[<-Qc7];exact ZN.2 hi
 have⟨b,hb⟩:=Qfc this;simpa using h1 i b (Zb hb)
def Qq5 (P:Program) (tb:Tb) (cs:Nat->Option CS) (pr:Nat->List (Nat×Blk)) (ro:Nat->List Nat) (I:List (List Bool)) (m:Nat) (ids:List Nat) (ops:List Oper) (S:St) (K:St->Prop):Prop:=
 match Qde 0 ops with
 |true=>stK (S0h ((ops.take m).map (·.dst)) ids S) fun S0=>evM P tb cs ops ((ops.take m).map (·.dst)) S0 (ops.take m) 0 [] [] fun ancs R=>
   match QhM S0 ancs R&&(List.range m).all (fun j=>(List.range m).all fun i=>QdC (Qfi I j) i==ZX (nth ancs j) i)&&QAt cs pr ro (fun i j=>QdC (Qfi I i) j) S0 R (Zc S.blks ids) ops m with
   |true=>stK (St.addB (stOf S0 R fun _=>true) (hid cs pr ro (Zc S.blks ids) (fun _=>true) m)) fun J=>Qe9 P tb ops (ops.drop m) J fun S=>S.noGds K
   | false => Stuck "drawn region what is made is named too early"
 | false => Stuck "drawn region its end is not forced"
theorem QtA (hT:TOk P tb) (hmx:P.follows .mixedOrders=true) {id:Nat} {opsA:Array Oper} {S:St} {K:St->Prop} (cs:Nat->Option CS) (pr:Nat->List (Nat×Blk)) (ro:Nat->List Nat) (mks:List (List Bool)) (m:Nat) (ls ids:List Nat) (hml:m<=opsA.size)
  (hec:Qsn opsA.toList cs m=true) (hfa:QjT m ls opsA.toList) (hdc:Qks opsA.toList cs m=true) (hch:Qfv P cs pr ro (Zc S.blks ids) mks m)
  (hls:∀i∈ls,∃t s k,Light opsA i t s k∧∀j o,opsA[j]? =some o->j≠i->i∈Zo o.after.toList∨(∃oi,opsA[i]? =some oi∧j∈Zo oi.after.toList)∨Comm opsA t s o)
  (h:Qq5 P tb cs pr ro mks m ids opsA.toList S K):DrawP P id opsA S K:=by
 refine⟨fun B w0 F ρ a w hs=>?_⟩;unfold Qq5 at h;split at h
 case h_2=>exact h.no.elim
 rename_i hfe;rw[QhL] at h;obtain⟨A,R,h1,h2,_,_,h5,h6⟩:=QlV _ 0 _ _ _ rfl rfl h;split at h5
 case h_2=>exact h5.no.elim
 rename_i hchk;simp only[Y2] at hchk;obtain⟨⟨hchk,hmk⟩,hg⟩:=hchk;rw[QhL] at h5;generalize hT0:Zc S.blks ids=T0 at*;have hS0:S0h ((opsA.toList.take m).map (·.dst)) ids S=QqS ((opsA.toList.take m).map (·.dst)) ⟨S.base,S.nt,S.tmps,S.gds,Qc6 ids S.blks,S.frames⟩:=by
  obtain⟨base,nt,ts,gs,bs,fs⟩:=S;rfl
 rw[hS0] at h5 h6 hchk hg;have W:=QpA (by simpa using h2) (by simpa using hml) h6 hfe hchk;generalize hs0:QqS ((opsA.toList.take m).map (·.dst)) (⟨S.base,S.nt,S.tmps,S.gds,Qc6 ids S.blks,S.frames⟩:St)=S0 at*
 --what was checked
 have hmk:∀ {j i:Nat},j<m->i<m->(QdC (Qfi mks j) i=true↔i∈nth A j):=fun {j i} hj hi=>by
  have:=Ye.1 (Ye.1 hmk j (by simpa using hj)) i (by simpa using hi);rw[YD.1 this];exact ZN
 simp only[QAt,Y2] at hg;obtain⟨hv0,hone,hdst⟩:=hg;have hone:∀ {j:Nat},j<m->QiX (cs j)=true->QdZ S0 R (pr j)=true∧QdZ S0 R (Qdg cs j)=true∧(∀i,i<j->QiX (cs i)=true->i∈nth A j∨QnI cs pr ro i j=true)∧
   ∀id,hasB (Qdg cs j) id=true->hasB (pr j) id=false->QnH cs pr (fun i j=>QdC (Qfi mks i) j) S0 R T0 m j id=true:=fun {j} hj hf=>by
  have:=Ye.1 hone j (by simpa using hj);simp only[QBZ,hf,Y2] at this;obtain⟨k1,k2,k3,k4⟩:=this;refine⟨k1,k2,fun i hi hfi=>?_,fun id h1 h2=>?_⟩
  ·have:=Ye.1 k3 i (by simpa using hi);rw[hfi] at this;simp only[Yr] at this;exact this.imp (fun h=>(hmk hj (by omega)).1 h) fun h=>h
  ·have:=Ye.1 k4 id (by obtain⟨b,hb⟩:=Qfc h1;exact Qep (Zb hb));rw[h2,YJ] at this;exact this
 have hsym:∀ {i j:Nat},i<m->j<m->i≠j->QiX (cs i)=true->QiX (cs j)=true->i∈nth A j∨j∈nth A i∨QnI cs pr ro i j=true:=fun {i j} hi hj hne hfi hfj=>by
  rcases Nat.lt_or_gt_of_ne hne with hlt|hgt
  ·exact((hone hj hfj).2.2.1 i hlt hfi).imp (fun h=>h) fun h=>.inr h
  ·rcases(hone hi hfi).2.2.1 j hgt hfj with h|h
   ·exact .inr (.inl h)
   ·refine .inr (.inr ?_);simp only[QnI,Y2] at h|-;exact⟨h.2,h.1⟩
 have hidsR:∀ {j id:Nat},QjZ cs pr j id=true->id∈Qd7 (pr j)++Qd7 (Qdg cs j):=fun {j id} h=>by
  simp only[QjZ,Y2,Yr] at h;rcases h.2 with h|h
  ·exact Y0q _ (ZN.1 (by rw[Qc7];exact h))
  ·exact Y0k _ (ZN.1 (by rw[Qc7];exact h))
 have hapart:∀ {i j id:Nat},QnI cs pr ro i j=true->(Qpe cs pr ro i id=true->QjZ cs pr j id=false)∧(Qpe cs pr ro j id=true->QjZ cs pr i id=false):=fun {i j id} h=>by
  simp only[QnI,Y2] at h
  constructor
  ·intro hw;simp only[Qpe,Y2,YF] at hw;have:=Ye.1 h.1 id (hidsR hw.1);rw[hw.2,YJ] at this;simpa using this
  ·intro hw;simp only[Qpe,Y2,YF] at hw;have:=Ye.1 h.2 id (hidsR hw.1);rw[hw.2,YJ] at this;simpa using this
 have htEf:∀ {j id:Nat},QjZ cs pr j id=true->QiX (cs j)=true:=fun {j id} h=>by
  simp only[QjZ,Y2] at h;exact h.1
 have htWR:∀ {j id:Nat},Qpe cs pr ro j id=true->QjZ cs pr j id=true:=fun {j id} h=>by
  simp only[Qpe,Y2] at h;exact h.1
 have hidOk:∀E:Nat->Bool,QdZ S0 R (hid cs pr ro T0 E m)=true:=fun E=>by
  have a0:=Qil hv0;refine Qsp (fun i b hb=>?_) fun r hr p hp=>QF.2 fun q hq=>?_
  ·rcases Qmb hb with h|⟨k,hk,_,hf,h⟩
   ·exact a0.1 i b h
   ·exact(Qil (hone hk hf).2.1).1 i b h
  ·rcases Qmb hq with h|⟨k,hk,_,hf,h⟩
   ·exact QF.1 (a0.2 r hr p hp) q h
   ·exact QF.1 ((Qil (hone hk hf).2.1).2 r hr p hp) q h
 have hdrew:Pure w {w with drawn:=w.drawn+1}:=⟨rfl,rfl,rfl,Yh _,fun _ _=>rfl⟩;have hE0:(fun i=>(Array.replicate opsA.size false).getD i false)=fun _=>false:=by
  funext i;rw[Y7,Array.getElem?_replicate];split<;>rfl
 have hhid0:hid cs pr ro T0 (fun _=>false) m=T0:=by
  have key:∀n,hid cs pr ro T0 (fun _=>false) n=T0:=fun n=>by
   induction n with
   |zero=>rfl
   |succ n ih=>simp only[hid,Yv];exact ih
  exact key m
 have hst0:stOf (S0.addB T0) R (fun _=>false)=S0.addB T0:=by
  have hg:(S0.addB T0).gds=[]:=by rw[<-hs0];rfl
  generalize S0.addB T0=S1 at hg;obtain⟨base,nt,ts,gs,bs,fs⟩:=S1;dsimp only at hg;subst hg;obtain⟨g1,g2,g3⟩:=QjQ (E:=fun _=>false) (R:=R) (i0:=0) (fun _ _=>rfl);unfold stOf;rw[g1,g2,g3];rfl
 have hsim0:Sim P B w0 F ρ (stOf (S0.addB T0) R fun _=>false) a {w with drawn:=w.drawn+1}:=by
  rw[hst0,<-hs0,<-hT0];have:=hs.pure hdrew;obtain⟨base,nt,ts,gs,bs,fs⟩:=S;refine this.congr (fun t v hv=>Qhe hv) (fun g hg=>by simp at hg) (fun i b=>?_);show Qk (Qc6 ids bs++Zc bs ids) i=some b↔_;rw[Qj,Qci,Qi6];split<;>simp
 refine wp_mono (Q:=fun e a' w'=>∃ρ' S',Sim P B w0 F ρ' S' a' w'∧e=.normal∧S'.noGds K) (wp_region_any hmx ?_) (fun e a' w' h=>by
  obtain⟨ρ',S',g1,g2,g3⟩:=h;obtain⟨S'',g4,g5⟩:=QeG g1 g3;exact⟨ρ',S'',g4,g2,g5⟩)
 have hun:unl (Array.replicate opsA.size false)=opsA.size:=by
  simp[unl,List.countP_replicate]
 refine Qyl W hfa hfe (fun e a w ⟨_,S',_,h⟩=>h.1) (fun E a w=>∃ρ,Sim P B w0 F ρ (stOf (S0.addB (hid cs pr ro T0 E m)) R E) a w) hls ?_ ?_
  opsA.size (Array.replicate opsA.size false) (by simp) hun (fun i hi=>by rw[congrFun hE0 i] at hi;cases hi) (by rw[hE0];exact fun i _ hi=>by cases hi) a {w with drawn:=w.drawn+1}
  ⟨ρ,by rw[hE0,hhid0];exact hsim0⟩
 ·rintro E j o hc hj hjE ho hr a w ⟨ρ,h⟩ next hn;have hin:=W.ancIn hc hj ho hr
  by_cases hjf:QiX (cs j)=true
  ·obtain⟨v1,v2,_,v4⟩:=hone hj hjf;obtain⟨pk,pkr⟩:=Qq4 hch hj hjf
   --those that come later know nothing of what this one touches
   have later:∀ {i id:Nat},i<m->i≠j->E i=true->Qpe cs pr ro i id=true->QjZ cs pr j id=true->i<j∧i∈nth A j:=fun {i id} hi hne hEi hw hr'=>by
    rcases hsym hi hj hne (htEf (htWR hw)) hjf with h|h|h
    ·exact⟨W.ancLt (j+1) j (by omega) hj i h,h⟩
    ·have:=hc i hi hEi j h;rw[hjE] at this;cases this
    ·have:=(hapart (id:=id) h).1 hw;rw[hr'] at this;cases this
   have atj:∀ {id:Nat},QjZ cs pr j id=true->Qk (hid cs pr ro T0 E m) id=Qk (hid cs pr ro T0 (fun i=>QdC (Qfi mks j) i) j) id:=fun {id} ht=>by
    obtain⟨d,hd⟩:=Nat.exists_eq_add_of_le (Nat.le_of_lt hj);rw[hd,Qma fun i h1 h2 h3=>?_,Qi7 fun i h1 h2=>?_]
    ·rcases hsym (by omega) hj (by omega) (htEf (htWR h2)) hjf with h|h|h
     ·rw[hin i h,(hmk hj (by omega)).2 h]
     ·have:=W.ancLt (i+1) i (by omega) (by omega) j h;omega
     ·have:=(hapart (id:=id) h).1 h2;rw[ht] at this;cases this
    ·cases hw:Qpe cs pr ro i id
     ·rfl
     ·have hne:i≠j:=fun e=>by subst e;rw[hjE] at h3;cases h3
      have:=(later (by omega) hne h3 hw ht).1;omega
   have lookpr:∀ {id:Nat},hasB (pr j) id=true->Qk (hid cs pr ro T0 E m) id=Qk (pr j) id:=fun {id} hb=>by
    rw[atj (by simp only[QjZ,hjf,hb,Y08,Y1c])];have:=congrArg (fun T=>Qk T id) pk;simp only[Qi6,Qc7,hb,YE] at this;exact this
   have fresh:∀ {id:Nat},QnH cs pr (fun i j=>QdC (Qfi mks i) j) S0 R T0 m j id=true->S0.mentions id=false∧Q8 id (pr j)=false∧Q8 id (hid cs pr ro T0 E m)=false∧
     ∀i q,R[i]? =some q->i≠j->j∉nth A i->q.v.mentions id=false∧∀x∈q.nb,x.1≠id∧x.2.mentions id=false:=fun {id} hf=>by
    simp only[QnH,Y2,YF] at hf;obtain⟨f1,f2,f3,f4,f5⟩:=hf;have nb:∀ {i:Nat},i≠j->Nat.beq i j=false:=fun {i} h=>by
     cases hb:Nat.beq i j
     ·rfl
     ·exact absurd (Y9 hb) h
    refine⟨f1,f3,QF.2 fun p hp=>?_,fun i q hi hne hnot=>?_⟩
    ·rcases Qmb hp with h|⟨k,hk,hEk,hfk,h⟩
     ·exact QF.1 f2 p h
     ·have hne:k≠j:=fun e=>by subst e;rw[hjE] at hEk;cases hEk
      have hnm:QdC (Qfi mks k) j=false:=by
       cases hb:QdC (Qfi mks k) j
       ·rfl
       ·have:=hc k hk hEk j ((hmk hk hj).1 hb);rw[hjE] at this;cases this
      have:=Ye.1 f4 k (by simpa using hk);rw[nb hne,hnm,hfk] at this;simp only[Y0j,YJ,YF] at this;exact QF.1 this p h
    ·have hi':i<m:=by rw[<-W.hm];exact(Ya.1 hi).1
     have hnm:QdC (Qfi mks i) j=false:=by
      cases hb:QdC (Qfi mks i) j
      ·rfl
      ·exact absurd ((hmk hi' hj).1 hb) hnot
     have:=QaN f5 i q hi;rw[Yl,nb hne,hnm] at this;simp only[YJ,Y2,YF] at this;refine⟨this.1,fun x hx=>?_⟩;have:=Ye.1 this.2 x hx;simp only[Y2,YF] at this;exact⟨fun e=>by rw[e] at this;simp at this,this.2⟩
   have none_of:∀ {id:Nat} {T:List (Nat×Blk)},Q8 id T=false->Qk T id=none:=fun {id T} hm=>by
    cases hl:Qk T id with
    |none=>rfl
    |some b=>exact absurd rfl (QF.1 hm _ (Zb hl)).1
   have looknew:∀ {id:Nat},hasB (Qdg cs j) id=true->hasB (pr j) id=false->Qk (hid cs pr ro T0 E m) id=none:=fun {id} h1 h2=>none_of (fresh (v4 id h1 h2)).2.2.1
   --the others
   generalize hrest:Qc6 (Qd7 (pr j)++Qd7 (Qdg cs j)) (hid cs pr ro T0 E m)=rest;have lookrest:∀id,Qk rest id=if QjZ cs pr j id=true then none else Qk (hid cs pr ro T0 E m) id:=fun id=>by
    rw[<-hrest,Qci];have:ZX (Qd7 (pr j)++Qd7 (Qdg cs j)) id=QjZ cs pr j id:=by
     rw[YH,ZN];refine⟨fun h=>?_,hidsR⟩;simp only[QjZ,hjf,Yn,Yr];exact(Yx.1 h).imp (fun h=>by rw[<-Qc7];exact ZN.2 h) fun h=>by rw[<-Qc7];exact ZN.2 h
    rw[this]
   have memrest:∀p∈rest,p∈hid cs pr ro T0 E m:=fun p hp=>by rw[<-hrest] at hp;exact Qfu hp
   have hvr:=Qil (hidOk E);have hresT:∀r∈R,∀p∈r.nb,Q8 p.1 rest=false:=fun r hr p hp=>QF.2 fun q hq=>QF.1 (hvr.2 r hr p hp) q (memrest q hq);have W':=W.more hresT;have hadd:∀T,(S0.addB rest).addB T=S0.addB (rest++T):=fun T=>by
    obtain⟨base,nt,ts,gs,bs,fs⟩:=S0;simp only[St.addB,X5]
   have hblr:(S0.addB rest).blks=S0.blks++rest:=by obtain⟨base,nt,ts,gs,bs,fs⟩:=S0;rfl
   have vok:∀T,QdZ S0 R T=true->(∀i b,(i,b)∈T->QjZ cs pr j i=true)->QdZ (S0.addB rest) R T=true:=fun T hT ht=>by
    have k:=Qil hT;refine Qsp (fun i b hb=>?_) k.2;have h1:=k.1 i b hb;have h2:=lookrest i;rw[ht i b hb,Y4 rfl] at h2;unfold hasB at h1|-;rw[hblr,Qj,h2];simpa using h1
   have hvp:=vok _ v1 fun i b hb=>by
    have:=QpR (QdO hb).choose_spec;simp only[QjZ,hjf,this,Y08,Y1c]
   have hvq:=vok _ v2 fun i b hb=>by
    have:=QpR (QdO hb).choose_spec;simp only[QjZ,hjf,this,Y0r,Y1c]
   have e1:∀id,Qk (rest++pr j) id=Qk (hid cs pr ro T0 E m) id:=fun id=>by
    rw[Qj,lookrest]
    cases ht:QjZ cs pr j id
    ·simp only[Yw,Xi];have:hasB (pr j) id=false:=by
      simp only[QjZ,hjf,Yn,XH] at ht;exact ht.1
     rw[QgQ this];simp
    ·simp only[YE,XD]
     cases hp:hasB (pr j) id
     ·rw[QgQ hp];simp only[QjZ,hjf,Yn,hp,YJ] at ht;exact(looknew ht hp).symm
     ·exact(lookpr hp).symm
   have e2:∀id,Qk (rest++Qdg cs j) id=Qk (hid cs pr ro T0 (Qgh E j) m) id:=fun id=>by
    rw[Qj,lookrest];have hne:∀ {i:Nat},i≠j->Qgh E j i=E i:=fun {i} h=>by
     simp only[Qgh]
     cases hb:Nat.beq i j
     ·simp
     ·exact absurd (Y9 hb) h
    cases ht:QjZ cs pr j id
    ·simp only[Yw,Xi];have:hasB (Qdg cs j) id=false:=by
      simp only[QjZ,hjf,Yn,XH] at ht;exact ht.2
     rw[QgQ this,Option.or_none];refine Qi7 fun i hi hw=>?_
     by_cases e:i=j
     ·subst e;rw[htWR hw] at ht;cases ht
     ·rw[hne e]
    ·simp only[YE,XD]
     cases hw:Qpe cs pr ro j id
     ·have hro:ZX (ro j) id=true:=by
       simp only[Qpe,ht,Yn,Bool.not_eq_false'] at hw;exact hw
      have h1:Qk (hid cs pr ro T0 (Qgh E j) m) id=Qk (hid cs pr ro T0 E m) id:=Qi7 fun i hi hw'=>by
       by_cases e:i=j
       ·subst e;rw[hw'] at hw;cases hw
       ·rw[hne e]
      rw[h1];have h2:=congrArg (fun T=>Qk T id) pkr;simp only[Qi6,hro,YE] at h2;rw[h2]
      cases hp:hasB (pr j) id
      ·simp only[QjZ,hjf,Yn,hp,YJ] at ht;rw[QgQ hp,looknew ht hp]
      ·exact(lookpr hp).symm
     ·obtain⟨d,hd⟩:=Nat.exists_eq_add_of_le (show j+1<=m from hj);rw[hd,Qma fun i h1 h2 h3=>?_,QAR (by rw[QaY];exact .inr rfl) hw]
      cases hwi:Qpe cs pr ro i id
      ·rfl
      ·have hne':i≠j:=by omega
       rw[hne hne'] at h3;have:=(later (by omega) hne' h3 hwi ht).1;omega
   have hsim:Sim P B w0 F ρ (stOf ((S0.addB rest).addB (pr j)) R E) a w:=by
    rw[hadd,QdP];rw[QdP] at h;exact h.congr (fun _ _ h=>h) (fun _ h=>h) fun i b=>by rw[Qj,Qj S0.blks,e1,Qj (JH E 0 R),Qj S0.blks]
   have hnext:∀ρ' a' w',Sim P B w0 F ρ' (stOf ((S0.addB rest).addB (Qdg cs j)) R (Qgh E j)) a' w'->next a' w':=fun ρ' a' w' h'=>by
    refine hn a' w' ⟨ρ',?_⟩;rw[hadd,QdP] at h';rw[QdP];exact h'.congr (fun _ _ h=>h) (fun _ h=>h) fun i b=>by rw[Qj (JH (Qgh E j) 0 R),Qj S0.blks,<-e2,Qj (JH (Qgh E j) 0 R),Qj S0.blks]
   have hment:∀ {id:Nat},QnH cs pr (fun i j=>QdC (Qfi mks i) j) S0 R T0 m j id=true->(S0.addB rest).mentions id=false∧Q8 id (pr j)=false∧∀i q,R[i]? =some q->i≠j->j∉nth A i->q.v.mentions id=false∧∀x∈q.nb,x.1≠id∧x.2.mentions id=false:=fun {id} hf=>by
    obtain⟨f1,f2,f3,f4⟩:=fresh hf;refine⟨?_,f2,f4⟩;obtain⟨m1,m2,m3,m4⟩:=St.mentions_parts f1;obtain⟨base,nt,ts,gs,bs,fs⟩:=S0;refine St.mentions_mk m1 m2 (QF.2 fun p hp=>?_) m4;rcases Yx.1 hp with hp|hp
    ·exact QF.1 m3 p hp
    ·exact QF.1 f3 p (memrest p hp)
   have hcg:=Qj0 hch hj;rcases QuZ hjf with ⟨res,nb,post,p,q,hh⟩|⟨pre,res,post,hh⟩
   ·rw[hh] at hcg;obtain⟨hp,hq,_⟩:=hcg;have hpst:Qdg cs j=post:=by simp only[Qdg,hh]
    rw[hpst] at hvq hnext v4;refine QoC W' rfl hvp hvq hc hj hjE ho hh hp hq (fun id k1 k2=>?_) (Ql3 hdc hj ho (by rw[hh];rfl)) hr hsim hnext _ (Qu4 hec hj (by rw[hh];rfl) ho);obtain⟨f1,f2,f3⟩:=hment (v4 id k1 k2);have W2:=W'.more (Qil hvp).2;refine Qu2 W2 hc hjE ?_ f3;obtain⟨m1,m2,m3,m4⟩:=St.mentions_parts f1;generalize S0.addB rest=S9 at m1 m2 m3 m4;obtain⟨base,nt,ts,gs,bs,fs⟩:=S9;refine St.mentions_mk m1 m2 (QF.2 fun p hp=>?_) m4;rcases Yx.1 hp with hp|hp
    ·exact QF.1 m3 p hp
    ·exact QF.1 f2 p hp
   ·rw[hh] at hcg;obtain⟨rfl,_⟩:=hcg;have hpst:Qdg cs j=post:=by simp only[Qdg,hh]
    rw[hpst] at hvq hnext;refine QoD hT W' rfl hvp hvq hc hj hjE ho hh (fun t ht hhp=>?_) hr hsim hnext _;obtain⟨r,hr1,_,hrd,_⟩:=W.facts j o hj ho;have:=QaN hdst j r hr1;have hap:QgJ (cs j)=true:=by rw[hh];rfl
    rw[Yl,hap,ho,hrd,ht] at this;dsimp only at this;rw[hhp,YJ] at this;have hb:(S0.addB rest).base=S0.base:=by obtain⟨base,nt,ts,gs,bs,fs⟩:=S0;rfl
    rw[hb];exact hment this
  ·have hjf':QiX (cs j)=false:=by cases hx:QiX (cs j)<;>simp_all
   refine QpC hT (W.more (Qil (hidOk E)).2) rfl hc hj hjE ho hjf' (Ql3 hdc hj ho (Qsg hjf')) hr h (fun ρ' a' w' h'=>hn a' w' ⟨ρ',?_⟩) _;have:hid cs pr ro T0 (Qgh E j) m=hid cs pr ro T0 E m:=Qzj fun i hi hf=>by
    have:i≠j:=fun e=>hjf (e▸hf);rw[YH,QaY];simp[this]
   rw[this];exact h'
 ·rintro E a w hall ⟨ρ,h⟩;rw[Qnu (E':=fun _=>true) (fun i hi=>hall i (by rw[<-W.hm];exact hi)),Qzj (E':=fun _=>true) (fun i hi _=>hall i hi),Qkv] at h;refine QfO hT opsA (fun e S'=>e=.normal∧S'.noGds K) F _ (opsA.toList.drop m) (by simp) (fun i k hk=>?_) _ ρ a w h (by simpa using h5);rw[Ya] at hk;obtain⟨_,hk⟩:=hk;simp at hk;subst hk;simp
noncomputable def Qq6 (P:Program) (tb:Tb) (cs:Nat->Option CS) (pr:Nat->List (Nat×Blk)) (ro:Nat->List Nat) (m:Nat) (I:List (List Bool)) (ids:List Nat) (ops:List Oper) (S:St) (K:St->Prop):Prop:=
 stK (S0h ((ops.take m).map (·.dst)) ids S) fun S0=>Qy5 P tb cs ops S0 (ops.take m) I 0 [] fun R=>
   (Qfa S0 I R&&QAt cs pr ro (fun i j=>QdC (Qfi I i) j) S0 R (Zc S.blks ids) ops m)=true∧
   stK (St.addB (stM S0 R (List.replicate m true)) (hid cs pr ro (Zc S.blks ids) (fun _=>true) m)) fun J=>Qe9 P tb ops (ops.drop m) J fun S=>S.noGds K
theorem Qzk (hT:TOk P tb) (a7:P.follows .mixedOrders=true) {id:Nat} {I:Array Oper} {S:St} {K:St->Prop} (cs:Nat->Option CS) (pr:Nat->List (Nat×Blk)) (ro:Nat->List Nat) (m:Nat) (ls:List Nat) (J b4:List (List Bool)) (ids:List Nat) (b1:m<=I.size)
  (N:(Qsn I.toList cs m&&Qks I.toList cs m)=true) (a9:Qfv P cs pr ro (Zc S.blks ids) J m) (O:Qih m ls I.toList J b4=true) (h:Qq6 P tb cs pr ro m J ids I.toList S K):DrawP P id I S K:=by
 simp only[Qih,Y2] at O;have⟨⟨b3,b2,a6,he,a5⟩,hl,a8,hd⟩:=O;simp only[Y2] at N;refine QtA hT a7 cs pr ro J m ls ids b1 N.1 (QnA b3 b2 (Y9 a6)) N.2 a9 (fun i hi=>Qny (Ye.1 a5 i hi)) ?_;have hl:=Y9 hl;have⟨hs,hA⟩:=QjS (I.toList.take m) J [] [] 0 a8 rfl rfl (fun i k=>rfl);unfold Qq5;simp only[he];unfold Qq6 at h;rw[QhL] at h|-;have a2:(I.toList.take m).length=m:=by simp;omega
 have Y:∀i k,QdC (Qfi J i) k=ZX (nth (JL (I.toList.take m) []) i) k:=fun i k=>by
  have:=hA i k;rwa[YA,a2,Xz (by omega)] at this
 have a1:∀S0 R,Qfa S0 J R=Qi0 S0 (JL (I.toList.take m) []) R:=fun S0 R=>by
  simp only[Qfa,Qi0,Y]
 have b0:(List.range m).all (fun j=>(List.range m).all fun i=>QdC (Qfi J j) i==ZX (nth (JL (I.toList.take m) []) j) i)=true:=
  Ye.2 fun j _=>Ye.2 fun i _=>by rw[Y];simp
 have key:=QqW (P:=P) (tb:=tb) (cs:=cs) (ops:=I.toList) (dsts:=(I.toList.take m).map (·.dst)) (S0:=S0h ((I.toList.take m).map (·.dst)) ids S)
  (K:=fun A R=>match QhM (S0h ((I.toList.take m).map (·.dst)) ids S) A R&&(List.range m).all (fun j=>(List.range m).all fun i=>QdC (Qfi J j) i==ZX (nth A j) i)&&QAt cs pr ro (fun i j=>QdC (Qfi J i) j) (S0h ((I.toList.take m).map (·.dst)) ids S) R (Zc S.blks ids) I.toList m with
   |true=>stK (St.addB (stOf (S0h ((I.toList.take m).map (·.dst)) ids S) R fun _=>true) (hid cs pr ro (Zc S.blks ids) (fun _=>true) m)) fun S1=>Qe9 P tb I.toList (I.toList.drop m) S1 fun S=>S.noGds K
   | false => Stuck "drawn region what is made is named too early")
  (K':=fun R=>(Qfa (S0h ((I.toList.take m).map (·.dst)) ids S) J R&&QAt cs pr ro (fun i j=>QdC (Qfi J i) j) (S0h ((I.toList.take m).map (·.dst)) ids S) R (Zc S.blks ids) I.toList m)=true∧
   stK (St.addB (stM (S0h ((I.toList.take m).map (·.dst)) ids S) R (List.replicate m true)) (hid cs pr ro (Zc S.blks ids) (fun _=>true) m)) fun S1=>Qe9 P tb I.toList (I.toList.drop m) S1 fun S=>S.noGds K) (D:=(I.toList.take m).map (·.dst)) (I.toList.take m) J 0 [] [] hs rfl (by simp) (fun R' U=>by
    rw[a1,b0,YT,<-QpE U hd,QuI (E:=fun _=>true) fun i hi=>Qos ?_]
    ·cases (Qi0 (S0h ((I.toList.take m).map (·.dst)) ids S) (JL (I.toList.take m) []) R'&&QAt cs pr ro (fun i j=>QdC (Qfi J i) j) (S0h ((I.toList.take m).map (·.dst)) ids S) R' (Zc S.blks ids) I.toList m)
     ·exact propext ⟨fun h=>Bool.noConfusion h.1,fun h=>(Stuck.no h).elim⟩
     ·exact propext ⟨fun h=>h.2,fun h=>⟨rfl,h⟩⟩
    ·have:=congrArg List.length U;simp at this;omega)
 exact Eq.mp key h
theorem QtB {I:List (List Bool)}:Qfv P cs pr ro T0 I 0:=trivial
theorem Qq7 {I:List (List Bool)} (h:QiX (cs m)=false) (k:Qfv P cs pr ro T0 I m):Qfv P cs pr ro T0 I (m+1):=by
 refine⟨?_,k⟩;split
 ·rename_i h1;rw[h1] at h;cases h
 ·rename_i h1;rw[h1] at h;cases h
 ·trivial
theorem QtC {I:List (List Bool)} {pre post:List (Nat×Blk)} {res:V} (h:cs m=some (.app pre res post)) (h1:pre=pr m) (h2:Zc (hid cs pr ro T0 (fun i=>QdC (Qfi I m) i) m) (Qd7 (pr m))=pr m) (h3:Zc post (ro m)=Zc (pr m) (ro m))
  (k:Qfv P cs pr ro T0 I m):Qfv P cs pr ro T0 I (m+1):=by
 refine⟨?_,k⟩;rw[h];exact⟨h1,h2,h3⟩
theorem QtD {I:List (List Bool)} {res:V} {nb post:List (Nat×Blk)} {p:FuncId->List V->Prop} {q:Prop} (h:cs m=some (.eff res nb post p q)) (h1:∀g vs,p g vs->EffD P (pr m) g vs res nb post) (h2:q->LeB (pr m) post)
  (h3:Zc (hid cs pr ro T0 (fun i=>QdC (Qfi I m) i) m) (Qd7 (pr m))=pr m) (h4:Zc post (ro m)=Zc (pr m) (ro m)) (k:Qfv P cs pr ro T0 I m):Qfv P cs pr ro T0 I (m+1):=by
 refine⟨?_,k⟩;rw[h];exact⟨h1,h2,h3,h4⟩
end Go.Ab
namespace Go.Ab
open Go.RowKit
variable {P:Program} {tb:Tb} {w:World} {ow:Nat→Prop} {ρ:Env} {a:Act} {B:Bd} {w0:World} {F:List (Array Value)} {S:St}
def Qq8:List Nat->List V->St->(List V->St->Prop)->Prop
 |[],vs,S,K=>K vs S
 |id::r,vs,⟨base,nt,ts,gs,bs,fs⟩,K=>match Qy1 (Qk bs id) with
  |some row=>QaK (Qui id row vs) fun vs=>Qgf (QAq id row ts) fun ts=>Qgg (QAr id row gs) fun gs=>Qa5 (Quj id row bs) fun bs=>QiP (QAs id row fs) fun fs=>Qq8 r vs ⟨base,nt,ts,gs,bs,fs⟩ K
  | none => Stuck "freeze no such row"
theorem Zj {f:FuncId} {K:V->St->Prop}:∀(l:List Nat) {vs:List V} {S:St},Qq8 l vs S (fun vs S=>CallP P f vs S K)->CallP P f vs S K
 |[],_,_,h=>h
 |id::r,vs,⟨base,nt,ts,gs,bs,fs⟩,h=>by
  simp only[Qq8] at h;split at h
  ·rename_i row hb;rw[Za,Qb2,Qb3,Z4,QdK] at h;have h1:=Zj r h;refine⟨h1.can,fun B w0 F ρ a w vals hs hv=>?_⟩;have⟨N,O⟩:=hs.frz hb;refine h1.out B w0 F ρ a w vals N ⟨by rw[Qbu];exact hv.1,fun j v J=>?_⟩;rw[Qg7] at J;obtain⟨v',I,rfl⟩:=Yg.1 J;exact O _ _ (hv.2 j v' I)
  ·exact h.no.elim
def QtE:List Nat->St->(St->Prop)->Prop
 |[],S,K=>K S
 |id::r,⟨base,nt,ts,gs,bs,fs⟩,K=>match Qy1 (Qk bs id) with
  |some row=>Qgf (QAq id row ts) fun ts=>Qgg (QAr id row gs) fun gs=>Qa5 (Quj id row bs) fun bs=>QiP (QAs id row fs) fun fs=>QtE r ⟨base,nt,ts,gs,bs,fs⟩ K
  | none => Stuck "freeze no such row"
theorem Quo {id:Nat} {I:Array Oper} {K:St->Prop}:∀(l:List Nat) {S:St},QtE l S (fun S=>DrawP P id I S K)->DrawP P id I S K
 |[],_,h=>h
 |i::r,⟨base,nt,ts,gs,bs,fs⟩,h=>by
  simp only[QtE] at h;split at h
  ·rename_i row hb;rw[Qb2,Qb3,Z4,QdK] at h;have h1:=Quo r h;exact⟨fun B w0 F ρ a w hs=>h1.out B w0 F ρ a w (hs.frz hb).1⟩
  ·exact h.no.elim
theorem Qu5 {L:List (Nat×Blk)} (h:Sim P B w0 F ρ S a w) (N:∀i b,Qk L i=some b->∃c,Qk S.blks i=some c∧BLe c b):Sim P B w0 F ρ ⟨S.base,S.nt,S.tmps,S.gds,L,S.frames⟩ a w:=by
 have O:∀b,own L ρ b->own S.blks ρ b:=by
  rintro b ⟨i,k,hk,hp,rfl⟩;have⟨c,hc,_⟩:=N i k hk;exact⟨i,c,hc,hp,rfl⟩
 have keep:Keep w (ZM B S.blks ρ) w (ZM B L ρ):=⟨Yh _,fun b _ ho=>⟨rfl,fun h=>ho (h.imp (O b) fun h=>h)⟩⟩;refine⟨h.below,h.tab,h.hB,h.defers,h.nt,h.top.keep keep fun _ _=>rfl,fun id b U=>?_,fun i j x y hx hy=>?_,fun i x hx=>?_,h.frames.1,fun i f' tm a5 a1=>(h.frames.2 i f' tm a5 a1).keep keep fun _ _=>rfl⟩
 ·have⟨c,hc,I⟩:=N id b U;have:=I.out _ _ _ _ (h.blks id c hc);exact this.keep keep rfl (fun _=>rfl) fun _ _=>rfl
 ·have⟨Y,J,_⟩:=N i x hx;have⟨y',a2,_⟩:=N j y hy;exact h.sep i j Y y' J a2
 ·have⟨Y,J,I⟩:=N i x hx;rw[I.bx];exact h.ge i Y J
theorem Qzl {base nt:Nat} {ts:List (Nat×V)} {gs:List Gd} {blks:List (Nat×Blk)} {fs:List Fr} {al l:List (Nat×Bool)} {key:Nat} {want:Bool} {f:FuncId} {fn:Func} {args args':List V} {bs M:List (Nat×Blk)} {res:V} {K:V->St->Prop} {S0:St}
  (r : List (Nat × Nat)) (k : Nat) (U : P.funcs[f]? = some fn) (Y : (fn.name == "runtime.NumGoroutine") = false) (hb : fn.body.isNone = false) (h : QaL S0 al l (EffC P f args' bs res M))
  (O:CellsLe args (Qkt (Qbk r k) args')) (hi:inB blks (Qbk r k) bs) (I:Qc5 (Qbk r k) (Qd7 bs++Jj bs M)=true) (hm:(Jj bs M).all (fun j=>!(St.mentions ⟨base,nt,ts,gs,blks,fs⟩ (Qbk r k j)))=true)
  (hN:QeQ S0 key want (LeB blks (Ql8 (Qbk r k) bs M (QqB (Qbk r k) M blks bs) M)))
  (N:Qaq (res.ren (Qbk r k)) fun v=>Qa5 (Ql8 (Qbk r k) bs M (QqB (Qbk r k) M blks bs) M) fun bs=>K v ⟨base,nt,ts,gs,bs,fs⟩):
  CallG P (QaL S0 al l) (QeQ S0 key want) f args ⟨base,nt,ts,gs,blks,fs⟩ K:=by
 rw[QC,Z4] at N;have hi:=Qsm hi;have I:=Qhf I;have hm:∀j∈Jj bs M,St.mentions ⟨base,nt,ts,gs,blks,fs⟩ (Qbk r k j)=false:=fun j hj=>by simpa using Ye.1 hm j hj
 have mono:∀ {p q:Prop},(p->q)->QeQ S0 key want p->QeQ S0 key want q:=Qnk;refine⟨⟨fn,U,Y,hb⟩,_,_,N,Qdf (fun h B w0 F ρ a w vals hs hv=>?_) h,mono (fun J B w0 F ρ a w hs=>⟨ρ,Qu5 hs fun i b hb=>QgI J hb⟩) hN⟩;refine Calls.mono (QuU (Qbk r k) h hs hv O hi I hm _ QuV) ?_;rintro e w' ⟨v,ρ1,rfl,h1,h2⟩;exact⟨v,ρ1,rfl,h1,h2⟩
noncomputable def QoF (P:Program) (tb:Tb) (cs:Nat->Option CS) (m:Nat) (I:List (List Bool)) (ops:List Oper) (S:St) (K:St->Prop):Prop:=
 stK (QqS ((ops.take m).map (·.dst)) S) fun S0=>Qy5 P tb cs ops S0 (ops.take m) I 0 [] fun R=>
   Qfa S0 I R=true∧stK (stM S0 R (List.replicate m true)) fun J=>Qe9 P tb ops (ops.drop m) J fun S=>S.noGds K
theorem QtF {cs:Nat->Option CS} {m:Nat} {I:List (List Bool)} {ops:List Oper} {S:St} {K:St->Prop}:QoF P tb cs m I ops S K=Qor P tb cs m I ops S K:=by
 unfold QoF Qor
 congr 1;funext S0;congr 1;funext R
 cases Qfa S0 I R
 ·exact propext ⟨fun h=>Bool.noConfusion h.1,fun h=>(Stuck.no h).elim⟩
 ·exact propext ⟨fun h=>h.2,fun h=>⟨rfl,h⟩⟩
theorem QAS (hT:TOk P tb) (O:P.follows .mixedOrders=true) {id:Nat} {I:Array Oper} {S:St} {K:St->Prop} (cs:Nat->Option CS) (m:Nat) (ls:List Nat) (J N:List (List Bool)) (U:m<=I.size) (a1:(QqX cs m&&Qks I.toList cs m)=true)
  (Y:Qih m ls I.toList J N=true) (h:QoF P tb cs m J I.toList S K):DrawP P id I S K:=
 QAN hT O cs m ls J N U a1 Y (QtF▸h)
theorem Qw6 {pre post:List (Nat×Blk)} {f:FuncId} {args args':List V} {bs M:List (Nat×Blk)} {res I:V} (r:List (Nat×Nat)) (k:Nat) (h:EffC P f args' bs I M)
  (U:CellsLe args (Qkt (Qbk r k) args')) (hi:inB pre (Qbk r k) bs) (ha:Qc5 (Qbk r k) (Qd7 bs++Jj bs M)=true) (Y:I.ren (Qbk r k)=res)
  (J:Ql8 (Qbk r k) bs M [] M++QqB (Qbk r k) M pre bs=post) (O:(Qd7 (Ql8 (Qbk r k) bs M [] M)).all (fun i=>!hasB pre i)=true):EffD P pre f args res [] post:=by
 subst Y J;refine⟨h.can,_,_,_,_,Qbk r k,h,U,hi,ha,rfl,fun i b hb=>?_,fun j hj=>.inr ?_⟩
 ·rw[YA,Qj] at hb
  cases hl:Qk (Ql8 (Qbk r k) bs M [] M) i with
  |some b'=>
   rw[hl] at hb;simp at hb;subst hb;rcases Qft hl with h1|h1
   ·exact .inl h1
   ·simp[Qk] at h1
  |none=>
   rw[hl] at hb;simp at hb;rcases QgN hb with h1|⟨h1,h2⟩
   ·exact .inl h1
   ·exact .inr ⟨h1,fun j x N=>h2 j x (Zb N)⟩
 ·have:=Qi5 (g:=Qbk r k) (bs:=bs) (M:=M) (X:=[]) hj fun i x N=>QdO N;refine⟨?_,?_⟩
  ·have⟨b,hb⟩:=Qfc this;exact Qi3 (b:=b) (by rw[Qj,hb];rfl)
  ·have h2:=Ye.1 O (Qbk r k j) (by have⟨b,hb⟩:=Qfc this;exact Qep (Zb hb));simpa using h2
def QpS (nb:List Nb):List (Nat×Blk):=nb.map fun b=>(b.id,.arr b.t b.sz b.n b.row)
theorem Qi8:∀ {nb:List Nb} {i:Nat} {b:Blk},Qk (QpS nb) i=some b->∃x∈nb,x.id=i∧b=.arr x.t x.sz x.n x.row
 |x::r,i,b,h=>by
  simp only[QpS,YI] at h;rcases QY h with ⟨e,rfl⟩|⟨_,h⟩
  ·exact⟨x,by simp,e,rfl⟩
  ·have⟨y,h1,h2⟩:=Qi8 (nb:=r) h;exact⟨y,YM _ h1,h2⟩
 |[],_,_,h=>by simp[QpS,Qk] at h
theorem PureC.eff {f:FuncId} {args:List V} {res:V} {nb:List Nb} (h:PureC P f args res nb) (s1:res.within (hasB (QpS nb))=true) (s2:Qik (hasB (QpS nb)) (QpS nb)=true):EffC P f args [] res (QpS nb):=by
 refine⟨h.can,s1,s2,fun Z w vals ρ0 hv _ _ _ hlt ht=>?_⟩;refine Calls.mono (h.out w vals ρ0 ⟨hv.1,fun j v hj=>(hv.2 j v hj).mono fun b hb=>hb.elim⟩ (ht.mono fun _ h=>h.1)) ?_;rintro e w' ⟨v,ρ,rfl,N,g2,g3,g4,g5⟩;refine⟨v,ρ,rfl,⟨⟨N.os,N.tape,N.output,N.size,fun k hk=>N.old k hk.1⟩,fun i x I=>by simp[Qk] at I⟩,fun i x y I=>by simp[Qk] at I,g2.flat h.flat,fun i b hb=>?_,fun i j x y I U hp hq e=>?_,fun i x I hp=>?_⟩
 ·obtain⟨x,I,rfl,rfl⟩:=Qi8 hb;have:=BR.shiftFlat (k:=0) (ρ':=ρ) (w':=w') (ow':=fun x=>own (QpS nb) ρ x∨Z x) (g3 x I) (h.rows x I) rfl rfl;exact this
 ·obtain⟨O,J,rfl,_⟩:=Qi8 I;obtain⟨y',Y,rfl,_⟩:=Qi8 U;exact g4 O J y' Y hp hq e
 ·obtain⟨O,J,rfl,_⟩:=Qi8 I;exact⟨.inl (g5 O J hp),fun k ⟨j,y,U,_⟩=>by simp[Qk] at U⟩
end Go.Ab
namespace Go.Ab
open Go.RowKit Go.Sort
variable {P:Program} {α:Type} [Inhabited α]
theorem Qi9 {w:World} {b:Nat} {f:Array Value->Array Value} {C:Array Value} {et:TypeId} {I:Nat×Nat} (h:w.heap[b]? =some (.cells C et I)):(mapBlock w b f).heap[b]? =some (.cells (f C) et I):=by
 simp only[mapBlock,Y0l,YE,h,Xo,onCells]
theorem Qim {w:World} {b k:Nat} {f:Array Value->Array Value} (h:k≠b):(mapBlock w b f).heap[k]? =w.heap[k]?:=by
 simp[mapBlock,Y0l,YY h]
theorem QfX {w:World} {b:Nat} {f:Array Value->Array Value}:(mapBlock w b f).heap.size=w.heap.size:=by
 simp[mapBlock]
theorem QtG {w:World} {B:Nat->Prop} {e1:α->Value} {b o n:Nat} {d:Array α} {os:Array Obj} (hB:∀k,B k->k<w.heap.size∧k≠b):Kept B w (grow (putRow e1 (Sort.ahead w n) b o d) os):=by
 refine⟨rfl,rfl,rfl,?_,fun k I=>?_⟩
 ·simp[grow,putRow,QfX,ahead]
 ·have⟨h1,h2⟩:=hB k I;rw[heap_grow_old _ _ (by rw[putRow,QfX];exact h1)];exact Qim h2
theorem QfH {f : FuncId} {fn : Func} {c : Code} (J : P.funcs[f]? = some fn) (hb : fn.body = some c) (I : (fn.name == "runtime.NumGoroutine") = false) : Callable P f := ⟨fn, J, I, by simp [hb]⟩
end Go.Ab
namespace Go.Ab
open Go.Proofs Go.Shelf Go.RowKit Go.Sort
section
variable {α β:Type}
def QmI (lt:α->α->Bool) (out:List α) (v:α):List α:=out.takeWhile (fun x=>lt x v)++v::out.dropWhile fun x=>lt x v
def QaA (lt:α->α->Bool) (xs:List α):List α:=xs.foldl (QmI lt) []
theorem QpT (lt:α->α->Bool) (out:List α) (v:α):(QmI lt out v).Perm (v::out):=by
 unfold QmI;refine List.perm_middle.trans ?_;rw[Xu]
theorem Qja (lt:α->α->Bool):∀(xs out:List α),(xs.foldl (QmI lt) out).Perm (xs++out)
 |[],_=>List.Perm.refl _
 |v::r,out=>by
  refine(Qja lt r (QmI lt out v)).trans ?_;refine((QpT lt out v).append_left r).trans ?_;exact List.perm_middle
theorem JO (lt:α->α->Bool) (xs:List α):(QaA lt xs).Perm xs:=by
 have:=Qja lt xs [];simpa[QaA] using this
theorem Qu6 {lt:α->α->Bool} (I:SWO lt) (v:α):∀(out:List α),out.Pairwise (fun x y=>lt y x=false)->∀b∈out.dropWhile (fun x=>lt x v),lt b v=false
 |[],_,b,hb=>by simp at hb
 |a::r,hp,b,hb=>by
  rw[Y0b] at hb;rw[YB] at hp;split at hb
  ·exact Qu6 I v r hp.2 b hb
  ·rename_i h;have J:lt a v=false:=by simpa using h
   rcases Yi.1 hb with rfl|N
   ·exact J
   ·exact I.ntrans b a v (hp.1 b N) J
theorem Qu7 {lt:α->α->Bool} (v:α):∀out:List α,∀a∈out.takeWhile (fun x=>lt x v),lt a v=true
 |[],a,h=>by simp at h
 |b::r,a,h=>by
  rw[YV] at h;split at h
  ·rename_i h1;rcases Yi.1 h with rfl|I
   ·exact h1
   ·exact Qu7 v r a I
  ·simp at h
theorem Qq9 {lt:α->α->Bool} (I:SWO lt) {out:List α} (v:α) (h:out.Pairwise (fun x y=>lt y x=false)):(QmI lt out v).Pairwise (fun x y=>lt y x=false):=by
 unfold QmI;have J:=h;rw[<-Xu (p:=fun x=>lt x v) (l:=out),Y07] at J;have⟨h1,h2,h3⟩:=J;refine Y07.2 ⟨h1,YB.2 ⟨fun b hb=>Qu6 I v out h b hb,h2⟩,fun a N b hb=>?_⟩;rcases Yi.1 hb with rfl|hb
 ·exact I.asymmA (Qu7 _ out a N)
 ·exact h3 a N b hb
theorem QgR {lt:α->α->Bool} (I:SWO lt):∀(xs out:List α),out.Pairwise (fun x y=>lt y x=false)->(xs.foldl (QmI lt) out).Pairwise (fun x y=>lt y x=false)
 |[],_,h=>h
 |v::r,out,h=>QgR I r _ (Qq9 I v h)
theorem QdQ {lt:α->α->Bool} (I:SWO lt) (xs:List α):(QaA lt xs).Pairwise (fun x y=>lt y x=false):=QgR I xs [] .nil
theorem QeJ (lt:α->α->Bool) (xs:List α):(QaA lt xs).length=xs.length:=(JO lt xs).length_eq
def QlA:List Int->List Int->List Int
 |a::r,b::s=>(a-b)::QlA r s
 |_,_=>[]
def orI:List Int->Int
 |[]=>0
 |d::r=>if d=0 then orI r else d
def kLt (a b:List Int):Bool:=decide (orI (QlA a b)<0)
theorem Qin (b:List Int):kLt [] b=false:=by simp[kLt,QlA,orI]
theorem QbK (a b:Int) (r s:List Int):kLt (a::r) (b::s)=(decide (a<b)||(decide (a=b)&&kLt r s)):=by
 unfold kLt;simp only[QlA,orI]
 by_cases h:a=b
 ·subst h;simp
 ·have:a-b≠0:=by omega
  rw[Y3 this]
  by_cases h2:a<b
  ·simp[h2];omega
  ·simp[h2,h];omega
theorem Qj1:∀a,kLt a a=false
 |[]=>Qin _
 |a::r=>by rw[QbK];simp[Qj1 r]
theorem Qfw:∀ {a b c:List Int},a.length=b.length->b.length=c.length->kLt a b=true->kLt b c=true->kLt a c=true
 |[],b,c,_,_,h,_=>by rw[Qin] at h;cases h
 |a::r,[],c,h,_,_,_=>by simp at h
 |a::r,b::s,[],_,h,_,_=>by simp at h
 |a::r,b::s,c::t,h1,h2,h3,h4=>by
  rw[QbK] at h3 h4|-;simp only[Yr,Y6,Y2] at h3 h4|-;have I:=Qfw (a:=r) (b:=s) (c:=t) (by simpa using h1) (by simpa using h2);rcases h3 with h3|⟨rfl,h3⟩
  ·rcases h4 with h4|⟨rfl,h4⟩
   ·exact .inl (by omega)
   ·exact .inl h3
  ·rcases h4 with h4|⟨rfl,h4⟩
   ·exact .inl h4
   ·exact .inr ⟨rfl,I h3 h4⟩
theorem QeK:∀ {a b:List Int},a.length=b.length->kLt a b=false->kLt b a=false->a=b
 |[],[],_,_,_=>rfl
 |[],_::_,h,_,_=>by simp at h
 |_::_,[],h,_,_=>by simp at h
 |a::r,b::s,h,h1,h2=>by
  rw[QbK] at h1 h2;simp only[XH,Y0d,Bool.and_eq_false_iff] at h1 h2;have e:a=b:=by omega
  subst e;have I:=QeK (a:=r) (b:=s) (by simpa using h) (by rcases h1.2 with h|h;exact absurd rfl h;exact h) (by rcases h2.2 with h|h;exact absurd rfl h;exact h);rw[I]
theorem QgS {ks:α->List Int} {q:Nat} (J:∀x,(ks x).length=q):SWO (fun x y=>kLt (ks x) (ks y)) where
 irrefl x:=Qj1 _
 trans x y z h1 h2:=Qfw (by rw[J,J]) (by rw[J,J]) h1 h2
 ntrans x y z h1 h2:=by
  cases h:kLt (ks x) (ks z) with
  |false=>rfl
  |true=>
   have hl:∀a b,(ks a).length=(ks b).length:=fun a b=>by rw[J,J]
   cases h3:kLt (ks y) (ks x) with
   |true=>
    have:=Qfw (hl y x) (hl x z) h3 h;have I:kLt (ks y) (ks z)=false:=h2;rw[I] at this;cases this
   |false=>
    have e:=QeK (hl x y) h1 h3;rw[e] at h;have I:kLt (ks y) (ks z)=false:=h2;rw[I] at h;cases h
theorem Qu8 {xs ys:List β} {ks:β->List Int} {q:Nat} (I:∀x,(ks x).length=q) (N:∀x∈xs,∀y∈xs,ks x=ks y->x=y) (hp:ys.Perm xs) (hs:ys.Pairwise fun x y=>kLt (ks y) (ks x)=false):ys=QaA (fun x y=>kLt (ks x) (ks y)) xs:=by
 refine List.Perm.eq_of_pairwise (le:=fun x y=>kLt (ks y) (ks x)=false) ?_ hs (QdQ (QgS I) xs) (hp.trans (JO _ xs).symm);intro a b J hb h1 h2;exact N a (hp.mem_iff.1 J) b ((JO _ xs).mem_iff.1 hb) (QeK (by rw[I,I]) h2 h1)
theorem Qra (I:α->β) {zs:List α} {xs:List β} (U:zs.map I=xs) {ks:β->List Int} {q:Nat} (O:∀x,(ks x).length=q) (Y:∀x∈xs,∀y∈xs,ks x=ks y->x=y):
  (zs.mergeSort fun x y=>!(ltOf fun x y=>orI (QlA (ks (I x)) (ks (I y)))) y x).map I=QaA (fun x y=>kLt (ks x) (ks y)) xs:=by
 have hS:=QgS O;have J:SWO (fun x y=>kLt (ks (I x)) (ks (I y))):=QgS (ks:=fun x=>ks (I x)) fun x=>O _;have N:((zs.mergeSort fun x y=>!(ltOf fun x y=>orI (QlA (ks (I x)) (ks (I y)))) y x).map I).Perm xs:=by
  rw[<-U];exact(List.mergeSort_perm _ _).map I
 refine Qu8 O Y N ?_
 ·rw[Xc];have hm:=List.pairwise_mergeSort (le:=fun x y=>!(ltOf fun x y=>orI (QlA (ks (I x)) (ks (I y)))) y x) ?_ ?_ zs
  ·refine hm.imp fun {a b} h=>?_;have h:(!kLt (ks (I b)) (ks (I a)))=true:=h;simpa using h
  ·intro a b c h1 h2;have h1:(!kLt (ks (I b)) (ks (I a)))=true:=h1;have h2:(!kLt (ks (I c)) (ks (I b)))=true:=h2;show(!kLt (ks (I c)) (ks (I a)))=true;simp only[YF] at h1 h2|-;exact J.ntrans c b a h2 h1
  ·intro a b;show((!kLt (ks (I b)) (ks (I a)))||(!kLt (ks (I a)) (ks (I b))))=true
   cases h:kLt (ks (I b)) (ks (I a)) with
   |false=>simp
   |true=>
    have:=J.asymmA (x:=b) (y:=a) h;have this:kLt (ks (I a)) (ks (I b))=false:=this;simp[this]
end
variable {P:Program}
theorem Qw7 {w:World} {ow:Nat->Prop} {ρ:Env} {u v:V} {vals:Array Value} (h:Qhq w ow ρ [u,v] vals):∃x y,vals=#[x,y]∧VR w ow ρ u x∧VR w ow ρ v y:=by
 have⟨h1,h2⟩:=h;have h1:vals.size=2:=h1;refine⟨vals.getD 0 undef,vals.getD 1 undef,?_,h2 0 u rfl,h2 1 v rfl⟩
 apply Y1d
 ·simp[h1]
 ·intro i hi _;rcases i with _|_|i
  ·simp[Y7,hi]
  ·simp[Y7,hi]
  ·omega
theorem fn0 {w:World} {ow:Nat->Prop} {ρ:Env} {g:FuncId} {v:Value} (h:VR w ow ρ (.fn g []) v):v=.func (.func g) #[] #[]:=by
 cases h with
 |fn hs hv=>
  rename_i cs;have:cs=#[]:=Array.eq_empty_of_size_eq_zero (by simpa using hs);rw[this]
theorem Qrb {n k i j:Nat} (hi:i<n) (hj:j<k):i*k+j<n*k:=by
 have:=Yf k (show i+1<=n from hi);rw[Yk,Y0p] at this;omega
theorem Qrc {w:World} {ow:Nat->Prop} {ρ:Env} {id:Nat} {t:TypeId} {k n:Nat} {row:Nat->List D} (hb:BR w ow ρ id (.arr t k n row)) (hp:(ρ id).ph=false):
  ∃F:Array Value,F.size=n*k∧Holds (fun v:Value=>v) w (ρ id).b (ρ id).o F∧(ρ id).b<w.heap.size∧(∀i j d,i<n->(row i)[j]? =some d->DR w ow d F[i*k+j]!)∧∀i,i<n->(row i).length=k:=by
 cases hb with
 |arr0 h=>rw[hp] at h;cases h
 |arr C et h1 h2 h3 h4 h5 h6 h7 O=>
  have U:n<=(ρ id).cap:=by omega
  have hle:(ρ id).o+n*k<=C.size:=by
   have:=Yf k U;omega
  have N:∀j,j<n*k->(C.extract (ρ id).o ((ρ id).o+n*k))[j]! =C.getD ((ρ id).o+j) undef:=fun j I=>by
   have h1:(ρ id).o+j<C.size:=by omega
   have h2:j<(C.extract (ρ id).o ((ρ id).o+n*k)).size:=by simp;omega
   rw[Y10 _ j h2,Array.getElem_extract];simp[Y7,h1]
  refine⟨C.extract (ρ id).o ((ρ id).o+n*k),by simp;omega,fun j I=>?_,(Ys.1 h6).1,fun i j d hi J=>?_,h5⟩
  ·have I:j<n*k:=by simp at I;omega
   refine⟨?_,frozen_of_row w _ _ C et h6⟩;rw[N j I,Qbr h6 (by omega)]
  ·have I:j<k:=by
    have:=(Ya.1 J).1;rw[h5 i hi] at this;exact this
   rw[N _ (Qrb hi I),<-Xk];exact O i j d hi J
theorem Qzm {w:World} {ow ow':Nat->Prop} {ρ ρ':Env} {id O:Nat} {t:TypeId} {k n m:Nat} {row I:Nat->List D} {F:Array Value} {os:Array Obj} (hb:BR w ow ρ id (.arr t k n row)) (hp:(ρ id).ph=false) (hF:F.size=n*k) (J:∀i,i<n->(I i).length=k) (N:ρ' O=ρ id)
  (hd:∀i j d,i<n->(I i)[j]? =some d->DR (grow (putRow (fun v:Value=>v) (Sort.ahead w m) (ρ id).b (ρ id).o F) os) ow' d F[i*k+j]!):
  BR (grow (putRow (fun v:Value=>v) (Sort.ahead w m) (ρ id).b (ρ id).o F) os) ow' ρ' O (.arr t k n I):=by
 cases hb with
 |arr0 h=>rw[hp] at h;cases h
 |arr C et h1 h2 h3 h4 h5 h6 h7 h8=>
  have Y:(ρ id).b<w.heap.size:=(Ys.1 h6).1;have hh:(grow (putRow (fun v:Value=>v) (Sort.ahead w m) (ρ id).b (ρ id).o F) os).heap[(ρ id).b]? =some (.cells (putCells (fun v:Value=>v) (ρ id).o F C) et (0,0)):=by
   rw[heap_grow_old _ _ (by rw[putRow,QfX];exact Y)];exact Qi9 h6
  have hs:(putCells (fun v:Value=>v) (ρ id).o F C).size=C.size:=by simp[putCells]
  have hle:(ρ id).o+n*k<=C.size:=by
   have:=Yf k h4;omega
  refine .arr (putCells (fun v:Value=>v) (ρ id).o F C) et (by rw[N];exact hp) (by rw[N];exact h2) (by rw[N];exact h3) (by rw[N];exact h4) J (by rw[N];exact hh) (by rw[N,hs];exact h7) fun i j d hi U=>?_;have hj:j<k:=by
   have:=(Ya.1 U).1;rw[J i hi] at this;exact this
  have hfl:=Qrb hi hj;rw[N];have:(putCells (fun v:Value=>v) (ρ id).o F C).getD ((ρ id).o+i*k+j) undef=F[i*k+j]!:=by
   rw[Y7,putCells,Array.getElem?_mapIdx,X8 (by omega)];simp only[Xo,YU];rw[Y4 ⟨by omega,by omega⟩,show(ρ id).o+i*k+j-(ρ id).o=i*k+j by omega]
  rw[this];exact hd i j d hi U
theorem Qu9 {f g:FuncId} {t:TypeId} {k n:Nat} {row I:Nat->List D} (can:Callable P f) (a7:∀i,i<n->(I i).length=k)
  (hc:∀(ow:Nat->Prop) blk off cap w (F:Array Value),F.size=n*k->Holds (fun v:Value=>v) w blk off F->blk<w.heap.size->ow blk->0<n->(∀i j d,i<n->(row i)[j]? =some d->DR w ow d F[i*k+j]!)->(∀i,i<n->(row i).length=k)->TabB P (fun b=>b<w.heap.size∧b≠blk) w->
   Calls P f #[.slice (some ⟨blk,off,none⟩) n cap,.func (.func g) #[] #[]] w fun e w'=>e=.returned (.tuple #[])∧∃m os F',F'.size=n*k∧w'=grow (putRow (fun v:Value=>v) (Sort.ahead w m) blk off F') os∧∀i j d,i<n->(I i)[j]? =some d->DR w ow d F'[i*k+j]!)
  (h0:n=0->∀p cap w,Calls P f #[.slice p 0 cap,.func (.func g) #[] #[]] w fun e w'=>e=.returned (.tuple #[])∧w'=w):
  EffC P f [.osl 9000 0 n,.fn g []] [(9000,.arr t k n row)] (.tup []) [(9000,.arr t k n I)]:=by
 refine⟨can,rfl,rfl,fun Z w vals ρ0 hv a2 hsep hZ hlt a1=>?_⟩;obtain⟨v,u,rfl,b3,b2⟩:=Qw7 hv;have hu:=fn0 b2;subst hu;have hb:=a2 9000 _ rfl;have N:∀ {i:Nat} {x:Blk} {r:Nat->List D},Qk [(9000,Blk.arr t k n r)] i=some x->i=9000∧x=.arr t k n r:=fun {i x r} h=>by
  simp only[Qk] at h;split at h
  ·rename_i hq;exact⟨(Y9 hq).symm,(YC h).symm⟩
  ·cases h
 have O:∀(i j:Nat) (x y:Blk),Qk [(9000,Blk.arr t k n I)] i=some x->Qk [(9000,Blk.arr t k n I)] j=some y->(ρ0 i).ph=false->(ρ0 j).ph=false->(ρ0 i).b=(ρ0 j).b->i=j:=fun i j x y J hy _ _ _=>(N J).1.trans (N hy).1.symm;obtain⟨ad,c,rfl,h1,h2⟩:=b3.osl_inv;have a5:∀b,own [(9000,Blk.arr t k n I)] ρ0 b↔own [(9000,Blk.arr t k n row)] ρ0 b:=fun b=>
  ⟨fun⟨i,x,hk,hp,hb⟩=>by obtain⟨rfl,_⟩:=N hk;exact⟨9000,_,rfl,hp,hb⟩,fun⟨i,x,hk,hp,hb⟩=>by obtain⟨rfl,_⟩:=N hk;exact⟨9000,_,rfl,hp,hb⟩⟩
 by_cases hn:n=0
 ·have a8:Calls P f #[.slice ad n c,.func (.func g) #[] #[]] w fun e w'=>e=.returned (.tuple #[])∧w'=w:=by
   have:=h0 hn ad c w;rw[hn];exact this
  refine Calls.mono a8 ?_;rintro e w' ⟨rfl,rfl⟩;refine⟨_,ρ0,rfl,Qi4 (fun i x J=>by rw[(N J).2];rfl) (Kept.refl _ _),fun i x y _ _=>.inl rfl,.tup rfl (by simp),?_,O,fun i x J hp=>⟨.inr ?_,fun k hc=>(Qk9 (fun i x J=>by rw[(N J).2];rfl) hc).elim⟩⟩
  ·intro i b Y;obtain⟨rfl,rfl⟩:=N Y
   cases hb with
   |arr0 h1 h2 h3 h4=>exact .arr0 h1 h2 h3 h4
   |arr C et h1 h2 h3 h4 h5 h6 h7 h8=>exact .arr C et h1 h2 h3 h4 (fun i hi=>by omega) h6 h7 fun i j d hi=>by omega
  ·obtain⟨rfl,rfl⟩:=N J;exact⟨9000,_,rfl,hp,rfl⟩
 ·rcases h2 with ⟨h2,_⟩|⟨hp,h3,rfl,rfl⟩
  ·exact absurd h2 hn
  have⟨F,hF,hH,a6,hD,b0⟩:=Qrc hb hp;have U:own [(9000,Blk.arr t k n row)] ρ0 (ρ0 9000).b:=⟨9000,_,rfl,hp,rfl⟩;have eo:(ρ0 9000).o+0*(ρ0 9000).sz=(ρ0 9000).o:=by omega
  rw[eo];refine Calls.mono (hc (fun x=>own [(9000,Blk.arr t k n row)] ρ0 x∨Z x) _ _ _ w F hF hH a6 (.inl U) (by omega) hD b0 (a1.mono fun b hb=>⟨hb.1,fun e=>hb.2 (e▸U)⟩)) ?_;rintro e w' ⟨rfl,m,os,F',b1,rfl,a9⟩;have kept:=QtG (w:=w) (B:=fun b=>b<w.heap.size∧¬own [(9000,Blk.arr t k n row)] ρ0 b) (e1:=fun v:Value=>v) (b:=(ρ0 9000).b) (o:=(ρ0 9000).o) (n:=m) (d:=F') (os:=os) fun k hk=>⟨hk.1,fun e=>hk.2 (e▸U)⟩;refine⟨_,ρ0,rfl,Qi4 (fun i x J=>by rw[(N J).2];rfl) kept,fun i x y _ _=>.inl rfl,.tup rfl (by simp),?_,O,fun i x J hp=>⟨.inr ?_,fun k hc=>(Qk9 (fun i x J=>by rw[(N J).2];rfl) hc).elim⟩⟩
  ·intro i b Y;obtain⟨rfl,rfl⟩:=N Y;exact Qzm hb hp b1 a7 rfl fun i j d hi hd=>(a9 i j d hi hd).keep ⟨kept.size,fun b hb ho=>⟨kept.block b ⟨hb,fun h=>ho (.inl h)⟩,fun h=>ho (h.imp (a5 b).1 fun h=>h)⟩⟩
  ·obtain⟨rfl,rfl⟩:=N J;exact U
theorem QtH {ρ:Ren} {T:Type} [Inhabited T] {f g:FuncId} {t:TypeId} {k q:Nat} {xs:List T} {row:T->List D} {cells:T->List Value} {ks:T->List Int} (L:SlLaysF0.n6 P ρ) (hf:ρ.f 6=f)
  (aE:∀w,(isAgg (ρ.t 24)).run P w=.ok true w) (zE:∀w,(Go.sizeOf (ρ.t 24)).run P w=.ok k w)
  (O:∀(x:T) (j:Nat) (d:D),(row x)[j]? =some d->∃v,(cells x)[j]? =some v∧∀w ow u,DR w ow d u↔u=v) (hk:∀x,(cells x).length=k) (hr:∀x,(row x).length=k) (h1:∀x,∀v∈cells x,v.oneCell'=true) (hq:∀x,(ks x).length=q)
  (can:Callable P f) (eg:∀args w,(callFunc g args).run P w=.ok (.enter g args) w) (hT:∀x∈xs,∀y∈xs,ks x=ks y->x=y) (a9:xs.length<4611686018427387904)
  (a5:∀x∈xs,∀y∈xs,∀W,Calls P g #[.agg (cells x).toArray,.agg (cells y).toArray] W fun e w'=>e=.returned (.int .i64 (orI (QlA (ks x) (ks y))))∧∃m os,w'=grow (W.drewN m) os):
  EffC P f [.osl 9000 0 xs.length,.fn g []] [(9000,.arr t k xs.length (rows row xs))] (.tup []) [(9000,.arr t k xs.length (rows row (QaA (fun x y=>kLt (ks x) (ks y)) xs)))]:=by
 subst hf;refine Qu9 can (fun i hi=>hr _) (fun ow blk off cap w F hF hH hb ho hn hd hl ht=>?_) fun hn p cap w=>AnyF.slices_SortFunc_none L p cap _ w;have hne:xs≠ []:=fun e=>by rw[e] at hn;simp at hn
 let α:={x:T//x∈xs}
 haveI:Inhabited α:=⟨⟨xs.getD 0 default,by
  rw[Y0,Y5 hn];exact Xj _⟩⟩
 let enc:α->List Value:=fun x=>cells x.1
 let Y:α->α->Int:=fun x y=>orI (QlA (ks x.1) (ks y.1))
 have I:xs.attach.toArray.size=xs.length:=by simp
 have N:∀ {zs:List α} {ys:List T},zs.map Subtype.val=ys->ys.length=xs.length->∀i j v,i<xs.length->j<k->(cells (ys.getD i default))[j]? =some v->(flatK enc k zs.toArray)[i*k+j]! =v:=fun {zs ys} hz hy i j v hi hj hv=>by
  have b0:zs.length=xs.length:=by rw[<-hy,<-hz];simp
  have U:0<k:=by omega
  have a2:i<zs.length:=by omega
  rw[get_flatK _ _ _ _ (by simpa[b0] using Qrb hi hj)];have e1:(i*k+j)/k=i:=by
   rw[Xm,Nat.mul_add_div U,Nat.div_eq_of_lt hj,X3]
  have e2:(i*k+j)%k=j:=by
   rw[Xm,Nat.mul_add_mod,Y0t hj]
  rw[e1,e2];have e3:(zs.toArray[i]!).1=ys.getD i default:=by
   rw[Y10 _ i (by simpa using a2),Y0,<-hz,Yu];simp[a2]
  show(cells (zs.toArray[i]!).1)[j]! =v;rw[e3,List.getElem!_eq_getElem?_getD,hv]
  rfl
 have b1:F=flatK enc k xs.attach.toArray:=by
  apply Y1d
  ·rw[size_flatK,I,hF]
  ·intro z a1 b2;have hz:z<xs.length*k:=by rw[<-hF];exact a1
   have U:0<k:=by
    rcases Xn k with h|h
    ·subst h;simp at hz
    ·exact h
   have hi:z/k<xs.length:=Y05 (by rw[Xm];exact hz);have hj:z%k<k:=Y18 _ U;have ez:z/k*k+z%k=z:=by rw[Xm];exact Nat.div_add_mod z k
   obtain⟨d,J⟩:∃d,(rows row xs (z/k))[z%k]? =some d:=⟨_,Y5 (by rw[hl _ hi];exact hj)⟩;have⟨v,hv,hu⟩:=O _ _ _ J;have h1:=(hu _ _ _).1 (hd _ _ d hi J);have h2:=N (zs:=xs.attach) (ys:=xs) (by simp) rfl _ _ v hi hj hv;rw[ez] at h1 h2;rw[Y10 F z a1] at h1;rw[Y10 _ z b2] at h2;rw[h1,h2]
 have a7:HoldsK enc k w blk off xs.attach.toArray:=by
  unfold HoldsK;rw[<-b1];exact hH
 have b3:∀x y:α,(ltOf Y) x y=false->(ltOf Y) y x=false->x=y:=fun x y h1 h2=>Subtype.ext (hT _ x.2 _ y.2 (QeK (by rw[hq,hq]) h1 h2));have hO:SWO (ltOf Y):=QgS (ks:=fun x:α=>ks x.1) fun x=>hq _;have key:=AnyQ.slices_SortFunc_total L k aE zE enc (fun x=>hk _) (fun x=>h1 _) Y hO g #[] blk off cap xs.attach.toArray w eg (fun m os dk _ x y=>a5 x.1 x.2 y.1 y.2 _) a7 hb (by rw[I];exact a9) b3;rw[I] at key;refine key.mono ?_;rintro e w' ⟨rfl,m,os,rfl⟩;have hu:=Qra (Subtype.val:α->T) (zs:=xs.attach) (xs:=xs) (by simp) hq hT;have a6:(xs.attach.mergeSort fun x y=>!(ltOf Y) y x).toArray.size=xs.length:=by
  rw[X6,List.length_mergeSort];exact List.length_attach
 refine⟨rfl,m,os,flatK enc k (xs.attach.mergeSort fun x y=>!(ltOf Y) y x).toArray,by rw[size_flatK,a6],rfl,fun i j d hi J=>?_⟩;have⟨v,hv,a8⟩:=O _ _ _ J;refine(a8 _ _ _).2 (N hu (QeJ _ _) i j v hi ?_ hv);have:=(Ya.1 J).1;rw[hr] at this;exact this
theorem Qg4 {ρ:Ren} {T:Type} [Inhabited T] {f g:FuncId} {t:TypeId} {k q:Nat} {xs:List T} {row:T->List D} {fs ks:T->List Int} (L:SlLaysF0.n6 P ρ) (hf:ρ.f 6=f)
  (aE:∀w,(isAgg (ρ.t 24)).run P w=.ok true w) (zE:∀w,(Go.sizeOf (ρ.t 24)).run P w=.ok k w) (I:∀x,row x=(fs x).map (D.int .i64)) (O:∀x,(fs x).length=k) (U:∀x,(ks x).length=q)
  (can:Callable P f) (eg:∀args w,(callFunc g args).run P w=.ok (.enter g args) w) (Y:∀x∈xs,∀y∈xs,ks x=ks y->x=y) (N:xs.length<4611686018427387904)
  (J:∀x∈xs,∀y∈xs,∀W,Calls P g #[.agg ((fs x).map (Value.int .i64)).toArray,.agg ((fs y).map (Value.int .i64)).toArray] W fun e w'=>e=.returned (.int .i64 (orI (QlA (ks x) (ks y))))∧∃m os,w'=grow (W.drewN m) os):
  EffC P f [.osl 9000 0 xs.length,.fn g []] [(9000,.arr t k xs.length (rows row xs))] (.tup []) [(9000,.arr t k xs.length (rows row (QaA (fun x y=>kLt (ks x) (ks y)) xs)))]:=by
 refine QtH (cells:=fun x=>(fs x).map (Value.int .i64)) L hf aE zE (fun x j d h=>?_) (fun x=>by simp[O]) (fun x=>by simp[I,O]) (fun x v hv=>?_) U can eg Y N J
 ·rw[I,Yu] at h
  cases e:(fs x)[j]? with
  |none=>rw[e] at h;cases h
  |some n=>
   rw[e] at h
   cases h
   refine⟨.int .i64 n,by rw[Yu,e];rfl,fun w ow u=>⟨fun h=>by cases h;rfl,fun h=>h▸ .int⟩⟩
 ·obtain⟨n,_,rfl⟩:=Yo.1 hv
  rfl
end Go.Ab
namespace Go.Ab
def Qaz (n:Nat) (p:Nat->Bool):Bool:=(List.range n).all p
theorem Qjy {n i:Nat} {p:Nat->Bool} (h:i<n) (hp:p i=false):Qaz n p=false:=by
 unfold Qaz;rw[List.all_eq_false];exact⟨i,Y0n.2 h,by simp[hp]⟩
theorem Qjb {n i:Nat} {p:Nat->Bool} (h:Qaz n p=true) (hi:i<n):p i=true:=Ye.1 h i (Y0n.2 hi)
theorem Qck {n:Nat} {p:Nat->Bool} (h:∀i,i<n->p i=true):Qaz n p=true:=Ye.2 fun i hi=>h i (Y0n.1 hi)
theorem QdE {n:Nat} {p:Nat->Bool}:Qaz n p=true↔ ∀i,i<n->p i=true:=⟨fun h _ hi=>Qjb h hi,Qck⟩
theorem Qf {n i:Nat} (h:i<n) (hn:n<=9223372036854775807):IntKind.i64.wrap ((i:Int)+1)=((i+1:Nat):Int):=by
 rw[Ql (by omega) (by omega)];simp
theorem Qa0 {n i:Nat} (h:i<n) (h0:0<i) (hn:n<=9223372036854775807):IntKind.i64.wrap ((i:Int) -1)=((i-1:Nat):Int):=by
 rw[Ql (by omega) (by omega)];omega
theorem QbN {β:Type} {step:Int->Option (Int⊕β)} (n:Nat) (p:Nat->Bool) (e d:β) (h1:∀i:Nat,i<n->(∀k,k<i->p k=true)->step i=some (if p i=true then .inl ((i+1:Nat):Int) else .inr e)) (h2:(∀k,k<n->p k=true)->step n=some (.inr d)):
  lp step 0=some (if Qaz n p=true then d else e):=by
 have key:∀k i:Nat,i+k=n->(∀j,j<i->p j=true)->lp step (i:Int)=some (if Qaz n p=true then d else e):=by
  intro k
  induction k with
  |zero=>
   intro i hi hp;have:i=n:=by omega
   subst this;rw[Zr (h2 hp),Y4 (Qck hp)]
  |succ k N=>
   intro i hi hp;have hs:=h1 i (by omega) hp
   by_cases I:p i=true
   ·rw[Y4 I] at hs;rw[Ji hs];exact N (i+1) (by omega) fun j J=>by
     rcases YW j i with h|h
     ·exact hp j h
     ·have:j=i:=by omega
      subst this;exact I
   ·rw[Y3 I] at hs;rw[Zr hs,Y3];intro h;exact I (Qjb h (by omega))
 exact key n 0 (by omega) fun j J=>by omega
def Qgn {β:Type} (f:Nat->Option β):Nat->Nat->Option β
 |_,0=>none
 |i,k+1=>match f i with
  |some b=>some b
  |none=>Qgn f (i+1) k
theorem Qva {β:Type} {step:Int->Option (Int⊕β)} (n:Nat) (f:Nat->Option β) (d:β) (h1:∀i:Nat,i<n->step i=some (match f i with|some b=>.inr b|none=>.inl ((i+1:Nat):Int))) (h2:step n=some (.inr d)):
  lp step 0=some ((Qgn f 0 n).getD d):=by
 have key:∀k i:Nat,i+k=n->lp step (i:Int)=some ((Qgn f i k).getD d):=by
  intro k
  induction k with
  |zero=>
   intro i hi;have:i=n:=by omega
   subst this;rw[Zr h2];rfl
  |succ k J=>
   intro i hi;have hs:=h1 i (by omega);unfold Qgn
   cases I:f i with
   |some b=>rw[I] at hs;rw[Zr hs];rfl
   |none=>rw[I] at hs;rw[Ji hs];exact J (i+1) (by omega)
 exact key n 0 (by omega)
def Zi (p:Nat->Bool) (n:Nat):Option Nat:=Qgn (fun i=>if p i=true then some i else none) 0 n
theorem QpU {β:Type} {p:Nat->Bool} {h:Nat->β}:∀(k i:Nat),Qgn (fun i=>if p i=true then some (h i) else none) i k=(Qgn (fun i=>if p i=true then some i else none) i k).map h
 |0,_=>rfl
 |k+1,i=>by
  unfold Qgn
  cases hp:p i
  ·simp only[Yw,Xi];exact QpU k (i+1)
  ·simp only[YE,Xo]
theorem Z8 {β:Type} {step:Int->Option (Int⊕β)} (n:Nat) (p:Nat->Bool) (h:Nat->β) (d:β) (h1:∀i:Nat,i<n->step i=some (if p i=true then .inr (h i) else .inl ((i+1:Nat):Int))) (h2:step n=some (.inr d)):
  lp step 0=some (((Zi p n).map h).getD d):=by
 rw[Qva n (fun i=>if p i=true then some (h i) else none) d (fun i hi=>by rw[h1 i hi];cases p i<;>rfl) h2,QpU]
 rfl
theorem Z5 {p:Nat->Bool} {n i:Nat} (h:Zi p n=some i):i<n∧p i=true∧∀k,k<i->p k=false:=by
 have key:∀(k j:Nat),j+k=n->(∀x,x<j->p x=false)->Qgn (fun i=>if p i=true then some i else none) j k=some i->i<n∧p i=true∧∀k,k<i->p k=false:=by
  intro k
  induction k with
  |zero=>intro j _ _ h;cases h
  |succ k J=>
   intro j hj I h;unfold Qgn at h
   cases hp:p j
   ·rw[hp] at h;exact J (j+1) (by omega) (fun x hx'=>by
     rcases YW x j with h|h
     ·exact I x h
     ·have:x=j:=by omega
      subst this;exact hp) h
   ·rw[hp] at h;simp only[YE,Yc] at h;subst h;exact⟨by omega,hp,I⟩
 exact key n 0 (by omega) (fun x I=>by omega) h
theorem JV {p:Nat->Bool} {n:Nat} (h:Zi p n=none):∀k,k<n->p k=false:=by
 have key:∀(k j:Nat),j+k=n->(∀x,x<j->p x=false)->Qgn (fun i=>if p i=true then some i else none) j k=none->∀k,k<n->p k=false:=by
  intro k
  induction k with
  |zero=>intro j J I _ x h;exact I x (by omega)
  |succ k N=>
   intro j J I h;unfold Qgn at h
   cases hp:p j
   ·rw[hp] at h;exact N (j+1) (by omega) (fun x hx'=>by
     rcases YW x j with h|h
     ·exact I x h
     ·have:x=j:=by omega
      subst this;exact hp) h
   ·rw[hp] at h;cases h
 exact key n 0 (by omega) (fun x I=>by omega) h
theorem QgT {α β:Type} {step:α×Int->Option ((α×Int)⊕β)} (n:Nat) (f:α->Nat->α) (d:α->β) (a0:α) (I:Nat->α->Prop) (U:I 0 a0) (hi:∀i a,i<n->I i a->I (i+1) (f a i))
  (h1:∀(i:Nat) (a:α),i<n->I i a->step (a,(i:Int))=some (.inl (f a i,((i+1:Nat):Int)))) (h2:∀a,I n a->step (a,(n:Int))=some (.inr (d a))):
  lp step (a0,0)=some (d ((List.range n).foldl f a0))∧I n ((List.range n).foldl f a0):=by
 have key:∀k i:Nat,i+k=n->∀a,I i a->lp step (a,(i:Int))=some (d ((List.range' i k).foldl f a))∧I n ((List.range' i k).foldl f a):=by
  intro k
  induction k with
  |zero=>
   intro i N a J;have:i=n:=by omega
   subst this;exact⟨Zr (h2 a J),J⟩
  |succ k O=>
   intro i N a J;rw[Ji (h1 i a (by omega) J),List.range'_succ,Yy];exact O (i+1) (by omega) _ (hi i a (by omega) J)
 have:=key n 0 (by omega) a0 U;rwa[<-List.range_eq_range'] at this
theorem Qjc {α:Type} [Inhabited α] {c:Prop} [Decidable c] {v:α}:Qv c (some v)=some (if c then v else default):=by
 by_cases h:c
 ·rw[Qs h,Y4 h]
 ·rw[QS h,Y3 h]
theorem Qmc {c:Bool} {v:Bool}:Qv (c=true) (some v)=some (c&&v):=by cases c<;>simp[Qv]
theorem Qjd {c:Bool} {v:Bool}:Qv (c=false) (some v)=some (!c&&v):=by cases c<;>simp[Qv]
theorem QAT {α:Type} {r:α->α->Bool} (I:∀ {a b c:α},r a b=true->r b c=true->r a c=true) {f:Nat->α} {n:Nat} (h:∀i,0<i->i<n->r (f (i-1)) (f i)=true):∀i,i<n->∀k,k<i->r (f k) (f i)=true:=by
 intro i
 induction i with
 |zero=>intro _ k J;omega
 |succ i N=>
  intro hi k J;have hs:=h (i+1) (by omega) hi;rw[Nat.add_sub_cancel] at hs
  by_cases e:k=i
  ·subst e;exact hs
  ·exact I (N (by omega) k (by omega)) hs
theorem Qya {p:Prop} (h:p:=by
 (repeat' first|((conv=>whnf);first|exact trivial|refine Y0x ?_ ?_|exact BLe.refl _|exact VLe.refl _)|exact trivial|refine Y0x ?_ ?_|exact VLe.refl _|exact VLe.any _|exact VLe.nil_osl rfl|exact VLe.nil_sl rfl|exact VLe.fnD (by kernel_rfl)|exact VLe.built rfl rfl|(refine VLe.osl rfl ?_;(first|rfl|assumption|(refine Y0m ?_;assumption)|(simp;done)|(simp[QX]<;>omega)|omega))|exact VLe.rows (by first|rfl|assumption|(refine Y0m ?_;assumption)|(simp;done)|(simp[QX]<;>omega)|omega) (fun _ _=>rfl)|exact VLe.rows (by simp[QX]<;>omega) Qa7|exact VLe.takeR (by first|rfl|(simp;done)|(simp[QX]<;>omega)) (fun _=>rfl)|exact VLe.rows (by simp[QX]<;>omega) Qii|exact VLe.rows (by simp[QX]<;>omega) QjW|exact VLe.rows (by simp) (fun i _=>by simp[Zs,Y14])|refine VLe.aggL ?_|refine VLe.rpL ?_)):p:=h
theorem inA {p:Prop} (h:p:=by
 (repeat' first|((conv=>whnf);first|exact trivial|refine Y0x ?_ ?_|exact BLe.refl _|exact VLe.refl _|(refine BLe.rows rfl ?_ fun _ _=>rfl;(first|rfl|assumption|(refine Y0m ?_;assumption))))|exact trivial|exact rfl|refine Y0x ?_ ?_|exact BLe.refl _|exact VLe.refl _|exact VLe.any _|exact VLe.nil_osl rfl|exact VLe.nil_sl rfl|exact VLe.fnD (by kernel_rfl)|exact VLe.built rfl rfl|(refine VLe.osl rfl ?_;(first|rfl|assumption|(refine Y0m ?_;assumption)|(simp;done)|(simp[QX]<;>omega)|omega))|exact VLe.rows (by first|rfl|assumption|(refine Y0m ?_;assumption)|(simp;done)|(simp[QX]<;>omega)|omega) (fun _ _=>rfl)|exact VLe.rows (by simp[QX]<;>omega) Qa7|exact VLe.takeR (by first|rfl|(simp;done)|(simp[QX]<;>omega)) (fun _=>rfl)|exact VLe.rows (by simp[QX]<;>omega) Qii|exact VLe.rows (by simp[QX]<;>omega) QjW|exact VLe.rows (by simp) (fun i _=>by simp[Zs,Y14])|refine VLe.aggL ?_|(refine BLe.rows rfl ?_ fun _ _=>rfl;(first|rfl|assumption|(refine Y0m ?_;assumption)|(simp;done)|(simp[QX]<;>omega)|omega))|refine BLe.box ?_|(simp;done))):p:=h
theorem Qs2 {p:Prop} (h:p:=by
 first|rfl|assumption|(refine Y0m ?_;assumption)|(simp;done)|(simp[QX]<;>omega)|omega):p:=h
end Go.Ab
namespace Go.Ab
open Go.RowKit
variable {P:Program} {tb:Tb} {w:World} {ow:Nat→Prop} {ρ:Env} {a:Act} {B:Bd} {w0:World} {F:List (Array Value)} {S:St}
def pmN (l:List (Nat×Nat)) (i:Nat):Nat:=match Qk l i with
 |some j=>j
 |none=>i
def Qvb (l:List (Nat×Nat)):List (Nat×Nat):=l.map fun p=>(p.2,p.1)
def QB0 (l:List (Nat×Nat)):Bool:=l.all fun p=>(match Qk (Qvb l) p.2 with
 |some a=>Nat.beq a p.1
 |none=>false)&&(match Qk l p.2 with
 |some _=>true
 |none=>false)
theorem QpV {α:Type}:∀ {l:List (Nat×α)} {i:Nat} {x:α},Qk l i=some x->(i,x)∈l
 |(u,y)::r,i,x,h=>by
  rcases QY h with ⟨rfl,rfl⟩|⟨_,h⟩
  ·simp
  ·exact YM _ (Qe4 h)
 |[],_,_,h=>by simp[Qk] at h
theorem QAU {l:List (Nat×Nat)} (h:QB0 l=true) (i:Nat):pmN (Qvb l) (pmN l i)=i:=by
 have h:=Ye.1 h;unfold pmN
 cases hl:Qk l i with
 |some j=>
  have h1:=h (i,j) (QpV hl);simp only[Y2] at h1;dsimp only
  cases h2:Qk (Qvb l) j with
  |none=>rw[h2] at h1;exact Bool.noConfusion h1.1
  |some a=>rw[h2] at h1;exact Y9 h1.1
 |none=>
  dsimp only
  cases h2:Qk (Qvb l) i with
  |none=>rfl
  |some a=>
   have⟨p,hp,e⟩:=Yo.1 (QpV h2)
   cases e
   have h1:=h p hp;simp only[Y2] at h1;rw[hl] at h1;exact Bool.noConfusion h1.2
noncomputable def Qzn (l:List (Nat×Nat)) (n:Nat):V->(V->Prop)->Prop:=Nat.rec (motive:=fun _=>V->(V->Prop)->Prop) (fun v K=>K (v.ren (pmN l))) (fun _ J v K=>match v with
 | .any=>K .any
 | .d x=>K (.d x)
 | .ref i r o=>(match Qk l i with
  |some j=>K (.ref j r o)
  |none=>K (.ref i r o))
 | .osl i o n=>(match Qk l i with
  |some j=>K (.osl j o n)
  |none=>K (.osl i o n))
 | .rp cs=>K (.rp cs)
 | .agg vs=>QbH J vs fun I=>K (.agg I)
 | .tup vs=>QbH J vs fun I=>K (.tup I)
 | .fn f vs=>QbH J vs fun I=>K (.fn f I)) n
noncomputable def rnT (l:List (Nat×Nat)) (ts:List (Nat×V)):(List (Nat×V)->Prop)->Prop:=List.rec (motive:=fun _=>(List (Nat×V)->Prop)->Prop) (fun K=>K []) (fun p _ I K=>match p with
 |(t,v)=>Qzn l 4 v fun v'=>I fun J=>K ((t,v')::J)) ts
noncomputable def rnG (l:List (Nat×Nat)) (gs:List Gd):(List Gd->Prop)->Prop:=List.rec (motive:=fun _=>(List Gd->Prop)->Prop) (fun K=>K []) (fun g _ I K=>match g with
 |⟨t,k,w,v⟩=>Qzn l 4 v fun v'=>I fun J=>K (⟨t,k,w,v'⟩::J)) gs
noncomputable def rnB (l:List (Nat×Nat)) (bs:List (Nat×Blk)):(List (Nat×Blk)->Prop)->Prop:=List.rec (motive:=fun _=>(List (Nat×Blk)->Prop)->Prop) (fun K=>K []) (fun p _ N K=>match p with
 |(i,.box t cs)=>QbH (Qzn l 4) cs fun J=>(match Qk l i with
  |some j=>N fun I=>K ((j,.box t J)::I)
  |none=>N fun I=>K ((i,.box t J)::I))
 |(i,.arr t sz n row)=>(match Qk l i with
  |some j=>N fun I=>K ((j,.arr t sz n row)::I)
  |none=>N fun I=>K ((i,.arr t sz n row)::I))) bs
noncomputable def rnF (l:List (Nat×Nat)) (fs:List Fr):(List Fr->Prop)->Prop:=List.rec (motive:=fun _=>(List Fr->Prop)->Prop) (fun K=>K []) (fun f _ N K=>match f with
 |⟨ts,gs⟩=>rnT l ts fun I=>rnG l gs fun J=>N fun O=>K (⟨I,J⟩::O)) fs
noncomputable def QBL (l:List (Nat×Nat)):St->(St->Prop)->Prop
 |⟨base,nt,ts,gs,bs,fs⟩,K=>rnT l ts fun ts=>rnG l gs fun gs=>rnB l bs fun bs=>rnF l fs fun fs=>K ⟨base,nt,ts,gs,bs,fs⟩
theorem QfY {f:V->(V->Prop)->Prop} {g:Nat->Nat} (J:∀v K,f v K=K (v.ren g)) (l:List V):∀K:List V->Prop,QbH f l K=K (Qkt g l):=by
 induction l with
 |nil=>intro K;rfl
 |cons x r N=>intro K;show f x (fun O=>QbH f r fun I=>K (O::I))=_;rw[J,N];rfl
theorem Qj2 (l:List (Nat×Nat)):∀(n:Nat) (v:V) (K:V->Prop),Qzn l n v K=K (v.ren (pmN l))
 |0,_,_=>rfl
 |n+1,v,K=>by
  cases v with
  |any=>rfl
  |ref i r o=>
   show(match Qk l i with|some j=>K (.ref j r o)|none=>K (.ref i r o))=K (.ref (pmN l i) r o);unfold pmN
   cases Qk l i<;>rfl
  |osl i o n=>
   show(match Qk l i with|some j=>K (.osl j o n)|none=>K (.osl i o n))=K (.osl (pmN l i) o n);unfold pmN
   cases Qk l i<;>rfl
  |d x=>rfl
  |rp cs=>rfl
  |agg vs=>exact QfY (Qj2 l n) vs _
  |tup vs=>exact QfY (Qj2 l n) vs _
  |fn f vs=>exact QfY (Qj2 l n) vs _
theorem Qyq (l:List (Nat×Nat)) (ts:List (Nat×V)):∀K:List (Nat×V)->Prop,rnT l ts K=K (Qyn (pmN l) ts):=by
 induction ts with
 |nil=>intro K;rfl
 |cons x r I=>intro K;have⟨t,v⟩:=x;show Qzn l 4 v (fun v'=>rnT l r fun J=>K ((t,v')::J))=_;rw[Qj2,I];rfl
theorem Qyr (l:List (Nat×Nat)) (ts:List Gd):∀K:List Gd->Prop,rnG l ts K=K (Qyo (pmN l) ts):=by
 induction ts with
 |nil=>intro K;rfl
 |cons x r I=>intro K;have⟨t,k,w,v⟩:=x;show Qzn l 4 v (fun v'=>rnG l r fun J=>K (⟨t,k,w,v'⟩::J))=_;rw[Qj2,I];rfl
theorem QAV (l:List (Nat×Nat)) (bs:List (Nat×Blk)):∀K:List (Nat×Blk)->Prop,rnB l bs K=K (QwX (pmN l) bs):=by
 induction bs with
 |nil=>intro K;rfl
 |cons x r N=>
  intro K;have⟨i,b⟩:=x
  cases b with
  |box t cs=>
   show QbH (Qzn l 4) cs (fun J=>(match Qk l i with|some j=>rnB l r fun I=>K ((j,.box t J)::I)|none=>rnB l r fun I=>K ((i,.box t J)::I)))=K ((pmN l i,.box t (Qkt (pmN l) cs))::QwX (pmN l) r);rw[QfY (Qj2 l 4)];unfold pmN
   cases Qk l i<;>exact N _
  |arr t sz n row=>
   show(match Qk l i with|some j=>rnB l r fun I=>K ((j,.arr t sz n row)::I)|none=>rnB l r fun I=>K ((i,.arr t sz n row)::I))=K ((pmN l i,.arr t sz n row)::QwX (pmN l) r);unfold pmN
   cases Qk l i<;>exact N _
theorem QAW (l:List (Nat×Nat)) (fs:List Fr):∀K:List Fr->Prop,rnF l fs K=K (QwY (pmN l) fs):=by
 induction fs with
 |nil=>intro K;rfl
 |cons x r N=>intro K;have⟨ts,gs⟩:=x;show rnT l ts (fun I=>rnG l gs fun J=>rnF l r fun O=>K (⟨I,J⟩::O))=_;rw[Qyq,Qyr,N];rfl
theorem Qzo (l:List (Nat×Nat)) (S:St) (K:St->Prop):QBL l S K=K (S.ren (pmN l)):=by
 have⟨base,nt,ts,gs,bs,fs⟩:=S;simp only[QBL,Qyq,Qyr,QAV,QAW];rfl
inductive Ed where
 |f (ids:List Nat)
 |s (l:List (Nat×Nat))
 |p (id t sz:Nat) (row:Nat→List D)
 |k (ids:List Nat)
 |c (t:Nat)
 |ca (t j:Nat)
 |cb (q j:Nat)
structure KF (b:Bool):Prop where
 h:b=false
structure KT (b:Bool):Prop where
 h:b=true
noncomputable def edP:List Ed->St->(St->Prop)->Prop
 |[],S,K=>K S
 | .f l::r,S,K=>QtE l S fun S=>edP r S K
 | .s l::r,S,K=>KT (QB0 l)∧QBL l S fun S=>edP r S K
 | .p id t sz row::r,⟨base,nt,ts,gs,bs,fs⟩,K=>KF (St.mentions ⟨base,nt,ts,gs,bs,fs⟩ id)∧edP r ⟨base,nt,ts,gs,(id,.arr t sz 0 row)::bs,fs⟩ K
 | .k ids::r,⟨base,nt,ts,gs,bs,fs⟩,K=>Qa5 (Qc6 ids bs) fun bs=>edP r ⟨base,nt,ts,gs,bs,fs⟩ K
 | .c t::r,⟨base,nt,ts,gs,bs,fs⟩,K=>match Qk ts t with
  |some (.osl id off len)=>(match Qk bs id with
   |some (.arr t0 sz _ row)=>Qgf (QgA id ts) fun N=>Qgg (Qh5 id gs) fun J=>Qa5 (Qda id bs) fun bs'=>QiP (QiO id fs) fun I=>
     edP r ⟨base,nt,(t,.osl id 0 len)::N,J,(id,.arr t0 sz len (ZB off row))::bs',I⟩ K
   | _ => Stuck "cut no such row")
  | _ => Stuck "cut no slice"
 | .ca t j::r,⟨base,nt,ts,gs,bs,fs⟩,K=>match Qk ts t with
  |some (.agg vs)=>(match vs[j]? with
   |some (.osl id off len)=>(match Qk bs id with
    |some (.arr t0 sz _ row)=>QaK ((Qel id vs).set j (.osl id 0 len)) fun U=>Qgf (QgA id ts) fun N=>Qgg (Qh5 id gs) fun J=>Qa5 (Qda id bs) fun bs'=>QiP (QiO id fs) fun I=>
      edP r ⟨base,nt,(t,.agg U)::N,J,(id,.arr t0 sz len (ZB off row))::bs',I⟩ K
    | _ => Stuck "cut no such row")
   | _ => Stuck "cut no slice")
  | _ => Stuck "cut no struct"
 | .cb q j::r,⟨base,nt,ts,gs,bs,fs⟩,K=>match Qk bs q with
  |some (.box t cs)=>(match cs[j]? with
   |some (.osl id off len)=>(match Qk bs id with
    |some (.arr t0 sz _ row)=>QaK ((Qel id cs).set j (.osl id 0 len)) fun O=>Qgf (QgA id ts) fun N=>Qgg (Qh5 id gs) fun J=>Qa5 (Qda id bs) fun bs'=>Qa5 (QhF bs' q (.box t O)) fun bs'=>QiP (QiO id fs) fun I=>
      edP r ⟨base,nt,N,J,(id,.arr t0 sz len (ZB off row))::bs',I⟩ K
    | _ => Stuck "cut no such row")
   | _ => Stuck "cut no slice")
  | _ => Stuck "cut no variable"
theorem Qsq:∀(l:List Nat) {S:St} {K:St->Prop},QtE l S K->∃I,LE S I∧K I
 |[],S,_,h=>⟨S,.refl S,h⟩
 |i::r,⟨base,nt,ts,gs,bs,fs⟩,K,h=>by
  simp only[QtE] at h;split at h
  ·rename_i row hb;rw[Qb2,Qb3,Z4,QdK] at h;have⟨I,h1,h2⟩:=Qsq r h;exact⟨I,LE.trans ⟨fun B w0 F ρ a w hs=>⟨ρ,(hs.frz hb).1⟩⟩ h1,h2⟩
  ·exact h.no.elim
theorem Qzp (ids:List Nat):LE S ⟨S.base,S.nt,S.tmps,S.gds,Qc6 ids S.blks,S.frames⟩:=
 ⟨fun B w0 F ρ a w hs=>⟨ρ,Qu5 hs fun i b hb=>by
  rw[Qci] at hb;split at hb
  ·cases hb
  ·exact⟨b,hb,.refl b⟩⟩⟩
theorem Qrd {S:St} {id off len n:Nat} {t0:TypeId} {sz:Nat} {row:Nat->List D} {B:Bd} {w0 w:World} {F:List (Array Value)} {ρ:Env} {a:Act} {x:Value} (h:Sim P B w0 F ρ S a w) (hv:VR w (ZM B S.blks ρ) ρ (.osl id off len) x) (hb:Qk S.blks id=some (.arr t0 sz n row)):
  ∃l:Loc,Sim P B w0 F (ρ.set id l) ⟨S.base,S.nt,QgA id S.tmps,Qh5 id S.gds,(id,.arr t0 sz len (ZB off row))::Qda id S.blks,QiO id S.frames⟩ a w∧
   VR w (ZM B ((id,.arr t0 sz len (ZB off row))::Qda id S.blks) (ρ.set id l)) (ρ.set id l) (.osl id 0 len) x:=by
 have U:=Qpu h.o id;have N:=St.kill_mentions S id;have⟨ad,cap,h1,h2,h3⟩:=hv.osl_inv;rcases h3 with ⟨h3,h4⟩|⟨h3,h4,h5,h6⟩
 ·subst h3 h4;have I:=QdL (w:=w) U N (fun _ h=>h.imp QgG fun h=>h) (sz:=sz) (row:=ZB off row) (e:=t0) ad;exact⟨_,I.1,by rw[h1];exact I.2⟩
 ·have Y:=h.blks id _ hb
  cases Y with
  |arr0 g=>rw[g] at h3;cases h3
  |arr C a6 g1 g2 g3 g4 g5 g6 g7 g8=>
  have O:=h.ge id _ hb h3;have J:¬own (Qda id S.blks) ρ (ρ id).b:=by
   rintro⟨i,k,U,hp,a1⟩;have⟨a5,k0,a2,_⟩:=QbI U;exact a5 (h.sep i id _ _ a2 hb hp h3 a1)
  have I:=QgE (loc:=⟨(ρ id).b,(ρ id).o+off*sz,sz,len,cap,false⟩) (blk:=.arr t0 sz len (ZB off row)) (w':=w) U N (fun _ h=>h.imp QgG fun h=>h) (Yh _)
   (fun _ _ _=>rfl) (fun _ _=>rfl) (fun _ _ _=>rfl) (fun _=>.inr ⟨.inl ⟨id,_,hb,h3,rfl⟩,J⟩)
   (fun _=>⟨O.blk,fun k hc=>by have:=(O.cel k hc).1;cases this⟩) rfl rfl rfl fun keep=>by
    refine .arr C a6 (by simp[Env.set]) (by simp[Env.set]) (by simp[Env.set]) (by simp only[Env.set,YE];omega) (fun i hi=>?_) (by simp only[Env.set,YE];exact g6) ?_ fun i j d hi hd=>?_
    ·rw[Zs];exact g5 _ (by omega)
    ·simp only[Env.set,YE];have:off*sz+cap*sz=(ρ id).cap*sz:=by rw[<-Yk];congr 1;omega
     omega
    ·simp only[Env.set,YE];rw[Zs] at hd;have:=(g8 (off+i) j d (by omega) hd).keep keep;rw[show(ρ id).o+off*sz+i*sz+j=(ρ id).o+(off+i)*sz+j by rw[Yk];omega];exact this
  refine⟨_,I,?_⟩;rw[h1,h5,g2];have:=VR.osl (w:=w) (own:=ZM B ((id,.arr t0 sz len (ZB off row))::Qda id S.blks) (ρ.set id ⟨(ρ id).b,(ρ id).o+off*sz,sz,len,cap,false⟩)) (ρ:=ρ.set id ⟨(ρ id).b,(ρ id).o+off*sz,sz,len,cap,false⟩) (id:=id) (off:=0) (len:=len) (by simp[Env.set]) (by simp[Env.set]) (by simp only[Env.set,YE];omega);simpa[Env.set] using this
theorem Qvc {S':St} {B:Bd} {w0 w:World} {F:List (Array Value)} {ρ:Env} {a:Act} {ts:Nat} {v:V} (h1:Sim P B w0 F ρ S' a w) (h2:VR w (ZM B S'.blks ρ) ρ v (a.tmps.getD ts undef)):Sim P B w0 F ρ ⟨S'.base,S'.nt,(ts,v)::S'.tmps,S'.gds,S'.blks,S'.frames⟩ a w:=
 ⟨h1.below,h1.tab,h1.hB,h1.defers,h1.nt,⟨fun t v I=>by
  rcases QY I with ⟨rfl,rfl⟩|⟨_,I⟩
  ·exact h2
  ·exact h1.top.tmps t v I,h1.top.gds⟩,h1.blks,h1.sep,h1.ge,h1.frames⟩
theorem QAX (S:St) {id off len n:Nat} {t0:TypeId} {sz:Nat} {row:Nat->List D} {ts:Nat} (hv:Qk S.tmps ts=some (.osl id off len)) (hb:Qk S.blks id=some (.arr t0 sz n row)):
  LE S ⟨S.base,S.nt,(ts,.osl id 0 len)::QgA id S.tmps,Qh5 id S.gds,(id,.arr t0 sz len (ZB off row))::Qda id S.blks,QiO id S.frames⟩:=⟨fun B w0 F ρ a w h=>by
 have⟨l,h1,h2⟩:=Qrd h (h.top.tmps ts _ hv) hb;exact⟨_,Qvc h1 h2⟩⟩
theorem QnJ {id t:Nat} {v:V}:∀ {ts:List (Nat×V)},Qk ts t=some v->Qk (QgA id ts) t=some (v.kill id)
 |(u,x)::r,h=>by
  simp only[Qk] at h;show Qk ((u,x.kill id)::QgA id r) t=_;simp only[Qk];split at h
  ·rename_i e;rw[YC h]
  ·exact QnJ h
 |[],h=>by simp[Qk] at h
theorem Qzq (S:St) {id off len n:Nat} {t0:TypeId} {sz:Nat} {row:Nat->List D} {ts j:Nat} {vs:List V} (hv:Qk S.tmps ts=some (.agg vs)) (hj:vs[j]? =some (.osl id off len)) (hb:Qk S.blks id=some (.arr t0 sz n row)):
  LE S ⟨S.base,S.nt,(ts,.agg ((Qel id vs).set j (.osl id 0 len)))::QgA id S.tmps,Qh5 id S.gds,(id,.arr t0 sz len (ZB off row))::Qda id S.blks,QiO id S.frames⟩:=⟨fun B w0 F ρ a w h=>by
 have O:=h.top.tmps ts _ hv;generalize N:a.tmps.getD ts undef=y at O
 cases O with|agg g0 g1 Y=>
 rename_i cs;have⟨l,h1,h2⟩:=Qrd h (Y j _ hj) hb;have J:=h1.top.tmps ts _ (QnJ hv);rw[N] at J;have J:VR _ _ _ (.agg (Qel id vs)) (.agg cs):=J
 cases J with|agg U k1 k2=>
 refine⟨_,Qvc h1 ?_⟩;rw[N];refine .agg (by rw[Y03];exact U) k1 fun q u I=>?_;rw[Y15] at I;split at I
 ·rename_i e;subst e;split at I
  ·cases I;exact h2
  ·cases I
 ·exact k2 q u I⟩
theorem Qio {id q:Nat} (I:q≠id):∀ {bs:List (Nat×Blk)} {b:Blk},Qk bs q=some b->Qk (Qda id bs) q=some (b.kill id)
 |(u,x)::r,b,h=>by
  simp only[Qk] at h;simp only[Qda];split at h
  ·rename_i e;have e:=Y9 e;subst e;have:Nat.beq u id=false:=by
    cases c:Nat.beq u id
    ·rfl
    ·exact absurd (Y9 c) I
   rw[this];simp only[Qk,Nat.beq_refl];rw[YC h]
  ·rename_i e;split
   ·exact Qio I h
   ·simp only[Qk,e];exact Qio I h
 |[],_,h=>by simp[Qk] at h
theorem Qzr {q:Nat} {b0 blk:Blk} {S:St} {B:Bd} {w0 w:World} {F:List (Array Value)} {ρ:Env} {a:Act} (h:Sim P B w0 F ρ S a w) (h0:Qk S.blks q=some b0) (a1:BR w (ZM B S.blks ρ) ρ q blk) (Y:blk.bx=b0.bx):
  Sim P B w0 F ρ ⟨S.base,S.nt,S.tmps,S.gds,QhF S.blks q blk,S.frames⟩ a w:=by
 have keep:Keep w (ZM B S.blks ρ) w (ZM B (QhF S.blks q blk) ρ):=⟨Yh _,fun b _ ho=>⟨rfl,fun h=>ho (h.imp (Qoc h0) fun h=>h)⟩⟩;have I:∀i x,Qk (QhF S.blks q blk) i=some x->∃N,Qk S.blks i=some N:=fun i x J=>by
  rcases Qa6 J with ⟨rfl,_,b,hb⟩|⟨_,hb⟩
  ·exact⟨b,hb⟩
  ·exact⟨x,hb⟩
 refine⟨h.below,h.tab,h.hB,h.defers,h.nt,h.top.keep keep fun _ _=>rfl,fun i b hb=>?_,fun i j x y J hy=>?_,fun i x J=>?_,h.frames.1,fun i f' tm a5 U=>(h.frames.2 i f' tm a5 U).keep keep fun _ _=>rfl⟩
 ·rcases Qa6 hb with ⟨rfl,rfl,_⟩|⟨hn,hb⟩
  ·exact a1.keep keep rfl (fun _=>rfl) fun _ _=>rfl
  ·exact(h.blks i b hb).keep keep rfl (fun _=>rfl) fun _ _=>rfl
 ·have⟨N,O⟩:=I i x J;have⟨y0,a2⟩:=I j y hy;exact h.sep i j N y0 O a2
 ·rcases Qa6 J with ⟨rfl,rfl,_⟩|⟨_,hb⟩
  ·rw[Y];exact h.ge i _ h0
  ·exact h.ge i x hb
theorem Qzs (S:St) {id off len n:Nat} {t0:TypeId} {sz:Nat} {row:Nat->List D} {q j:Nat} {t:TypeId} {cs:List V} (O:Qk S.blks q=some (.box t cs)) (hj:cs[j]? =some (.osl id off len)) (hb:Qk S.blks id=some (.arr t0 sz n row)):
  LE S ⟨S.base,S.nt,QgA id S.tmps,Qh5 id S.gds,(id,.arr t0 sz len (ZB off row))::QhF (Qda id S.blks) q (.box t ((Qel id cs).set j (.osl id 0 len))),QiO id S.frames⟩:=⟨fun B w0 F ρ a w h=>by
 have I:q≠id:=fun e=>by subst e;rw[O] at hb;cases hb
 cases h.blks q _ O with
 |box C g1 g2 g3 g4 g5 g6 g7 g8=>
 have⟨l,h1,h2⟩:=Qrd h (g8 j _ hj) hb;have hid:Nat.beq id q=false:=by
  cases c:Nat.beq id q
  ·rfl
  ·exact absurd (Y9 c).symm I
 have J:Qk ((id,Blk.arr t0 sz len (ZB off row))::Qda id S.blks) q=some (.box t (Qel id cs)):=by
  simp only[Qk,hid];exact Qio I O
 refine⟨ρ.set id l,?_⟩;have U:=h1.blks q _ J;have hr:(ρ.set id l) q=ρ q:=Env.set_other I;have Y:BR w (ZM B ((id,Blk.arr t0 sz len (ZB off row))::Qda id S.blks) (ρ.set id l)) (ρ.set id l) q (.box t ((Qel id cs).set j (.osl id 0 len))):=by
  cases U with
  |box C' k1 k2 k3 k4 N k6 k7 k8=>
  have ec:C'=C:=by
   rw[hr,g5] at N
   cases N;rfl
  subst ec;refine .box C' k1 k2 (by rw[Y03];exact k3) k4 N (by rw[Y03];exact k6) (by rw[Y03];exact k7) fun i v hv=>?_;rw[Y15] at hv;split at hv
  ·rename_i e;subst e;split at hv
   ·cases hv;rw[hr];exact h2
   ·cases hv
  ·exact k8 i v hv
 have:=Qzr h1 J Y rfl;have eu:QhF ((id,Blk.arr t0 sz len (ZB off row))::Qda id S.blks) q (.box t ((Qel id cs).set j (.osl id 0 len)))=(id,.arr t0 sz len (ZB off row))::QhF (Qda id S.blks) q (.box t ((Qel id cs).set j (.osl id 0 len))):=by
  simp only[QhF,hid]
 rw[<-eu];exact this⟩
theorem QhP:∀(l:List Ed) {S:St} {K:St->Prop},edP l S K->∃N,LE S N∧K N
 |[],S,_,h=>⟨S,.refl S,h⟩
 | .f l::r,S,K,h=>by
  have⟨N,h1,h2⟩:=Qsq l h;have⟨I,h3,h4⟩:=QhP r h2;exact⟨I,h1.trans h3,h4⟩
 | .s l::r,S,K,h=>by
  simp only[edP,Qzo] at h;have⟨I,h3,h4⟩:=QhP r h.2;exact⟨I,(QAQ _ (pmN (Qvb l)) (QAU h.1.h) S).trans h3,h4⟩
 | .p id t sz row::r,⟨base,nt,ts,gs,bs,fs⟩,K,h=>by
  have⟨I,h3,h4⟩:=QhP r h.2;exact⟨I,(Qtl ⟨base,nt,ts,gs,bs,fs⟩ id t sz row h.1.h).trans h3,h4⟩
 | .k ids::r,⟨base,nt,ts,gs,bs,fs⟩,K,h=>by
  simp only[edP,Z4] at h;have⟨I,h3,h4⟩:=QhP r h;exact⟨I,(Qzp (S:=⟨base,nt,ts,gs,bs,fs⟩) ids).trans h3,h4⟩
 | .c t::r,⟨base,nt,ts,gs,bs,fs⟩,K,h=>by
  simp only[edP] at h;split at h
  ·rename_i id off len hv;split at h
   ·rename_i t0 sz n row hb;rw[Qb2,Qb3,Z4,QdK] at h;have⟨I,h3,h4⟩:=QhP r h;exact⟨I,(QAX ⟨base,nt,ts,gs,bs,fs⟩ hv hb).trans h3,h4⟩
   ·exact h.no.elim
  ·exact h.no.elim
 | .ca t j::r,⟨base,nt,ts,gs,bs,fs⟩,K,h=>by
  simp only[edP] at h;split at h
  ·rename_i vs hv;split at h
   ·rename_i id off len J;split at h
    ·rename_i t0 sz n row hb;rw[Za,Qb2,Qb3,Z4,QdK] at h;have⟨I,h3,h4⟩:=QhP r h;exact⟨I,(Qzq ⟨base,nt,ts,gs,bs,fs⟩ hv J hb).trans h3,h4⟩
    ·exact h.no.elim
   ·exact h.no.elim
  ·exact h.no.elim
 | .cb q j::r,⟨base,nt,ts,gs,bs,fs⟩,K,h=>by
  simp only[edP] at h;split at h
  ·rename_i t cs O;split at h
   ·rename_i id off len J;split at h
    ·rename_i t0 sz n row hb;rw[Za,Qb2,Qb3,Z4,Z4,QdK] at h;have⟨I,h3,h4⟩:=QhP r h;exact⟨I,(Qzs ⟨base,nt,ts,gs,bs,fs⟩ O J hb).trans h3,h4⟩
    ·exact h.no.elim
   ·exact h.no.elim
  ·exact h.no.elim
def QtI (ks:List Nat):St->St
 |⟨base,nt,ts,_,bs,fs⟩=>⟨base,nt,ks.map fun k=>(k,Qyd ts k),[],bs,fs⟩
theorem Qsr {ts:List (Nat×V)}:∀(ks:List Nat),LeT ts (ks.map fun k=>(k,Qyd ts k))
 |[]=>trivial
 |k::r=>by
  refine⟨?_,Qsr r⟩;unfold Qyd
  cases Qk ts k<;>exact .refl _
theorem QoG (ks:List Nat):LE S (QtI ks S):=by
 have⟨base,nt,ts,gs,bs,fs⟩:=S;exact⟨fun B w0 F ρ a w h=>⟨ρ,h.below,h.tab,h.hB,h.defers,h.nt,h.top.le (Qsr ks),h.blks,h.sep,h.ge,h.frames⟩⟩
def LeP:St->St->Prop
 |⟨_,nt,ts,_,bs,fs⟩,⟨_,nt',ts',gs',bs',fs'⟩=>(nt=nt'∧gs'=[])∧LeT ts ts'∧LeB bs bs'∧LeF fs fs'
theorem LeP.le {S S':St} (h:LeP S S'):LE S S':=by
 have⟨base,nt,ts,gs,bs,fs⟩:=S;have⟨base',nt',ts',gs',bs',fs'⟩:=S';obtain⟨⟨rfl,rfl⟩,h1,h2,h3⟩:=h;exact QBz h1 h2 h3
theorem VLe.tupL {vs I:List V} (h:CellsLe vs I):VLe (.tup vs) (.tup I):=⟨fun w ow ρ x O=>by
 have⟨h1,h2⟩:=h.get
 cases O with
 |tup hs hv=>
  refine .tup (by rw[hs,h1]) fun j v U=>?_;have⟨u,N,J⟩:=h2 j v U;exact J.out _ _ _ _ (hv j u N)⟩
theorem QnK {α:Type} [Inhabited α] {enc:α->List D} {xs:List α} {k:Nat}:∀i,i<(xs.take k).length->rows enc xs i=rows enc (xs.take k) i:=by
 intro i hi;have:i<k:=by simp at hi;omega
 simp[rows,Y0,this]
theorem BLe.cut0 {α:Type} [Inhabited α] {enc:α->List D} {t J:TypeId} {sz n k:Nat} {xs:List α} (I:n=(xs.take k).length):BLe (.arr t sz n (ZB (Qgw 0 (Int.toNat 0)) (Ab.rows enc xs))) (.arr J sz (xs.take k).length (Ab.rows enc (xs.take k))):=by
 refine .rows rfl I fun i hi=>?_;rw[I] at hi;rw[<-QnK i hi];simp[Zs,Qb4]
theorem srA {p:Prop} (h:p:=by
 (repeat' first|((conv=>whnf);first|exact trivial|refine Y0x ?_ ?_|exact KF.mk (by kernel_rfl)|exact KT.mk (by kernel_rfl)|exact BLe.refl _|exact VLe.refl _)|exact trivial|exact rfl|refine Y0x ?_ ?_|exact BLe.refl _|exact VLe.refl _|exact VLe.any _|exact VLe.nil_osl rfl|exact VLe.nil_sl rfl|exact VLe.fnD (by kernel_rfl)|exact VLe.built rfl rfl|(refine VLe.osl rfl ?_;(first|rfl|assumption|(refine Y0m ?_;assumption)|(simp;done)|(simp[QX]<;>omega)|omega|(simp[QX]<;>(dsimp only at*;omega))))|exact VLe.rows (by first|rfl|assumption|(refine Y0m ?_;assumption)|(simp;done)|(simp[QX]<;>omega)|omega|(simp[QX]<;>(dsimp only at*;omega))) (fun _ _=>rfl)|exact VLe.rows (by kernel_rfl) (chunk2 (by kernel_rfl) (by kernel_rfl))|exact VLe.rows (by simp[QX]<;>omega) Qa7|exact VLe.takeR (by first|rfl|(simp;done)|(simp[QX]<;>omega)) (fun _=>rfl)|exact VLe.rows (by simp[QX]<;>omega) Qii|exact VLe.rows (by simp[QX]<;>omega) QjW|exact VLe.rows (by simp) (fun i _=>by simp[Zs,Y14])|refine VLe.aggL ?_|refine VLe.tupL ?_|(refine BLe.rows rfl ?_ fun _ _=>rfl;(first|rfl|assumption|(refine Y0m ?_;assumption)|(simp;done)|(simp[QX]<;>omega)|omega|(simp[QX]<;>(dsimp only at*;omega))))|(refine BLe.rows rfl rfl ?_;first|exact Qa7)|(refine BLe.cutN ?_;(first|rfl|(simp;done)|(simp[QX]<;>omega)|(simp[QX]<;>(dsimp only at*;omega))))|(refine BLe.cut0 ?_;(first|rfl|(simp;done)|(simp[QX]<;>omega)|(simp[QX]<;>(dsimp only at*;omega))))|(refine BLe.rows rfl ?_ Qa7;(first|rfl|(simp;done)|(simp[QX]<;>omega)|omega|(simp[QX]<;>(dsimp only at*;omega))))|refine BLe.box ?_|exact fun _ _=>rfl|exact Qa7|(intro i hi;dsimp only at hi|-;simp only[Ym] at hi;simp[Zs,Qb4,Y0,YK hi (Nat.min_le_left _ _)];done)|(intro i hi;dsimp only at hi|-;rw[<-QnK i hi,Zs,Qb4];simp only[Y0y,Yl])|(first|rfl|assumption|(refine Y0m ?_;assumption)|(simp;done)|(simp[QX]<;>omega)|omega|(simp[QX]<;>(dsimp only at*;omega))))):p:=h
def Qzt:St->List Nat
 |⟨_,_,ts,_,_,_⟩=>ts.map (·.1)
theorem leX {S S':St} (l:List Ed) (h:stK (QtI (Qzt S') S) fun S=>edP l S fun I=>LeP I S':=by exact srA):LE S S':=by
 rw[QhL] at h;have⟨I,h1,h2⟩:=QhP l h;exact(QoG _).trans (h1.trans h2.le)
def Qw8:List ResultVar->List Nat
 |[]=>[]
 | .tmp t::r=>t::Qw8 r
 | .cell x _::r=>x::Qw8 r
def QBM (tb:Tb) (J:List ResultVar) (res:V) (nb:List Nb):Exit->St->Prop:=fun e S'=>match e with
 | .ret=>∃I,LE S' I∧Qr6 tb J I fun v=>VLe v res∧Qyf I.blks nb
 | .normal=>∃I,LE S' I∧Qr6 tb J I fun v=>VLe v res∧Qyf I.blks nb
 | _ => Stuck "return no way out"
theorem lfP {N:List ResultVar} {res:V} {nb:List Nb} (l:List Ed) (h:stK (QtI (Qw8 N) S) fun S=>edP l S fun J=>Qr6 tb N J fun v=>VLe v res∧Qyf J.blks nb:=by exact srA):
  ∃I,LE S I∧Qr6 tb N I fun v=>VLe v res∧Qyf I.blks nb:=by
 rw[QhL] at h;have⟨J,h1,h2⟩:=QhP l h;exact⟨J,(QoG _).trans h1,h2⟩
theorem QtJ (hT:TOk P tb) {fn:Func} {res:V} {nb:List Nb} {S':St} {Y:Act} {w':World} (J:Qcv res=true) (I:∀b∈nb,∀i,i<b.n->∀d∈b.row i,QjM d=true)
  (h:Sim P (Qye w) w [] ρ S' Y w') (hk:Qr6 tb fn.results.toList S' fun v=>VLe v res∧Qyf S'.blks nb):
  Y.defers=[]∧∃v,(results fn Y.tmps).run P w'=.ok v w'∧∃v' ρ',Ending.returned v=.returned v'∧Pure w w'∧VR w' (fun b=>b<w.heap.size) ρ' res v'∧
   (∀b∈nb,BR w' (fun b=>b<w.heap.size) ρ' b.id (.arr b.t b.sz b.n b.row))∧(∀x∈nb,∀y∈nb,(ρ' x.id).ph=false->(ρ' y.id).ph=false->(ρ' x.id).b=(ρ' y.id).b->x.id=y.id)∧(∀x∈nb,(ρ' x.id).ph=false->w.heap.size<=(ρ' x.id).b):=by
 have⟨x,v,h1,h2,h3,h4⟩:=QjK hT h fn _ hk;have U:=Qsa h4;refine⟨h.defers,v,h1,v,ρ,rfl,⟨h.below.os,h.below.tape,h.below.output,h.below.size,h.below.block⟩,(h3.out _ _ _ _ h2).flat J,fun b hb=>?_,fun p hp q hq N a1 a2=>?_,fun p hp N=>?_⟩
 ·have⟨t,n,row,O,g2,g3⟩:=U b hb;subst g2
  cases h.blks _ _ O with
  |arr0 k1 k2 k3 k4=>exact .arr0 k1 k2 k3 k4
  |arr C et k1 k2 k3 k4 k5 k6 k7 k8=>
   exact .arr C et k1 k2 k3 k4 (fun i hi=>by rw[<-g3 i hi];exact k5 i hi) k6 k7 fun i j d hi hd=>(k8 i j d hi (by rw[g3 i hi];exact hd)).atom (I b hb i hi d (Xb hd)) _ _
 ·have⟨_,_,_,O,_⟩:=U p hp;have⟨_,_,_,g2,_⟩:=U q hq;exact h.sep _ _ _ _ O g2 N a1 a2
 ·have⟨_,_,_,O,_⟩:=U p hp;exact Y1a (h.ge _ _ O N).blk
theorem Qzu (hT:TOk P tb) {f:FuncId} {fn:Func} {c:Code} {args:List V} {res:V} {nb:List Nb} (hf:P.funcs[f]? =some fn) (hb:fn.body=some c)
  (h : wpc P tb c ⟨0, fn.ntmps, Qoe 0 args, [], [], []⟩ (QBM tb fn.results.toList res nb)) (hn : (fn.name == "runtime.NumGoroutine") = false := by kernel_rfl)
  (hl:Nat.ble args.length fn.ntmps=true:=by kernel_rfl) (J:Qcv res=true:=by kernel_rfl) (I:∀b∈nb,∀i,i<b.n->∀d∈b.row i,QjM d=true:=by simp[QjM]) (N:nb.Pairwise fun x y=>x.id≠y.id:=by simp) (O:∀id,res.mentions id=true->∃b∈nb,b.id=id:=by exact Qyp rfl):PureC P f args res nb:=by
 refine⟨⟨fn,hf,hn,by simp[hb]⟩,J,I,N,O,fun w vals ρ0 hv U=>?_⟩;have hl:=Yt hl;have hvs:=hv.1;have Y:∀b,own ([]:List (Nat×Blk)) ρ0 b->False:=fun b ⟨_,_,h,_⟩=>by simp[Qk] at h
 refine calls_of_wp hf hb (wp_mono (QaM hT c _ _ h (Qye w) w [] ρ0 ⟨vals++Array.replicate (fn.ntmps-vals.size) undef,[]⟩ w ?_) ?_)
 ·refine⟨⟨Kept.refl _ _,fun _ _ _=>rfl,fun _ _ h=>h.elim⟩,U,fun _ h=>h,rfl,by simp;omega,⟨fun t v ht=>?_,fun g hg=>by simp at hg⟩,fun id b hb=>by simp[Qk] at hb,fun i j x y hx=>by simp[Qk] at hx,fun i x hx=>by simp[Qk] at hx,rfl,fun i f tm hf=>by simp at hf⟩;have⟨_,h2⟩:=Qha ht;have a2:=(Ya.1 h2).1;simp only[Nat.sub_zero] at h2 a2;dsimp only;rw[QjL (by omega)];exact(hv.2 t v h2).keep ⟨Yh _,fun b _ _=>⟨rfl,fun h=>h.elim (Y b) fun h=>h⟩⟩ fun _ _=>rfl
 ·rintro e a' w' ⟨ρ',S',h1,h2⟩
  cases e<;>simp only[QBM] at h2<;>first
   |exact h2.no.elim
   |(have⟨S'',a1,hk⟩:=h2
     have⟨ρ'',h3⟩:=a1.out _ _ _ _ _ _ h1;exact QtJ hT J I h3 hk)
def Qss (M:List (Nat×Blk)) (ts:List (Nat×V)):Nat->List (Nat×Blk)->Prop
 |_,[]=>True
 |t,(j,b)::r=>(match Qk M j with
  |some b'=>Qq3 b b'∧(match Qk ts t with
   |some u=>VLe u (QuW b j)
   | none => Stuck "no anchor")
  |none=>True)∧Qss M ts (t+1) r
def QpW (M bs:List (Nat×Blk)):List Fr->Prop
 |⟨ts,_⟩::_=>Qss M ts 0 bs
 | [] => Stuck "no frame"
theorem QpX {M:List (Nat×Blk)} {ts:List (Nat×V)}:∀ {bs:List (Nat×Blk)} {t:Nat},Qss M ts t bs->∀j b b',Qk bs j=some b->Qk M j=some b'->∃i u,bs[i]? =some (j,b)∧Qq3 b b'∧Qk ts (t+i)=some u∧VLe u (QuW b j)
 |(u,x)::r,t,h,j,b,b',hb,hb'=>by
  simp only[Qss] at h;rcases QY hb with ⟨rfl,rfl⟩|⟨hn,hb⟩
  ·have h1:=h.1;rw[hb'] at h1;have⟨h1,h2⟩:=h1
   cases hl:Qk ts t with
   |none=>rw[hl] at h2;exact h2.no.elim
   |some v=>rw[hl] at h2;exact⟨0,v,rfl,h1,hl,h2⟩
  ·have⟨i,v,h1,h2,h3,h4⟩:=QpX h.2 j b b' hb hb';exact⟨i+1,v,by simpa using h1,h2,by rw[show t+(i+1)=t+1+i by omega];exact h3,h4⟩
 |[],_,_,_,_,_,hb,_=>by simp[Qk] at hb
def Qzv (tb:Tb) (J:List ResultVar) (res:V) (bs M:List (Nat×Blk)):Exit->St->Prop:=fun e S'=>match e with
 | .ret=>∃I,LE S' I∧Qr6 tb J I fun v=>VLe v res∧outB I.blks M∧QpW M bs I.frames
 | .normal=>∃I,LE S' I∧Qr6 tb J I fun v=>VLe v res∧outB I.blks M∧QpW M bs I.frames
 | _ => Stuck "return no way out"
theorem lfE {N:List ResultVar} {res:V} {bs M:List (Nat×Blk)} (l:List Ed) (h:stK (QtI (Qw8 N) S) fun S=>edP l S fun J=>Qr6 tb N J fun v=>VLe v res∧outB J.blks M∧QpW M bs J.frames:=by exact srA):
  ∃I,LE S I∧Qr6 tb N I fun v=>VLe v res∧outB I.blks M∧QpW M bs I.frames:=by
 rw[QhL] at h;have⟨J,h1,h2⟩:=QhP l h;exact⟨J,(QoG _).trans h1,h2⟩
theorem Qyb (hT:TOk P tb) {f:FuncId} {fn:Func} {c:Code} {args:List V} {res:V} {bs M:List (Nat×Blk)} (hf:P.funcs[f]? =some fn) (hb:fn.body=some c)
  (h : wpc P tb c ⟨0, fn.ntmps, Qoe 0 args, [], bs, [⟨QuX 0 bs, []⟩]⟩ (Qzv tb fn.results.toList res bs M)) (hn : (fn.name == "runtime.NumGoroutine") = false := by kernel_rfl)
  (hl:Nat.ble args.length fn.ntmps=true:=by kernel_rfl) (s1:res.within (hasB M)=true:=by kernel_rfl) (s2:Qik (hasB M) M=true:=by kernel_rfl) (s3:Qc5 (fun i=>i) (Qd7 bs)=true:=by kernel_rfl):EffC P f args bs res M:=by
 refine⟨⟨fn,hf,hn,by simp[hb]⟩,s1,s2,fun Z w vals ρ0 hv N U hZ a2 a6=>?_⟩;have hl:=Yt hl;have hvs:=hv.1
 let B:Bd:=⟨fun b=>b<w.heap.size∧¬own bs ρ0 b,Z,fun b hb=>⟨a2 b hb,fun⟨i,x,hx,hp,e⟩=>hZ i x hx hp (e▸hb)⟩,Qzf bs ρ0⟩
 let tm:Array Value:=(bs.map fun p=>Qfd ρ0 p.2 p.1).toArray
 refine calls_of_wp hf hb (wp_mono (QaM hT c _ _ h B w [tm] ρ0 ⟨vals++Array.replicate (fn.ntmps-vals.size) undef,[]⟩ w ?_) ?_)
 ·refine⟨Qq2 N,a6,fun _ h=>h.1,rfl,by simp;omega,⟨fun t v ht=>?_,fun g hg=>by simp at hg⟩,N,U,fun i x hx hp=>Qtx U hx hp,rfl,fun i f t a5 ht=>?_⟩
  ·have⟨_,h2⟩:=Qha ht;have a2:=(Ya.1 h2).1;simp only[Nat.sub_zero] at h2 a2;dsimp only;rw[QjL (by omega)];exact hv.2 t v h2
  ·cases i with
   |succ i=>simp at a5
   |zero=>
    simp only[XQ,Yc] at a5 ht;subst a5 ht;refine⟨fun t v a8=>?_,fun g hg=>by simp at hg⟩;obtain⟨i,j,b,rfl,h1,rfl⟩:=QpO a8;rw[Yl,Qku h1];exact Qw2 (N j b (Ql9 s3 h1))
 ·rintro e a' w' ⟨ρ',S',h1,h2⟩;have key:(∃J,LE S' J∧Qr6 tb fn.results.toList J fun v=>VLe v res∧outB J.blks M∧QpW M bs J.frames)->a'.defers=[]∧∃v,(results fn a'.tmps).run P w'=.ok v w'∧∃v' ρ,Ending.returned v=.returned v'∧KeptE bs ρ0 w w'∧(∀i x y,Qk bs i=some x->Qk M i=some y->Agr (ρ0 i) (ρ i))∧
   VR w' (fun x=>own M ρ x∨Z x) ρ res v'∧(∀i b,Qk M i=some b->BR w' (fun x=>own M ρ x∨Z x) ρ i b)∧
   (∀i j x y,Qk M i=some x->Qk M j=some y->(ρ i).ph=false->(ρ j).ph=false->(ρ i).b=(ρ j).b->i=j)∧
   (∀i x,Qk M i=some x->(ρ i).ph=false->(w.heap.size<=(ρ i).b∨own bs ρ0 (ρ i).b)∧∀k,Qzf bs ρ0 (ρ i).b k->x.bx=true∧(k<(ρ i).o∨(ρ i).o+(ρ i).cap*(ρ i).sz<=k)):=fun hk=>by
   have⟨J,a9,hk⟩:=hk;have⟨ρ',h1⟩:=a9.out _ _ _ _ _ _ h1;have⟨x,v,k1,k2,k3,k4,k5⟩:=QjK hT h1 fn _ hk;have a7:=QuY k4;have I:∀i b,Qk M i=some b->∃b0,Qk J.blks i=some b0∧BLe b0 b:=fun i b hb=>a7 i b (Zb hb);have sub:∀b,own M ρ' b∨Z b->ZM B J.blks ρ' b:=fun b hb=>by
    rcases hb with ⟨i,y,Y,hp,e⟩|hb
    ·have⟨b0,O,_⟩:=I i y Y;exact .inl ⟨i,b0,O,hp,e⟩
    ·exact .inr hb
   refine⟨h1.defers,v,k1,v,ρ',rfl,Qw0 h1.below,fun i y z Y hz=>?_,(k3.out _ _ _ _ k2).mono sub,fun i b hb=>?_,fun i j y z Y hz=>?_,fun i y Y hp=>?_⟩
   ·cases a1:J.frames with
    |nil=>rw[a1] at k5;exact k5.no.elim
    |cons f0 fs=>
     rw[a1] at k5;have⟨ts,gs⟩:=f0;have⟨n,u,O,g2,g3,g7⟩:=QpX k5 i y z Y hz;have⟨z0,g4,g5⟩:=I i z hz;have g6:=g7.out _ _ _ _ ((h1.frames.2 0 ⟨ts,gs⟩ tm (by rw[a1];rfl) rfl).tmps _ _ g3);rw[Yl,Qku O] at g6;exact Qw3 (N i y Y) (g5.out _ _ _ _ (h1.blks i z0 g4)) g2 g6
   ·have⟨b0,O,g2⟩:=I i b hb;exact(g2.out _ _ _ _ (h1.blks i b0 O)).mono sub
   ·have⟨y0,O,_⟩:=I i y Y;have⟨z0,g2,_⟩:=I j z hz;exact h1.sep i j y0 z0 O g2
   ·have⟨y0,O,g2⟩:=I i y Y;have:=h1.ge i y0 O hp;refine⟨?_,fun k hc=>?_⟩
    ·rcases YW (ρ' i).b w.heap.size with h3|h3
     ·exact .inr (Y0u fun h4=>this.blk ⟨h3,h4⟩)
     ·exact .inl h3
    ·have⟨q1,q2⟩:=this.cel k hc;exact⟨by rw[g2.bx];exact q1,q2⟩
  cases e<;>simp only[Qzv] at h2<;>first
   |exact h2.no.elim
   |exact key h2
inductive Tr where
 |e (j:Nat) (pre:List (Nat×Blk)) (res:V) (nb post:List (Nat×Blk))
 |r (j:Nat) (pre:List (Nat×Blk)) (res:V) (nb:List (Nat×Blk))
 |a (j:Nat) (pre:List (Nat×Blk)) (res:V) (post:List (Nat×Blk))
 |l (j:Nat) (pre:List (Nat×Blk)) (res:V)
 |u (j k:Nat) (res:V) (nb:List Nb)
 |x (j:Nat) (pre:List (Nat×Blk)) (res:V) (nb post:List (Nat×Blk)) (ro:List Nat)
def Tr.j:Tr->Nat
 | .e j _ _ _ _=>j
 | .r j _ _ _=>j
 | .a j _ _ _=>j
 | .l j _ _=>j
 | .u j _ _ _=>j
 | .x j _ _ _ _ _=>j
def Tr.c (P:Program):Tr->CS
 | .e _ pre res nb post=>.eff res nb post (fun g vs=>EffD P pre g vs res nb post) (LeB pre post)
 | .r _ pre res nb=>.eff res nb pre (fun g vs=>EffD P pre g vs res nb pre) (LeB pre pre)
 | .a _ pre res post=>.app pre res post
 | .l _ pre res=>.app pre res pre
 | .u _ k res nb=>.pure k res nb
 | .x _ pre res nb post _=>.eff res nb post (fun g vs=>EffD P pre g vs res nb post) (LeB pre post)
def Tr.p:Tr->List (Nat×Blk)
 | .e _ pre _ _ _=>pre
 | .r _ pre _ _=>pre
 | .a _ pre _ _=>pre
 | .l _ pre _=>pre
 | .u _ _ _ _=>[]
 | .x _ pre _ _ _ _=>pre
def Tr.o:Tr->List Nat
 | .r _ pre _ _=>Qd7 pre
 | .l _ pre _=>Qd7 pre
 | .x _ _ _ _ _ ro=>ro
 |_=>[]
noncomputable def trF (l:List Tr) (j:Nat):Option Tr:=List.rec (motive:=fun _=>Option Tr) none (fun t _ I=>match Nat.beq t.j j with
 |true=>some t
 |false=>I) l
noncomputable def tcs (P:Program) (l:List Tr) (j:Nat):Option CS:=match trF l j with
 |some t=>some (t.c P)
 |none=>none
noncomputable def tpr (l:List Tr) (j:Nat):List (Nat×Blk):=match trF l j with
 |some t=>t.p
 |none=>[]
noncomputable def tro (l:List Tr) (j:Nat):List Nat:=match trF l j with
 |some t=>t.o
 |none=>[]
noncomputable def QBN (f:Nat):Nat->List Bool:=Nat.rec (motive:=fun _=>Nat->List Bool) (fun _=>[]) (fun _ I n=>match Nat.beq n 0 with
 |true=>[]
 |false=>Nat.beq (n%2) 1::I (n/2)) f
noncomputable def dm (l:List Nat):List (List Bool):=l.map (QBN 400)
theorem chA {p:Prop} (h:p:=by
 (repeat' first|exact QtB|refine Qq7 rfl ?_|refine QtD rfl (fun _ _ h=>h) (fun h=>h) rfl rfl ?_|refine QtC rfl rfl rfl rfl ?_)):p:=h
theorem Qd3 (hT:TOk P tb) {id:Nat} {I:Array Oper} {S:St} {K:St->Prop} (l:List Tr) (m:Nat) (ls mk J ids:List Nat) (h:Qq6 P tb (tcs P l) (tpr l) (tro l) m (dm mk) ids I.toList S K)
  (N:P.follows .mixedOrders=true:=by kernel_rfl) (O:m<=I.size:=by decide) (Y:(Qsn I.toList (tcs P l) m&&Qks I.toList (tcs P l) m)=true:=by kernel_rfl)
  (a1:Qfv P (tcs P l) (tpr l) (tro l) (Zc S.blks ids) (dm mk) m:=by exact chA) (U:Qih m ls I.toList (dm mk) (dm J)=true:=by kernel_rfl):DrawP P id I S K:=
 Qzk hT N (tcs P l) (tpr l) (tro l) m ls (dm mk) (dm J) ids O Y a1 U h
theorem QQ (hT:TOk P tb) {id:Nat} {I:Array Oper} {S:St} {K:St->Prop} (l:List Tr) (m:Nat) (ls mk J:List Nat) (h:QoF P tb (tcs P l) m (dm mk) I.toList S K)
  (N:P.follows .mixedOrders=true:=by kernel_rfl) (O:m<=I.size:=by decide) (Y:(QqX (tcs P l) m&&Qks I.toList (tcs P l) m)=true:=by kernel_rfl)
  (U:Qih m ls I.toList (dm mk) (dm J)=true:=by kernel_rfl):DrawP P id I S K:=
 QAS hT N (tcs P l) m ls (dm mk) (dm J) O Y U h
theorem eD {pre nb post:List (Nat×Blk)} {f:FuncId} {args args':List V} {bs M:List (Nat×Blk)} {res I:V} (r:List (Nat×Nat)) (k:Nat) (h:EffC P f args' bs I M)
  (O:CellsLe args (Qkt (Qbk r k) args'):=by exact Qya) (hi:inB pre (Qbk r k) bs:=by exact inA) (Y:Qc5 (Qbk r k) (Qd7 bs++Jj bs M)=true:=by kernel_rfl) (U:I.ren (Qbk r k)=res:=by kernel_rfl)
  (N:Ql8 (Qbk r k) bs M [] M=nb:=by kernel_rfl) (J:QqB (Qbk r k) M pre bs=post:=by kernel_rfl):EffD P pre f args res nb post:=Qzi r k h O hi Y U N J
theorem eH {pre post:List (Nat×Blk)} {f:FuncId} {args args':List V} {bs M:List (Nat×Blk)} {res I:V} (r:List (Nat×Nat)) (k:Nat) (h:EffC P f args' bs I M)
  (O:CellsLe args (Qkt (Qbk r k) args'):=by exact Qya) (hi:inB pre (Qbk r k) bs:=by exact inA) (Y:Qc5 (Qbk r k) (Qd7 bs++Jj bs M)=true:=by kernel_rfl) (U:I.ren (Qbk r k)=res:=by kernel_rfl)
  (J:Ql8 (Qbk r k) bs M [] M++QqB (Qbk r k) M pre bs=post:=by kernel_rfl) (N:(Qd7 (Ql8 (Qbk r k) bs M [] M)).all (fun i=>!hasB pre i)=true:=by kernel_rfl):EffD P pre f args res [] post:=Qw6 r k h O hi Y U J N
theorem cC {base nt:Nat} {ts:List (Nat×V)} {gs:List Gd} {bs:List (Nat×Blk)} {fs:List Fr} {f:FuncId} {args args':List V} {res:V} {nb:List Nb} {K:V->St->Prop} (k:Nat) (h:PureC P f args' res nb)
  (I:Qaq (res.shift k) fun v=>Qa5 (nb.map (Nb.ent k)++bs) fun bs=>K v ⟨base,nt,ts,gs,bs,fs⟩) (hv:Qb6 (Qk bs) args=some args':=by kernel_rfl) (hm:(nb.all fun b=>!(St.mentions ⟨base,nt,ts,gs,bs,fs⟩ (b.id+k)))=true:=by kernel_rfl):
  CallP P f args ⟨base,nt,ts,gs,bs,fs⟩ K:=Qza k h hv hm I
theorem cE {base nt:Nat} {ts:List (Nat×V)} {gs:List Gd} {blks:List (Nat×Blk)} {fs:List Fr} {f:FuncId} {args args':List V} {bs M:List (Nat×Blk)} {res:V} {K:V->St->Prop} (r:List (Nat×Nat)) (k:Nat) (h:EffC P f args' bs res M)
  (J:Qaq (res.ren (Qbk r k)) fun v=>Qa5 (Ql8 (Qbk r k) bs M (QqB (Qbk r k) M blks bs) M) fun bs=>K v ⟨base,nt,ts,gs,bs,fs⟩)
  (I:CellsLe args (Qkt (Qbk r k) args'):=by exact Qya) (hi:inB blks (Qbk r k) bs:=by exact inA) (N:Qc5 (Qbk r k) (Qd7 bs++Jj bs M)=true:=by kernel_rfl) (hm:(Jj bs M).all (fun j=>!(St.mentions ⟨base,nt,ts,gs,blks,fs⟩ (Qbk r k j)))=true:=by kernel_rfl):
  CallP P f args ⟨base,nt,ts,gs,blks,fs⟩ K:=QBK r k h I hi N hm J
theorem Qst {blk:Nat->Option Blk} {caps:List (List D)}:∀ {vs I:List V},Qb6 blk vs=some I->Qb6 blk (vs++caps.map .rp)=some (I++caps.map .rp)
 |[],I,h=>by
  simp[Qb6] at h;subst h
  induction caps with
  |nil=>rfl
  |cons c r J=>
   simp only[YA] at J;simp only[YI,YA,Qb6,Qfo,J]
 |v::r,I,h=>by
  simp only[Qb6] at h;split at h
  ·rename_i u1 us1 h1 h2
   cases h
   simp only[Xq,Qb6,h1,Qst h2]
  ·cases h
theorem cDy {base nt:Nat} {ts:List (Nat×V)} {gs:List Gd} {bs:List (Nat×Blk)} {fs:List Fr} {f:FuncId} {args args':List V} {caps:List (List D)} {res:V} {K:V->St->Prop} (h:PureC P f (args'++caps.map .rp) res [])
  (I:Qaq (res.shift 0) fun v=>Qa5 bs fun bs=>K v ⟨base,nt,ts,gs,bs,fs⟩) (hv:Qb6 (Qk bs) args=some args':=by kernel_rfl):
  CallP P f (args++caps.map .rp) ⟨base,nt,ts,gs,bs,fs⟩ K:=Qza 0 h (Qst hv) rfl I
inductive Fnv where
 |k (f:Nat)
 |r (f:Nat) (lo hi:Int)
 |w (f:Nat) (ws:List ByteArray)
deriving DecidableEq
instance:Inhabited Fnv:=⟨.k 0⟩
def Fnv.f:Fnv->Nat
 | .k f=>f
 | .r f _ _=>f
 | .w f _=>f
def Fnv.caps:Fnv->List (List D)
 | .k _=>[]
 | .r _ lo hi=>[[.int .i64 lo],[.int .i64 hi]]
 | .w _ ws=>[[slD Qi ws]]
@[reducible] def Qby (c:Fnv):List D:=[.fn c.f c.caps]
def Qph {α:Type} [Inhabited α] (xs:List α) (o l:Nat):List α:=(List.range xs.length).map fun i=>if o<=i∧i<o+l then default else xs.getD i default
@[simp] theorem Qzw {α:Type} [Inhabited α] {xs:List α} {o l:Nat}:(Qph xs o l).length=xs.length:=by simp [Qph]
theorem Qk0 {α:Type} [Inhabited α] {enc:α->List D} {xs:List α} {n o l:Nat} {z:List D} (I:n=xs.length) (J:zLes z (enc default)):∀i,i<n->(o<=i∧i<o+l->zLes z (rows enc (Qph xs o l) i))∧(¬(o<=i∧i<o+l)->rows enc (Qph xs o l) i=rows enc xs i):=by
 intro i hi;subst I;have:(Qph xs o l).getD i default=if o<=i∧i<o+l then default else xs.getD i default:=by
  simp[Qph,Y0,hi]
 simp only[rows];rw[this];exact⟨fun h=>by rw[Y4 h];exact J,fun h=>by rw[Y3 h]⟩
theorem zlA {p:Prop} (h:p:=by(repeat' first|((conv=>whnf);first|exact trivial|refine Y0x ?_ ?_)|exact .inl rfl|exact .inr ⟨rfl,_,rfl⟩)):p:=h
def Qzx (P:Program) (f:FuncId):Bool:=match P.funcs[f]? with
 | some fn => !(fn.name == "runtime.NumGoroutine") && !fn.body.isNone
 |none=>false
theorem cG {S S':St} {al l:List (Nat×Bool)} {f:FuncId} {args args':List V} {res:V} {K:V->St->Prop} {key:Nat} {want:Bool} (h:QaL S al l (PureC P f args' res [])) (N:K res S') (I:Qzx P f=true:=by kernel_rfl)
  (hv:Qb6 (Qk S'.blks) args=some args':=by kernel_rfl) (J:Qcv res=true:=by kernel_rfl) (hm:res.plain=true:=by kernel_rfl):CallG P (QaL S al l) (QeQ S' key want) f args S' K:=by
 unfold Qzx at I;split at I
 ·rename_i fn e;rw[Y2,YF,YF] at I;exact Qzd e I.1 I.2 hv J hm h N
 ·exact absurd I (by decide)
theorem Qmd {f:FuncId} (I:Qzx P f=true):Callable P f:=by
 unfold Qzx at I;split at I
 ·rename_i fn e;rw[Y2,YF,YF] at I;exact⟨fn,e,I.1,I.2⟩
 ·exact absurd I (by decide)
theorem Qw9 {S:St} {key:Nat} {want:Bool} {p q:Prop} (I:p->q) (hp:QeQ S key want p):QeQ S key want q:=Qnk I hp
theorem QqG {base nt:Nat} {ts:List (Nat×V)} {gs:List Gd} {blks:List (Nat×Blk)} {fs:List Fr} {al l:List (Nat×Bool)} {key:Nat} {want:Bool} {f:FuncId} {args args':List V} {bs M:List (Nat×Blk)} {res:V} {K:V->St->Prop}
  (r:List (Nat×Nat)) (k:Nat) (h:EffC P f args' bs res M) (hb:QeQ ⟨base,nt,ts,gs,blks,fs⟩ key want False)
  (N:Qaq (res.ren (Qbk r k)) fun v=>Qa5 (Ql8 (Qbk r k) bs M (QqB (Qbk r k) M blks bs) M) fun bs=>K v ⟨base,nt,ts,gs,bs,fs⟩)
  (J:Qzx P f=true:=by kernel_rfl) (I:CellsLe args (Qkt (Qbk r k) args'):=by exact Qya) (hi:inB blks (Qbk r k) bs:=by exact inA) (O:Qc5 (Qbk r k) (Qd7 bs++Jj bs M)=true:=by kernel_rfl) (hm:(Jj bs M).all (fun j=>!(St.mentions ⟨base,nt,ts,gs,blks,fs⟩ (Qbk r k j)))=true:=by kernel_rfl):
  CallG P (QaL ⟨base,nt,ts,gs,blks,fs⟩ al l) (QeQ ⟨base,nt,ts,gs,blks,fs⟩ key want) f args ⟨base,nt,ts,gs,blks,fs⟩ K:=by
 have⟨fn,e,h1,h2⟩:=Qmd J;exact Qzl r k e h1 h2 (Qoy h) I hi O hm (Qw9 False.elim hb) N
theorem QkZ {S:St} {al l:List (Nat×Bool)} {key:Nat} {want:Bool} {f:FuncId} {args:List V} {K:V->St->Prop} (x:V) (N:K x S) (I:QaL S al l False) (J:Qzx P f=true:=by kernel_rfl):
  CallG P (QaL S al l) (QeQ S key want) f args S K:=
 ⟨Qmd J,x,S,N,Qdf (fun q=>q.elim) I,Qr4 fun _ _ _ ρ _ _ h=>⟨ρ,h⟩⟩
theorem Qr {p q:Prop} {b:Bool} {α:Type} {x y:Option α} {r:α} (h:(if b=true then x else y)=some r) (hp:b=true->x=some r->p) (I:b=false->y=some r->q):(b=true->p)∧(b=false->q):=
 ⟨fun e=>hp e (QAO h e),fun e=>I e (QAP h e)⟩
theorem spI {p:Prop} {b:Bool} {α:Type} {x y:Option α} {r:α} (h:(if b=true then x else y)=some r) (hp:b=true->x=some r->p) (I:b=false->y=some r->p):p:=by
 cases hb:b
 ·exact I hb (QAP h hb)
 ·exact hp hb (QAO h hb)
theorem QAx {α β:Type} [Inhabited α] {xs:List α} {i:Nat} {e:α} {k:List α->Option β} {r:β} (h:bd (some (xs.set i e)) k=some r):∃y,xs.set i e=y∧y.length=xs.length∧k y=some r:=by
 have⟨y,h1,h2⟩:=Qc h;exact⟨y,YC h1,Qzc (YC h1),h2⟩
theorem QdW {α:Type} [Inhabited α] {enc:α->List D} {xs ys:List α} {n m:Nat} {r J:Nat->List D} {K:Nat->(Nat->List D)->Prop} (k:K (xs++ys).length (rows enc (xs++ys)))
  (I:n=xs.length:=by first|rfl|assumption|(refine Y0m ?_;assumption)|(simp;done)|(simp[QX]<;>omega)|omega) (hm:m=ys.length:=by first|rfl|assumption|(refine Y0m ?_;assumption)|(simp;done)|(simp[QX]<;>omega)|omega)
  (h1:∀i,i<n->r i=rows enc xs i:=by first|exact fun _ _=>rfl|exact Qa7|(intro i hi;simp only[Zs,Qb4,Y0y,Yl,X3];exact Qa7 i hi)|exact QjW|exact Qii|(intro i hi;simp only[Zs,Yl])|(intro i hi;simp[Zs]))
  (h2:∀i,i<m->J i=rows enc ys i:=by first|exact fun _ _=>rfl|exact Qa7|(intro i hi;simp only[Zs,Qb4,Y0y,Yl,X3];exact Qa7 i hi)|exact QjW|exact Qii|(intro i hi;simp only[Zs,Yl])|(intro i hi;simp[Zs])):
  ∃c row,c=n+m∧(∀i,i<c->row i=QeY n r J i)∧K c row:=
 ⟨(xs++ys).length,rows enc (xs++ys),by rw[Yj,I,hm],QwW I hm h1 h2,k⟩
theorem Qx9 {α:Type} [Inhabited α] {enc:α->List D} {ys:List α} {m:Nat} {I:Nat->List D} {K:Nat->(Nat->List D)->Prop} (k:K ys.length (rows enc ys))
  (hm:m=ys.length:=by first|rfl|assumption|(refine Y0m ?_;assumption)|(simp;done)|(simp[QX]<;>omega)|omega)
  (h2:∀i,i<m->I i=rows enc ys i:=by first|exact fun _ _=>rfl|exact Qa7|(intro i hi;simp only[Zs,Qb4,Y0y,Yl,X3];exact Qa7 i hi)|exact QjW|exact Qii|(intro i hi;simp only[Zs,Yl])|(intro i hi;simp[Zs])):
  ∃c row,c=m∧(∀i,i<c->row i=I i)∧K c row:=⟨ys.length,rows enc ys,hm.symm,QuS hm h2,k⟩
theorem Z6 {α:Type} {enc:α->List D} [Inhabited α] (ys:List α) {n:Nat} {I:List (List D)} {K:Nat->(Nat->List D)->Prop} (k:K ys.length (rows enc ys)) (N:ys.length=n:=by kernel_rfl) (J:I=ys.map enc:=by kernel_rfl):
  ∃c row,c=n∧(∀i,i<c->row i=QkM I i)∧K c row:=⟨ys.length,rows enc ys,N,by subst J;exact Qtv,k⟩
theorem QB8 {α:Type} [Inhabited α] {enc:α->List D} {xs y:List α} {n r off:Nat} {ds:List D} {e:α} {K:(Nat->List D)->Prop} (J:xs.set r e=y) (k:K (rows enc y)) (I:n=xs.length:=by first|rfl|assumption|(refine Y0m ?_;assumption)|(simp;done)|(simp[QX]<;>omega)|omega) (h:Qc2 (rows enc xs r) off ds=enc e:=by kernel_rfl):
  ∃row,(∀i,i<n->row i=if i=r then Qc2 (rows enc xs r) off ds else rows enc xs i)∧K row:=⟨rows enc y,Qq1 J I h,k⟩
theorem gdI {c:Prop} {α:Type} {m:Option α} {r:α} {p:Prop} (h:gd c m=some r) (k:m=some r->p):c∧p:=⟨(Qe h).1,k (Qe h).2⟩
theorem aI {a b:Prop} (h:a) (k:b):a∧b:=⟨h,k⟩
theorem aK {a b:Prop} (k:b) (h:a:=by kernel_rfl):a∧b:=⟨h,k⟩
theorem pY (U:TOk P tb) {f:FuncId} (fn:Func) {args:List V} {res:V} {nb:List Nb} (Y:P.funcs[f]? =some fn)
  (h : wpc P tb (Qfk fn) ⟨0, fn.ntmps, Qoe 0 args, [], [], []⟩ (QBM tb fn.results.toList res nb)) (hb : fn.body = some (Qfk fn) := by rfl) (hn : (fn.name == "runtime.NumGoroutine") = false := by kernel_rfl)
  (hl:Nat.ble args.length fn.ntmps=true:=by kernel_rfl) (I:Qcv res=true:=by kernel_rfl) (J:∀b∈nb,∀i,i<b.n->∀d∈b.row i,QjM d=true:=by simp[QjM]) (N:nb.Pairwise fun x y=>x.id≠y.id:=by simp) (O:∀id,res.mentions id=true->∃b∈nb,b.id=id:=by exact Qyp rfl):PureC P f args res nb:=
 Qzu U Y hb h hn hl I J N O
theorem eY (J:TOk P tb) {f:FuncId} (fn:Func) {args:List V} {res:V} {bs M:List (Nat×Blk)} (O:P.funcs[f]? =some fn)
  (h : wpc P tb (Qfk fn) ⟨0, fn.ntmps, Qoe 0 args, [], bs, [⟨QuX 0 bs, []⟩]⟩ (Qzv tb fn.results.toList res bs M)) (hb : fn.body = some (Qfk fn) := by rfl) (U : (fn.name == "runtime.NumGoroutine") = false := by kernel_rfl)
  (hl:Nat.ble args.length fn.ntmps=true:=by kernel_rfl) (N:res.within (hasB M)=true:=by kernel_rfl) (I:Qik (hasB M) M=true:=by kernel_rfl) (Y:Qc5 (fun i=>i) (Qd7 bs)=true:=by kernel_rfl):EffC P f args bs res M:=
 Qyb J O hb h U hl N I Y
theorem bC {α β:Type} {m:Option α} {g:α->Option β} {r:β} {base nt:Nat} {ts:List (Nat×V)} {gs:List Gd} {bs:List (Nat×Blk)} {fs:List Fr} {f:FuncId} {args args':List V} {res:α->V} {nb:α->List Nb} {K:V->St->Prop} (hb:bd m g=some r) (k:Nat) (h:∀x,m=some x->PureC P f args' (res x) (nb x))
  (I:∀x,g x=some r->Qaq ((res x).shift k) fun v=>Qa5 ((nb x).map (Nb.ent k)++bs) fun bs=>K v ⟨base,nt,ts,gs,bs,fs⟩) (hv:Qb6 (Qk bs) args=some args':=by kernel_rfl) (hm:∀x,((nb x).all fun b=>!(St.mentions ⟨base,nt,ts,gs,bs,fs⟩ (b.id+k)))=true:=by intro _;kernel_rfl):
  CallP P f args ⟨base,nt,ts,gs,bs,fs⟩ K:=by
 have⟨x,J,h2⟩:=Qc hb;exact cC k (h x J) (I x h2) hv (hm x)
theorem bE {α β:Type} {m:Option α} {g:α->Option β} {w:β} {base nt:Nat} {ts:List (Nat×V)} {gs:List Gd} {blks:List (Nat×Blk)} {fs:List Fr} {f:FuncId} {args args':List V} {bs:List (Nat×Blk)} {M:α->List (Nat×Blk)} {res:α->V} {K:V->St->Prop} (hb:bd m g=some w) (r:List (Nat×Nat)) (k:Nat) (h:∀x,m=some x->EffC P f args' bs (res x) (M x))
  (N:∀x,g x=some w->Qaq ((res x).ren (Qbk r k)) fun v=>Qa5 (Ql8 (Qbk r k) bs (M x) (QqB (Qbk r k) (M x) blks bs) (M x)) fun bs=>K v ⟨base,nt,ts,gs,bs,fs⟩)
  (J:CellsLe args (Qkt (Qbk r k) args'):=by exact Qya) (hi:inB blks (Qbk r k) bs:=by exact inA) (O:∀x,Qc5 (Qbk r k) (Qd7 bs++Jj bs (M x))=true:=by intro _;kernel_rfl) (hm:∀x,(Jj bs (M x)).all (fun j=>!(St.mentions ⟨base,nt,ts,gs,blks,fs⟩ (Qbk r k j)))=true:=by intro _;kernel_rfl):
  CallP P f args ⟨base,nt,ts,gs,blks,fs⟩ K:=by
 have⟨x,I,h2⟩:=Qc hb;exact cE r k (h x I) (N x h2) J hi (O x) (hm x)
theorem bG {α β:Type} [Inhabited α] {c:Prop} {m:Option α} {g:α->Option β} {r:β} {S S':St} {al l:List (Nat×Bool)} {f:FuncId} {args args':List V} {res:α->V} {K:V->St->Prop} {key:Nat} {want:Bool} (hb:bd (Qv c m) g=some r) (h:∀x,m=some x->PureC P f args' (res x) []) (U:∀x,g x=some r->K (res x) S') (hp:∀p:Prop,(c->p)->QaL S al l p:=by exact fun _ k J=>k J) (O:Qzx P f=true:=by kernel_rfl)
  (hv:Qb6 (Qk S'.blks) args=some args':=by kernel_rfl) (I:∀x,Qcv (res x)=true:=by intro _;kernel_rfl) (hm:∀x,(res x).plain=true:=by intro _;kernel_rfl):CallG P (QaL S al l) (QeQ S' key want) f args S' K:=by
 have⟨x,N,h2⟩:=Qc hb;exact cG (hp _ fun hc=>h x (Qt N hc)) (U x h2) O hv (I x) (hm x)
theorem eX {α β:Type} {y:α⊕β} {a:α} {S:St} {I:α->St} (hs:some (.inl a)=some y) (l:List Ed) (h:stK (QtI (Qzt (I a)) S) fun S=>edP l S fun J=>LeP J (I a):=by exact srA):∃s,y=.inl s∧LE S (I s):=by
 cases hs
 exact⟨a,rfl,leX l h⟩
theorem eZ {α:Type} {y a:α} {S:St} {I:α->St} (hs:some a=some y) (l:List Ed) (h:stK (QtI (Qzt (I a)) S) fun S=>edP l S fun J=>LeP J (I a):=by exact srA):∃s,y=s∧LE S (I s):=by
 obtain rfl:=YC hs;exact⟨a,rfl,leX l h⟩
end Go.Ab
