/-
  Models and walks beside them; plain facts on loops: a part of the frame in which a given row's proof walks the program; no condition.
-/
import Derived.Test.YtoknnjiangjccaaGreatDoorAbz5
import Derived.Test.YtoknnjiangjccaaGreatDoorAbz2
import Derived.Test.YtoknnjiangjccaaGreatDoorAbz4
import Derived.Sort.Row
import Derived.Sort.Grow
import Derived.Sort.EncStr
import Derived.Lib.SlicesCompact
import Derived.LoopN
set_option linter.all false
namespace Go.Ab
open Go.RowKit
variable {P:Program} {tb:Tb} {S:St} {α β σ:Type}
open Classical in
noncomputable def gd (c:Prop) (m:Option α):Option α:=if c then m else none
theorem Qf {c:Prop} {m:Option α} {r:α} (h:gd c m=some r):c∧m=some r:=by
 unfold gd at h;split at h
 ·exact⟨‹_›,h⟩
 ·cases h
theorem Qd {c:Prop} {m:Option α} (h:c):gd c m=m:=Y2 h
def bd (m:Option α) (k:α->Option β):Option β:=match m with
 |some x=>k x
 |none=>none
theorem Qb {m:Option α} {k:α->Option β} {r:β} (h:bd m k=some r):∃x,m=some x∧k x=some r:=by
 cases m with
 |none=>cases h
 |some x=>exact⟨x,rfl,h⟩
@[simp] theorem Qa {x:α} {k:α->Option β}:bd (some x) k=k x:=rfl
theorem Qy9 {b:Bool} {x y:Option α} {r:α} (h:(if b=true then x else y)=some r) (e:b=true):x=some r:=by rwa[Y2 e] at h
theorem Qza {b:Bool} {x y:Option α} {r:α} (h:(if b=true then x else y)=some r) (e:b=false):y=some r:=by rwa[Y0 (by rw[e];decide)] at h
open Classical in
noncomputable def gcall (c:Prop) [Inhabited α] (m:Option α):Option α:=if c then m else some default
theorem Qe {c:Prop} [Inhabited α] {m:Option α} (h:c):gcall c m=m:=Y2 h
theorem QO {c:Prop} [Inhabited α] {m:Option α} (h:¬c):gcall c m=some default:=Y0 h
theorem Qn {c:Prop} [Inhabited α] {m:Option α} {x:α} (h:gcall c m=some x) (hc:c):m=some x:=by rwa[gcall,Y2 hc] at h
def lpN (step:σ->Option (σ⊕β)):Nat->σ->Option β
 |0,_=>none
 |n+1,s=>match step s with
  |none=>none
  |some (.inl s')=>lpN step n s'
  |some (.inr b)=>some b
theorem QqX {step:σ->Option (σ⊕β)}:∀ {n:Nat} {s:σ} {b:β},lpN step n s=some b->lpN step (n+1) s=some b
 |0,_,_,h=>by cases h
 |n+1,s,b,h=>by
  unfold lpN at h|-;split
  ·rename_i hs;rw[hs] at h;exact h
  ·rename_i s' hs;rw[hs] at h;exact QqX h
  ·rename_i b' hs;rw[hs] at h;exact h
theorem Qws {step:σ->Option (σ⊕β)} {n m:Nat} {s:σ} {b:β} (h:lpN step n s=some b) (hm:n<=m):lpN step m s=some b:=by
 induction hm with
 |refl=>exact h
 |step _ G=>exact QqX G
open Classical in
noncomputable def lp (step:σ->Option (σ⊕β)) (s:σ):Option β:=if h:∃b,∃n,lpN step n s=some b then some (Classical.choose h) else none
theorem QmJ {step:σ->Option (σ⊕β)} {s:σ} {b:β}:lp step s=some b↔ ∃n,lpN step n s=some b:=by
 unfold lp
 constructor
 ·intro h;split at h
  ·rename_i G;cases h;exact Classical.choose_spec G
  ·cases h
 ·rintro⟨n,I⟩;have G:∃b,∃n,lpN step n s=some b:=⟨b,n,I⟩;rw[dif_pos G];have⟨m,hm⟩:=Classical.choose_spec G;have h1:=Qws I (Nat.le_max_left n m);have h2:=Qws hm (Nat.le_max_right n m);rw[h1] at h2
  cases h2;rfl
theorem Z8 {step:σ->Option (σ⊕β)} {s:σ} {b:β} (h:step s=some (.inr b)):lp step s=some b:=QmJ.2 ⟨1,by rw[lpN,h]⟩
theorem J2 {step:σ->Option (σ⊕β)} {s s':σ} (h:step s=some (.inl s')):lp step s=lp step s':=by
 cases e:lp step s' with
 |some b=>have⟨n,G⟩:=QmJ.1 e;exact QmJ.2 ⟨n+1,by rw[lpN,h];exact G⟩
 |none=>
  cases I:lp step s with
  |none=>rfl
  |some b=>
   have⟨n,G⟩:=QmJ.1 I
   cases n with
   |zero=>cases G
   |succ n=>
    rw[lpN,h] at G;rw[QmJ.2 ⟨n,G⟩] at e;cases e
theorem QF (hT:TOk P tb) {step:σ->Option (σ⊕β)} {s0:σ} {x:β} {c:Code} {Q:Exit->St->Prop} (hx:lp step s0=some x) (G:σ->St) (h0:LE S (G s0))
  (J:∀s y,step s=some y->(∀v,y=.inr v->v=x)->wpc P tb c (G s) fun e S'=>match e with
   | .normal=>∃s',y=.inl s'∧LE S' (G s')
   |e=>Q e S'):LoopP P c S Q:=by
 have⟨n0,a1⟩:=QmJ.1 hx;refine⟨Qw7 h0 fun B w0 F ρ a w hs=>?_⟩;refine wp_loop_ghost (fun n a w=>∃s ρ,lpN step n s=some x∧Sim P B w0 F ρ (G s) a w) n0 ⟨s0,ρ,a1,hs⟩ ?_;rintro n a w ⟨s,ρ,I,hs⟩
 cases n with
 |zero=>cases I
 |succ n=>
  cases O:step s with
  |none=>rw[lpN,O] at I;cases I
  |some y=>
   refine wp_mono (Qam hT c _ _ (J s y O fun v hv=>by rw[lpN,O,hv] at I;cases I;rfl) B w0 F ρ a w hs) ?_;rintro e a' w' ⟨ρ',S',h1,h2⟩
   cases e with
   |normal=>
    obtain⟨s',rfl,Y⟩:=h2;have⟨U,h3⟩:=Y.out B w0 F ρ' a' w' h1;rw[lpN,O] at I;exact⟨n,Nat.lt_succ_self n,s',U,I,h3⟩
   |_=>exact⟨ρ',S',h1,h2⟩
@[reducible] def encSb (s:ByteArray):List D:=[.str s]
@[reducible] def Qfk [Inhabited α] (enc:α→List D) (xs:List α):List D:=[slD enc xs]
variable [Inhabited α] {enc:α→List D}
theorem Qr6 {xs:List α} {r off:Nat} {ds:List D} {e:α} (h:QcO (rows enc xs r) off ds=enc e):∀i,i<xs.length->rows enc (xs.set r e) i=if i=r then QcO (rows enc xs r) off ds else rows enc xs i:=by
 intro i hi;split
 ·rename_i G;subst G;rw[h];simp[rows,Y1,hi]
 ·rename_i G;simp[rows,Y1,YU G]
theorem QaJ {xs:List α} {n r off:Nat} {ds:List D} {e:α} (G:n=xs.length) (h:QcO (rows enc xs r) off ds=enc e):∀i,i<n->rows enc (xs.set r e) i=if i=r then QcO (rows enc xs r) off ds else rows enc xs i:=by
 subst G;exact Qr6 h
theorem Qxi {xs y:List α} {r:Nat} {e:α} (h:xs.set r e=y):y.length=xs.length:=by rw[<-h];simp
theorem Qp5 {xs y:List α} {n r off:Nat} {ds:List D} {e:α} (I:xs.set r e=y) (G:n=xs.length) (h:QcO (rows enc xs r) off ds=enc e):∀i,i<n->rows enc y i=if i=r then QcO (rows enc xs r) off ds else rows enc xs i:=by
 subst I;exact QaJ G h
theorem Qr7 {ys:List α}:∀i,i<ys.length->rows enc ys i=rowAt (ys.map enc) i:=by
 intro i hi;simp[rows,rowAt,Y1,hi]
theorem Qu9 {xs ys:List α} {n m:Nat} {r J:Nat->List D} (O:n=xs.length) (hm:m=ys.length) (h1:∀i,i<n->r i=rows enc xs i) (h2:∀i,i<m->J i=rows enc ys i):
  ∀i,i<(xs++ys).length->rows enc (xs++ys) i=Qey n r J i:=by
 intro i hi;subst O hm;simp only[Qey,rows];split
 ·rename_i G;rw[h1 i G];simp[rows,Y1,Yy G]
 ·rename_i I;rw[Yk] at hi;rw[h2 _ (by omega)];simp[rows,Y1,YX (Y0l I)]
theorem Qtm {ys:List α} {m:Nat} {G:Nat->List D} (hm:m=ys.length) (h2:∀i,i<m->G i=rows enc ys i):∀i,i<ys.length->rows enc ys i=G i:=by
 intro i hi;subst hm;rw[h2 i hi]
theorem QaZ {xs:List α} {n:Nat}:∀i,i<n->rows enc xs i=rows enc (xs.take n) i:=by
 intro i hi;simp[rows,Y1,hi]
theorem QhI {xs:List α} {k n:Nat}:∀i,i<n->rows enc xs (i+k)=rows enc ((xs.take (k+n)).drop k) i:=by
 intro i hi;simp[rows,Y1,YR,Y0g i k,hi]
theorem Qja {xs:List α} {k n:Nat}:∀i,i<n->Zy k (rows enc xs) i=rows enc ((xs.take (k+n)).drop k) i:=by
 intro i hi;rw[QgT,Y0g];exact QhI i hi
theorem VLe.takeR {n k:Nat} {row:Nat->List D} {xs:List α} (G:n=(xs.take k).length) (I:∀i,row i=Ab.rows enc xs i):VLe (.d (.sl n row)) (.d (slD enc (xs.take k))):=
 VLe.rows G fun i hi=>by
  have:i<k:=by simp at G;omega
  rw[I];simp[Ab.rows,Y1,this]
theorem zlA {p:Prop} (h:p:=by(repeat' first|((conv=>whnf);first|exact trivial|refine YD ?_ ?_)|exact .inl rfl|exact .inr ⟨rfl,_,rfl⟩)):p:=h
def zLess:List (List D)->List (List D)->Prop
 |[],[]=>True
 |a::r,b::s=>zLes a b∧zLess r s
 |_,_=>False
theorem zLess.at:∀ {rs:List (List D)} {ys:List α},zLess rs (ys.map enc)->∀i,i<ys.length->zLes (rowAt rs i) (Ab.rows enc ys i)
 |[],[],_,i,hi=>by simp at hi
 |a::r,y::s,h,0,_=>h.1
 |a::r,y::s,h,i+1,hi=>by
  have:=zLess.at (rs:=r) (ys:=s) h.2 i (by simpa using hi);simpa[rowAt,Ab.rows] using this
 |[],_::_,h,_,_=>h.elim
 |_::_,[],h,_,_=>h.elim
theorem VLe.builtZ {ys:List α} {rs:List (List D)} {n:Nat} (O:n=ys.length) (h:zLess rs (ys.map enc)):VLe (.d (.sl n (rowAt rs))) (.d (slD enc ys)):=⟨fun w ow ρ x U=>by
 subst O
 cases U with
 |d I=>
  cases I with
  |sl0 G=>exact .d (.sl0 G)
  |sl vals ho hb hl hc hv hcap=>
   refine .d (.sl vals ho hb (fun i hi=>by rw[<-(zLess.at h i hi).len];exact hl i hi) (fun i j d hi I=>?_) (fun i j d hi I=>?_) hcap)
   ·have⟨J,G,_⟩:=(zLess.at h i hi).get I;exact hc i j J hi G
   ·have⟨J,G,Y⟩:=(zLess.at h i hi).get I;exact(hv i j J hi G).zle Y⟩
theorem QwV {base nt:Nat} {ts:List (Nat×V)} {gs:List Gd} {bs:List (Nat×Blk)} {fs:List Fr} {f:FuncId} {args G args':List V} {res:V} {nb:List Nb} {K:V->St->Prop} (k:Nat) (h:PureC P f args' res nb)
  (hv:QbZ (Qi bs) args=some G) (I:CellsLe G args') (hm:(nb.all fun b=>!(St.mentions ⟨base,nt,ts,gs,bs,fs⟩ (b.id+k)))=true) (hk:Qal (res.shift k) fun v=>Qay (nb.map (Nb.ent k)++bs) fun bs=>K v ⟨base,nt,ts,gs,bs,fs⟩):
  CallP P f args ⟨base,nt,ts,gs,bs,fs⟩ K:=Qxf k (h.le I) hv hm hk
theorem QwT {g:FuncId} {blk:Nat->Option Blk} {vs G args':List V} {res:V} {nb:List Nb} (h:PureC P g args' res nb) (hv:QbZ blk vs=some G) (I:CellsLe G args'):CallD P id g blk vs res nb:=QN (h.le I) hv
mutual
def V.plain:V->Bool
 | .d _=>true
 | .any=>true
 | .rp _=>true
 | .agg vs=>QmK vs
 | .tup vs=>QmK vs
 | .fn _ vs=>QmK vs
 |_=>false
def QmK:List V->Bool
 |[]=>true
 |v::r=>v.plain&&QmK r
end
mutual
theorem V.plain_ment (v:V) (id:Nat) (h:v.plain=true):v.mentions id=false:=by
 cases v with
 |agg vs=>exact QfC vs id h
 |tup vs=>exact QfC vs id h
 |fn f vs=>exact QfC vs id h
 |ref=>cases h
 |osl=>cases h
 |_=>rfl
theorem QfC (vs:List V) (id:Nat) (h:QmK vs=true):QU id vs=false:=by
 cases vs with
 |nil=>rfl
 |cons v r=>
  simp only[QmK,Y4] at h
  simp only[QU,V.plain_ment v id h.1]
  exact QfC r id h.2
end
theorem Qxj {S' : St} {al l : List (Nat × Bool)} {f : FuncId} {fn : Func} {args args' : List V} {res : V} {K : V -> St -> Prop} {key : Nat} {want : Bool} (J : P.funcs[f]? = some fn) (I : (fn.name == "runtime.NumGoroutine") = false) (hb : fn.body.isNone = false)
  (hv:QbZ (Qi S'.blks) args=some args') (G:Qcl res=true) (hm:res.plain=true) (h:Qaz S al l (PureC P f args' res [])) (hk:K res S'):CallG P (Qaz S al l) (Qev S' key want) f args S' K:=
 Qu8 J I hb hv G (fun id=>V.plain_ment res id hm) h hk
mutual
def V.ren (f:Nat->Nat):V->V
 | .ref i r o=>.ref (f i) r o
 | .osl i o l=>.osl (f i) o l
 | .agg vs=>.agg (QjF f vs)
 | .tup vs=>.tup (QjF f vs)
 | .fn g vs=>.fn g (QjF f vs)
 | .any=>.any
 | .d x=>.d x
 | .rp cs=>.rp cs
def QjF (f:Nat->Nat):List V->List V
 |[]=>[]
 |v::r=>v.ren f::QjF f r
end
theorem Qdu {f:Nat->Nat}:∀(vs:List V) (j:Nat),(QjF f vs)[j]? =(vs[j]?).map (V.ren f)
 |[],j=>by simp[QjF]
 |v::r,0=>by simp[QjF]
 |v::r,j+1=>by simpa[QjF] using Qdu r j
theorem JE {f:Nat->Nat}:∀(vs:List V),(QjF f vs).length=vs.length
 |[]=>rfl
 |v::r=>by simp[QjF,JE r]
def Blk.ren (f:Nat->Nat):Blk->Blk
 | .box t cs=>.box t (QjF f cs)
 | .arr t sz n row=>.arr t sz n row
theorem Blk.ren_bx (f:Nat->Nat) (b:Blk):(b.ren f).bx=b.bx:=by cases b<;>rfl
def Qwt (f:Nat->Nat):List (Nat×V)->List (Nat×V)
 |[]=>[]
 |(t,v)::r=>(t,v.ren f)::Qwt f r
def Qwu (f:Nat->Nat):List Gd->List Gd
 |[]=>[]
 |⟨t,k,w,v⟩::r=>⟨t,k,w,v.ren f⟩::Qwu f r
def Qva (f:Nat->Nat):List (Nat×Blk)->List (Nat×Blk)
 |[]=>[]
 |(i,b)::r=>(f i,b.ren f)::Qva f r
def Qvb (f:Nat->Nat):List Fr->List Fr
 |[]=>[]
 |⟨ts,gs⟩::r=>⟨Qwt f ts,Qwu f gs⟩::Qvb f r
def St.ren (f:Nat->Nat):St->St
 |⟨base,nt,ts,gs,bs,fs⟩=>⟨base,nt,Qwt f ts,Qwu f gs,Qva f bs,Qvb f fs⟩
section
variable {w:World} {ow:Nat→Prop} {ρ ρ':Env} {f:Nat→Nat}
theorem VR.ren {v x} (h:VR w ow ρ v x) (J:∀i,ρ' (f i)=ρ i):VR w ow ρ' (v.ren f) x:=by
 induction h with
 |any=>exact .any
 |d h=>exact .d h
 |ref h1 h2=>rename_i id row off;rw[<-J id] at*;exact .ref h1 h2
 |osl0 O h1=>rename_i id off len ad;rw[<-J id] at*;exact .osl0 O h1
 |osl h1 h2 h3=>rename_i id off len;rw[<-J id] at*;exact .osl h1 h2 h3
 |rp vals ho hb hc U=>exact .rp vals ho hb hc U
 |agg hs h1 hv I=>
  refine .agg (by rw[JE];exact hs) h1 fun j v hj=>?_;rw[Qdu] at hj;obtain⟨v',G,rfl⟩:=Yc.1 hj;exact I j v' G
 |tup hs hv I=>
  refine .tup (by rw[JE];exact hs) fun j v hj=>?_;rw[Qdu] at hj;obtain⟨v',G,rfl⟩:=Yc.1 hj;exact I j v' G
 |fn hs hv I=>
  refine .fn (by rw[JE];exact hs) fun j v hj=>?_;rw[Qdu] at hj;obtain⟨v',G,rfl⟩:=Yc.1 hj;exact I j v' G
theorem BR.ren {id:Nat} {b:Blk} (h:BR w ow ρ id b) (G:∀i,ρ' (f i)=ρ i):BR w ow ρ' (f id) (b.ren f):=by
 cases h with
 |box C h1 h2 h3 h4 h5 h6 J O=>
  refine .box C (by rw[G];exact h1) (by rw[G];exact h2) (by rw[G,JE];exact h3) (by rw[G];exact h4) (by rw[G];exact h5) (by rw[G,JE];exact h6) (by rw[G,JE];exact J) fun j v hj=>?_;rw[Qdu] at hj;obtain⟨v',I,rfl⟩:=Yc.1 hj;rw[G];exact(O j v' I).ren G
 |arr0 h1 h2 h3 h4=>exact .arr0 (by rw[G];exact h1) (by rw[G];exact h2) (by rw[G];exact h3) h4
 |arr C et h1 h2 h3 h4 h5 h6 J O=>exact .arr C et (by rw[G];exact h1) (by rw[G];exact h2) (by rw[G];exact h3) (by rw[G];exact h4) h5 (by rw[G];exact h6) (by rw[G];exact J) fun i j d hi U=>by rw[G];exact O i j d hi U
theorem QoM:∀ {ts:List (Nat×V)} {t:Nat} {v:V},Qi (Qwt f ts) t=some v->∃u,Qi ts t=some u∧v=u.ren f
 |(u,x)::r,t,v,h=>by
  rcases QZ h with ⟨rfl,rfl⟩|⟨G,h⟩
  ·exact⟨x,Zk,rfl⟩
  ·have⟨y,h1,h2⟩:=QoM h;exact⟨y,by rw[QQ G];exact h1,h2⟩
 |[],_,_,h=>by simp[Qwt,Qi] at h
theorem QqY:∀ {gs:List Gd} {g:Gd},g∈Qwu f gs->∃G∈gs,g=⟨G.t,G.key,G.want,G.v.ren f⟩
 |⟨t,k,w,v⟩::r,g,h=>by
  rcases Yh.1 h with h|h
  ·exact⟨⟨t,k,w,v⟩,by simp,h⟩
  ·have⟨G,h1,h2⟩:=QqY h;exact⟨G,by simp[h1],h2⟩
 |[],_,h=>by simp[Qwu] at h
theorem Qe2 (G:∀i j,f i=f j->i=j):∀ {bs:List (Nat×Blk)} {j:Nat} {b:Blk},Qi (Qva f bs) j=some b->∃i c,j=f i∧Qi bs i=some c∧b=c.ren f
 |(u,x)::r,j,b,h=>by
  rcases QZ h with ⟨rfl,rfl⟩|⟨I,h⟩
  ·exact⟨u,x,rfl,Zk,rfl⟩
  ·obtain⟨i,c,rfl,h1,h2⟩:=Qe2 G h;exact⟨i,c,rfl,by rw[QQ fun e=>I (by rw[e])];exact h1,h2⟩
 |[],_,_,h=>by simp[Qva,Qi] at h
theorem QqZ:∀ {fs:List Fr} {i:Nat} {fr:Fr},(Qvb f fs)[i]? =some fr->∃fr0,fs[i]? =some fr0∧fr=⟨Qwt f fr0.tmps,Qwu f fr0.gds⟩
 |⟨ts,gs⟩::r,0,fr,h=>by simp[Qvb] at h;exact⟨_,rfl,h.symm⟩
 |⟨ts,gs⟩::r,i+1,fr,h=>by obtain⟨fr0,h1,h2⟩:=QqZ (fs:=r) (i:=i) (by simpa[Qvb] using h);exact⟨fr0,by simpa using h1,h2⟩
 |[],_,_,h=>by simp[Qvb] at h
theorem Qlh:∀ {fs:List Fr},(Qvb f fs).length=fs.length
 |[]=>rfl
 |⟨_,_⟩::r=>by simp[Qvb,Qlh (fs:=r)]
theorem FrR.ren {G:Fr} {tm:Array Value} (h:FrR w ow ρ G tm) (I:∀i,ρ' (f i)=ρ i):FrR w ow ρ' ⟨Qwt f G.tmps,Qwu f G.gds⟩ tm:=by
 refine⟨fun t v hv=>?_,fun g J=>?_⟩
 ·obtain⟨u,h1,rfl⟩:=QoM hv;exact(h.tmps t u h1).ren I
 ·obtain⟨O,h1,rfl⟩:=QqY J;rcases(h.gds O h1).h with h2|h2
  ·exact⟨.inl ⟨h2.1,h2.2.ren I⟩⟩
  ·exact⟨.inr h2⟩
end
theorem Qzb (f:Nat->Nat) (g:Nat->Nat) (J:∀i,g (f i)=i) (S:St):LE S (S.ren f):=by
 refine⟨fun B w0 F ρ a w h=>?_⟩;obtain⟨ρ',a1⟩:∃ρ':Env,∀i,ρ' i=ρ (g i):=⟨fun i=>ρ (g i),fun _=>rfl⟩;refine⟨ρ',?_⟩;have G:∀i j,f i=f j->i=j:=fun i j e=>by rw[<-J i,e,J]
 have I:∀i,ρ' (f i)=ρ i:=fun i=>by rw[a1,J]
 have⟨base,nt,ts,gs,bs,fs⟩:=S;have O:∀b,own (Qva f bs) ρ' b->own bs ρ b:=by
  rintro b ⟨i,k,hk,hp,rfl⟩;obtain⟨i0,c,rfl,h1,h2⟩:=Qe2 G hk;rw[I] at hp|-;exact⟨i0,c,h1,hp,rfl⟩
 have keep:Keep w (ZL B bs ρ) w (ZL B (Qva f bs) ρ'):=⟨Yi _,fun b _ ho=>⟨rfl,fun h=>ho (h.imp (O b) fun h=>h)⟩⟩;refine⟨h.below,h.tab,h.hB,h.defers,h.nt,?_,?_,?_,?_,⟨?_,?_⟩⟩
 ·exact(h.top.ren (f:=f) (ρ':=ρ') I).keep keep fun _ _=>rfl
 ·intro id b hb;obtain⟨i0,c,rfl,h1,rfl⟩:=Qe2 G hb;exact((h.blks i0 c h1).ren (f:=f) (ρ':=ρ') I).keep keep rfl (fun _=>rfl) fun _ _=>rfl
 ·intro i j x y hx hy hp hq Y;obtain⟨i0,c,rfl,h1,_⟩:=Qe2 G hx;obtain⟨j0,d,rfl,h2,_⟩:=Qe2 G hy;rw[I] at hp hq Y;rw[I] at Y;rw[h.sep i0 j0 c d h1 h2 hp hq Y]
 ·intro i x hx hp;obtain⟨i0,c,rfl,h1,rfl⟩:=Qe2 G hx;rw[I] at hp|-;rw[Blk.ren_bx];exact h.ge i0 c h1 hp
 ·dsimp only[St.ren];rw[Qlh];exact h.frames.1
 ·intro i fr tm hf a2;obtain⟨U,h1,rfl⟩:=QqZ hf;exact((h.frames.2 i U tm h1 a2).ren (f:=f) (ρ':=ρ') I).keep keep fun _ _=>rfl
mutual
def V.inIds (ids:List Nat):V->Bool
 | .ref i _ _=>ZZ ids i
 | .osl i _ _=>ZZ ids i
 | .agg vs=>QmL ids vs
 | .tup vs=>QmL ids vs
 | .fn _ vs=>QmL ids vs
 |_=>true
def QmL (ids:List Nat):List V->Bool
 |[]=>true
 |v::r=>v.inIds ids&&QmL ids r
end
mutual
theorem V.inIds_ok (ids:List Nat) (v:V) (id:Nat) (h:v.inIds ids=true) (hm:v.mentions id=true):id∈ids:=by
 cases v with
 |agg vs=>exact Qir ids vs id h hm
 |tup vs=>exact Qir ids vs id h hm
 |fn f vs=>exact Qir ids vs id h hm
 |ref i r o=>rw[<-Y5 hm];exact ZO.1 h
 |osl i r o=>rw[<-Y5 hm];exact ZO.1 h
 |any=>cases hm
 |d=>cases hm
 |rp=>cases hm
theorem Qir (ids:List Nat) (vs:List V) (id:Nat) (h:QmL ids vs=true) (hm:QU id vs=true):id∈ids:=by
 cases vs with
 |nil=>cases hm
 |cons v r=>
  simp only[QmL,Y4] at h
  simp only[QU] at hm
  split at hm
  ·rename_i hv;exact V.inIds_ok ids v id h.1 hv
  ·exact Qir ids r id h.2 hm
end
theorem Qwv {res:V} {nb:List Nb} (h:res.inIds (nb.map (·.id))=true):∀id,res.mentions id=true->∃b∈nb,b.id=id:=fun id hm=>by
 have⟨b,hb,e⟩:=YI.1 (V.inIds_ok _ res id h hm);exact⟨b,hb,e⟩
end Go.Ab
namespace Go.Ab
open Go.RowKit
variable {P:Program} {tb:Tb} {w:World} {ρ:Env} {a:Act} {B:Bd} {w0:World} {F:List (Array Value)} {S:St}
theorem Qr8 (hT:TOk P tb) (h:Sim P B w0 F ρ S a w) {t t' ty e e' sz b3 d2 d4 s' s2:Nat} {kk:TK} {zz z' z2:List D} {qq q q2:Bool} (d8:tb.find t=some ⟨.slice e,s',d2,z',q⟩) (c5:tb.find t'=some ⟨.slice e',s2,d4,z2,q2⟩) (c8:tb.find e=some ⟨kk,sz,b3,zz,qq⟩)
  {xv:V} {vs vx:Value} {id off len n m:Nat} {r r' a2:Nat->List D} (hs:VR w (ZL B S.blks ρ) ρ (.osl id off len) vs) (hx:VR w (ZL B S.blks ρ) ρ xv vx) (I:J6 (Qi S.blks) sz (.osl id off len)=some (n,r)) (d3:J6 (Qi S.blks) sz xv=some (m,r'))
  (hb:(n+m)*(b3+1)<=70368744177664) (a6:∀i,i<n+m->a2 i=Qey n r r' i) {S1:St} {nid:Nat} (hk:SimO P (ZL B S.blks ρ) B w0 F ρ S1 a w) (b2:S1.mentions nid=false) (a3:∀b,ZL B S1.blks ρ b->ZL B S.blks ρ b)
  (d1:∀t0 n0 G,Qi S.blks id=some (.arr t0 sz n0 G)->(ρ id).ph=false->¬own S1.blks ρ (ρ id).b):
  ∃v w' ρ',(Builtin.append_ #[t,t'] ty #[vs,vx]).run P w=.ok v w'∧Sim P B w0 F ρ' ⟨S1.base,S1.nt,S1.tmps,S1.gds,(nid,.arr e sz (n+m) a2)::S1.blks,S1.frames⟩ a w'∧VR w' (ZL B ((nid,.arr e sz (n+m) a2)::S1.blks) ρ') ρ' (.osl nid 0 (n+m)) v:=by
 have hu:=ZX (hT.ok _ _ d8) rfl;have b5:=ZX (hT.ok _ _ c5) rfl;have Y:=hT.ok _ _ c8;have hS:=Qds (P:=P) (w:=w) (ow:=ZL B S.blks ρ) (ρ:=ρ) h.blks hs I;have hX:=Qds (P:=P) (w:=w) (ow:=ZL B S.blks ρ) (ρ:=ρ) h.blks hx d3;have⟨adx,cx,c7⟩:=hX.hdr;have⟨ad,cap,h1,h2,h3⟩:=hs.osl_inv;have hn:n=len:=by
  have⟨ad',c',h4⟩:=hS.hdr;rw[h1] at h4;cases h4;rfl
 subst hn;rcases YV cap (n+m) with b6|a1
 ·have⟨nc,C,g1,g2,g3,g4⟩:=Qeo (P:=P) (ty:=ty) hu b5 Y h1 hS hX b6 hb;have O:=QeY (w:=w) hk b2 (fun _ h=>a3 _ h) (fun _ ho=>QdK h ho) (n:=n+m) (sz:=sz) (cap:=nc) (row:=a2) (C:=C) (e:=e) (.inr rfl) (by rw[g2];exact Yi _) g3 fun q hq=>by rw[a6 q hq];exact g4 q hq
  exact⟨_,_,_,g1,O.1,O.2⟩
 ·rcases h3 with ⟨h3,h4⟩|⟨h3,h4,h5,h6⟩
  ·have d5:m=0:=by omega
   subst d5 h3 h4;have⟨f,f1,_,_⟩:=hX.cells;have hf:=f1 w rfl;have g1:=Qen (P:=P) (w:=w) (ty:=ty) hu b5 Y c7 (by simpa[flat] using hf) (base:=ad) (cap:=0);have O:=QdC (w:=w) hk b2 (fun _ h=>a3 _ h) (sz:=sz) (row:=a2) (e:=e) ad;exact⟨_,_,_,by rw[h1];exact g1,O.1,O.2⟩
  ·obtain⟨t0,n0,G,J⟩:∃t0 n0 G,Qi S.blks id=some (.arr t0 sz n0 G):=by
    simp only[J6] at I;split at I
    ·rename_i t1 s1 n1 a8 J;split at I
     ·rename_i d6;exact⟨t1,n1,a8,by rw[<-Y5 d6];exact J⟩
     ·cases I
    ·cases I
   cases h.blks id _ J with
   |arr0 g=>rw[g] at h3;cases h3
   |arr C c1 g1 g2 g3 g4 g5 g6 g7 g8=>
   have⟨f,f1,f2,f3⟩:=hX.cells;have a7:=h.ge id _ J h3;have c6:(off+(n+m))*sz<=(ρ id).cap*sz:=Yf _ (by omega);rw[Yj,Yj] at c6;subst h5;rw[g2] at h1;have b8:=Qem (P:=P) (w:=w) (ty:=ty) (te:=⟨kk,sz,b3,zz,qq⟩) hu b5 Y (n:=n) (cap:=cap) c7 g6 (o:=(ρ id).o+off*sz) (news:=flat m sz f) (f1 w rfl)
    (fun u hu=>by
     obtain⟨j,hj,rfl⟩:=Y0n.1 hu;rw[ZS] at hj;have d0:0<sz:=by
      rcases X9 sz with h|h
      ·rw[h,Y0r] at hj;omega
      ·exact h
     have hi:j/sz<m:=Y02 (by rw[Xv];exact hj);have c4:j%sz<sz:=Nat.mod_lt _ d0;have e0:=Qfq (f:=f) hi c4;rw[Y0k j sz] at e0;rw[(Y8.1 e0).2];exact f3 _ _ hi c4) a1 (by rw[ZS];dsimp only;omega)
   dsimp only at b8;have a9:(ρ id).o+off*sz+n*sz+(flat m sz f).length<=C.toList.length:=by rw[ZS];simp;omega
   have a4:¬own S1.blks ρ (ρ id).b:=d1 _ _ _ J h3;have O:=Qgp (loc:=⟨(ρ id).b,(ρ id).o+off*sz,sz,n+m,cap,false⟩) (blk:=.arr e sz (n+m) a2)
    (w':=w.setRow (ρ id).b (C.toList.take ((ρ id).o+off*sz+n*sz)++flat m sz f++C.toList.drop ((ρ id).o+off*sz+n*sz+(flat m sz f).length)).toArray) hk b2 (fun _ h=>a3 _ h) (by simp)
    (fun b b9 a5=>setRow_other w _ b _ fun e=>by
     subst e;rcases a5 with a5|a5
     ·exact a5 (.inl ⟨id,_,J,h3,rfl⟩)
     ·exact a4 a5)
    (fun b b9=>setRow_other w _ b _ (fun e=>a7.blk (e▸b9))) (fun b k hc=>by
     by_cases e:b=(ρ id).b
     ·subst e;have:=(a7.cel k hc).1
      cases this
     ·exact World.cell?_of_block (setRow_other w _ b _ e)) (fun _=>.inr ⟨.inl ⟨id,_,J,h3,rfl⟩,a4⟩)
    (fun _=>⟨a7.blk,fun k hc=>by have:=(a7.cel k hc).1;cases this⟩) rfl rfl rfl fun keep=>by
     have c2:=Qbw C.toList (flat m sz f) ((ρ id).o+off*sz+n*sz) a9;refine .arr _ c1 (by simp[Env.set]) (by simp[Env.set]) (by simp[Env.set]) (by simpa[Env.set] using a1) (fun i hi=>?_) (by simp only[Env.set,YG];exact setRow_heap w _ C _ c1 _ g6) ?_ fun i j d hi hd=>?_
     ·rw[a6 i hi];simp only[Qey]
      by_cases U:i<n
      ·rw[Y2 U];exact hS.rows i U
      ·rw[Y0 U];exact hX.rows _ (by omega)
     ·rw[c2];simp only[Env.set,YG];have:off*sz+cap*sz=(ρ id).cap*sz:=by rw[<-Yj];congr 1;omega
      simp;omega
     ·rw[QbJ _ _ _ _ a9];have hfl:(flat m sz f).length=m*sz:=ZS;simp only[Env.set,YG];rw[a6 i hi] at hd;simp only[Qey] at hd
      by_cases U:i<n
      ·rw[Y2 U] at hd;have hj:j<sz:=by have:=(Y8.1 hd).1;have:=hS.rows i U;omega
       have c0:(i+1)*sz<=n*sz:=Yf _ (by omega);rw[Yj] at c0;rw[Y0 (by omega)];have⟨f0,_,h02,_⟩:=hS.cells;have b7:∃G,r=Zy off G∧Qi S.blks id=some (.arr t0 sz n0 G):=by
        simp only[J6,J] at I;split at I
        ·simp only[Y9,YY] at I;exact⟨_,I.2.symm,J⟩
        ·cases I
       have⟨a8,c9,c3⟩:=b7;rw[J] at c3
       cases c3
       have b4:Zy off G i=G (off+i):=by cases off<;>simp[Zy]
       rw[c9,b4] at hd;have:=(g8 (off+i) j d (by omega) hd).keep keep;rw[show(ρ id).o+off*sz+i*sz+j=(ρ id).o+(off+i)*sz+j by rw[Yj];omega];simpa using this
      ·rw[Y0 U] at hd;have hj:j<sz:=by have:=(Y8.1 hd).1;have:=hX.rows (i-n) (by omega);omega
       have c0:n*sz<=i*sz:=Yf _ (by omega);have d7:(i+1)*sz<=(n+m)*sz:=Yf _ (by omega);rw[Yj,Yj] at d7;rw[Y2 (by omega)];have e4:(ρ id).o+off*sz+i*sz+j-((ρ id).o+off*sz+n*sz)=(i-n)*sz+j:=by rw[Nat.sub_mul];omega
       rw[e4,Y1,Qfq (n:=m) (by omega) hj];exact(f2 (i-n) j d (by omega) hd).keep keep
   refine⟨_,_,_,by rw[h1];exact b8,O,?_⟩;have e1:(Value.slice (some ⟨(ρ id).b,(ρ id).o+off*sz,none⟩) (n+m) cap)=.slice (some ⟨((ρ.set nid ⟨(ρ id).b,(ρ id).o+off*sz,sz,n+m,cap,false⟩) nid).b,((ρ.set nid ⟨(ρ id).b,(ρ id).o+off*sz,sz,n+m,cap,false⟩) nid).o+0*((ρ.set nid ⟨(ρ id).b,(ρ id).o+off*sz,sz,n+m,cap,false⟩) nid).sz,none⟩) (n+m) (((ρ.set nid ⟨(ρ id).b,(ρ id).o+off*sz,sz,n+m,cap,false⟩) nid).cap-0):=by
    simp[Env.set]
   rw[e1];exact .osl (by simp[Env.set]) (by simp[Env.set]) (by simpa[Env.set] using a1)
end Go.Ab
namespace Go.Ab
open Go.RowKit
variable {P:Program} {tb:Tb} {w:World} {ow:Nat→Prop} {ρ:Env} {a:Act} {B:Bd} {w0:World} {F:List (Array Value)} {S:St}
theorem Qxk {n e:Nat} (hn:1<=n) (G:e<1000000):bcl (n*1000000+e)=n:=by
 have h:Nat.blt (n*1000000+e) 1000000=false:=by
  rw[Xf];intro hb;rw[XQ] at hb;omega
 have h2:(n*1000000+e)/1000000=n:=by
  rw[Xv,Nat.mul_add_div (by decide),Nat.div_eq_of_lt G,X0]
 rw[bcl,h];exact h2
theorem Qgx {n e:Nat} (I:1<=n) (G:e<1000000):bcl (bty n e)=n:=Qxk I G
structure SrcV (P:Program) (w:World) (ow:Nat→Prop) (ρ:Env) (sz n:Nat) (cs:List V) (val:Value):Prop where
 hdr:∃ad c,val=.slice ad n c
 len:cs.length=n*sz
 vals:∃fs:List Value,fs.length=n*sz∧(∀w',w'.heap=w.heap→(Builtin.firstCells sz n val).run P w'=.ok fs.toArray w')∧(∀u∈fs,u.oneCell'=true)∧∀j v,cs[j]? =some v→VR w ow ρ v (fs.getD j undef)
theorem Qvc {sz:Nat} {val:Value} (hv:VR w ow ρ (.d .nil) val):SrcV P w ow ρ sz 0 [] val∧∃ad,val=.slice ad 0 0:=by
 cases hv with|d hv=>
 cases hv
 rename_i ad;exact⟨⟨⟨_,_,rfl⟩,by simp,[],by simp,fun w' _=>by cases ad<;>simp[Builtin.firstCells,loadCells,loadCellsFrom],by simp,by simp⟩,_,rfl⟩
theorem Qkl {id n ts sz:Nat} {cs:List V} {val:Value} (hn:1<=n) (Y:bcl ts=n) (hb:BR w ow ρ id (.box ts cs)) (hl:cs.length=n*sz) (hv:VR w ow ρ (.osl id 0 n) val):
  (ρ id).sz=sz∧(ρ id).n=n∧SrcV P w ow ρ sz n cs val:=by
 cases hb with
 | @box _ _ C et q1 q2 O J q5 q6 U q8=>
 rw[Y] at J;have e1:(ρ id).n=n:=by rw[J.1];omega
 have e2:(ρ id).sz=sz:=Nat.eq_of_mul_eq_mul_left (show 0<n by omega) (by rw[<-hl,O,e1]);refine⟨e2,e1,?_⟩;have⟨ad,c,h1,h2,h3⟩:=hv.osl_inv;have I:((C.toList.drop (ρ id).o).take (n*sz)).length=n*sz:=by simp;omega
 have get:∀j,j<n*sz->((C.toList.drop (ρ id).o).take (n*sz))[j]? =some (C.getD ((ρ id).o+j) undef):=fun j hj=>by
  rw[YQ,Y2 hj,YR];have:(ρ id).o+j<C.size:=by omega
  simp[this]
 rcases h3 with ⟨h3,_⟩|⟨h3,h4,h5,h6⟩
 ·omega
 ·refine⟨⟨ad,c,h1⟩,hl,_,I,fun w' hw=>?_,fun u hu=>?_,fun j v hj=>?_⟩
  ·subst h1 h5;refine run_firstCells_some w' sz n _ n c _ I fun j v hj=>?_;have G:=(Y8.1 hj).1;rw[I] at G;rw[get j G] at hj
   cases hj
   rw[Addr.add_mid];have:=Qcc (w:=w) (o:=(ρ id).o+j) q5 (by omega);simpa[World.cell?,hw] using this
  ·have⟨j,hj⟩:=List.mem_iff_getElem?.1 hu;have G:=(Y8.1 hj).1;rw[I] at G;rw[get j G] at hj
   cases hj
   exact U j (by omega)
  ·have G:=(Y8.1 hj).1;rw[Y1,get j (by omega)];exact q8 j v hj
theorem Qli {t t' ty e e':TypeId} {te} (ht:P.underlying t=some (.slice e)) (Y:P.underlying t'=some (.slice e')) (O:TIok P e te)
  {n m:Nat} {s x:Value} {base ad:Option Addr} {cap c:Nat} (hs:s=.slice base n cap) (hx:x=.slice ad m c) {fs G:List Value} (U:fs.length=n*te.size) (I:G.length=m*te.size)
  (f1:∀w',w'.heap=w.heap->(Builtin.firstCells te.size n s).run P w'=.ok fs.toArray w') (g1:∀w',w'.heap=w.heap->(Builtin.firstCells te.size m x).run P w'=.ok G.toArray w') (J:cap<n+m)
  (hb:(n+m)*(te.bytes+1)<=70368744177664):
  ∃nc C,(Builtin.append_ #[t,t'] ty #[s,x]).run P w=.ok (.slice (some ⟨w.heap.size,0,none⟩) (n+m) nc) (w.drew.alloc (.cells C e))∧C.size=nc*te.size∧n+m<=nc∧
   ∀j,j<(n+m)*te.size->C.getD j undef=(fs++G).getD j undef:=by
 have⟨i,z,hi,hs1,a5,hz,a7,hzl,hzr⟩:=O.info;have a3:n+m<=grownCap w (n+m) cap e:=grownCap_ge w _ _ e;have hbytes:(n+m)*te.bytes+(n+m)<=70368744177664:=by rw[Nat.mul_add,Nat.mul_one] at hb;exact hb
 have a4:¬(281474976710656<Builtin.nextslicecap (n+m) cap*i.bytes):=by
  have:=growslice_fits (bytes:=te.bytes) J (by omega);rw[a5];omega
 have a8:¬(9223372036854775807<((n:Int)+(m:Int))):=by omega
 have a6:¬(n+m<=cap):=by omega
 refine⟨grownCap w (n+m) cap e,fs.toArray++G.toArray++Builtin.zeroCells z.cells (grownCap w (n+m) cap e-(n+m)),?_,?_,a3,fun j hj=>?_⟩
 ·have a1:=f1 w.drew rfl;have a2:=g1 w.drew rfl;subst hs hx;simp[Builtin.append_,run_underlying ht,run_underlying Y,Jk O,zeroValue,typeInfo,hi,hz,Builtin.lenOf,a6,a8,a4,Question.forced,a1,a2,newRow,grownCap]
  congr 2;apply Xc;simp
 ·have h1:(fs.toArray++G.toArray++Builtin.zeroCells z.cells (grownCap w (n+m) cap e-(n+m))).size=n*te.size+m*te.size+(grownCap w (n+m) cap e-(n+m))*te.size:=by
   simp[U,I,Builtin.zeroCells,a7]
  rw[h1,<-Yj,<-Yj]
  congr 1;omega
 ·rw[Yj] at hj;rw[Y6,Xw (by simp[U,I];omega),Y1];simp
theorem QmM {id:Nat} {J:St} (h:SimO P ow B w0 F ρ J a w) (hm:J.mentions id=false) (a1:∀b,ZL B J.blks ρ b->ow b) {n e tn sz cap:Nat} (hn:1<=n) (he:bcl tn=n) {cs:List V} (hl:cs.length=n*sz) (a3:QU id cs=false) {C:Array Value}
  {O:World} (Y:O=w∨O=w.drew) (hC:cap*sz<=C.size) (U:n<=cap) (h1:∀j,j<cs.length->(C.getD j undef).oneCell'=true) (hr:∀j v,cs[j]? =some v->VR w ow ρ v (C.getD j undef)):
  Sim P B w0 F (ρ.set id ⟨w.heap.size,0,sz,n,cap,false⟩) ⟨J.base,J.nt,J.tmps,J.gds,(id,.box (tn) cs)::J.blks,J.frames⟩ a (O.alloc (.cells C e))∧
  VR (O.alloc (.cells C e)) (ZL B ((id,.box (tn) cs)::J.blks) (ρ.set id ⟨w.heap.size,0,sz,n,cap,false⟩)) (ρ.set id ⟨w.heap.size,0,sz,n,cap,false⟩) (.osl id 0 n) (.slice (some ⟨w.heap.size,0,none⟩) n cap):=by
 have G:(O.alloc (.cells C e)).heap=(w.alloc (.cells C e)).heap:=by rcases Y with rfl|rfl<;>rfl
 have I:O.os=w.os∧O.tape=w.tape∧O.output=w.output:=by rcases Y with rfl|rfl<;>exact⟨rfl,rfl,rfl⟩
 have hcm:n*sz<=cap*sz:=Yf _ U;refine⟨Qgp h hm a1 (by rw[G];simp) (fun b hb _=>by rw[G];exact Below.heap_alloc w _ b hb) (fun b hb=>by rw[G];exact Below.heap_alloc w _ b (h.hB b hb)) (fun b k hc=>World.cell?_of_block (by rw[G];exact Below.heap_alloc w _ b (YH (h.below.clt b k hc) h.below.size))) (fun _=>.inl (Yi _))
  (fun _=>⟨fun a2=>absurd (h.hB _ a2) (Nat.lt_irrefl _),fun k hc=>absurd (YH (h.below.clt _ k hc) h.below.size) (Nat.lt_irrefl _)⟩)
  I.1 I.2.1 I.2.2 fun keep=>?_,?_⟩
 ·refine .box C (et:=e) (by simp[Env.set]) (by simp[Env.set]) (by simp[Env.set,hl]) ?_ ?_ ?_ (fun j hj=>by simpa[Env.set] using h1 j hj) fun j v hj=>?_
  ·rw[he];simp only[Env.set,YG];exact⟨by omega,U,fun h0=>by omega⟩
  ·rw[G];simp only[Env.set,YG];exact heap_alloc_new w _
  ·simp only[Env.set,YG];omega
  ·simp only[Env.set,YG,Yg];refine(hr j v hj).keep keep fun i hi=>Env.set_other fun e=>?_;subst e;have:=Zc hj hi;rw[a3] at this;cases this
 ·have e1:(Value.slice (some ⟨w.heap.size,0,none⟩) n cap)=.slice (some ⟨((ρ.set id ⟨w.heap.size,0,sz,n,cap,false⟩) id).b,((ρ.set id ⟨w.heap.size,0,sz,n,cap,false⟩) id).o+0*((ρ.set id ⟨w.heap.size,0,sz,n,cap,false⟩) id).sz,none⟩) n (((ρ.set id ⟨w.heap.size,0,sz,n,cap,false⟩) id).cap-0):=by
   simp[Env.set]
  rw[e1];exact .osl (by simp[Env.set]) (by simp[Env.set]) (by simpa[Env.set] using U)
theorem QoN {t e:Nat} {te ti} (hT:TOk P tb) (a2:tb.find t=some ti) (hk:ti.kind=.slice e) (J:tb.find e=some te) {y:Value} (hy:y.cells.size=te.size) (hb:te.size<=1000000):
  ∃C,(Instr.buildSlice t 1 #[(0,y)]).run P w=.ok (.slice (some ⟨w.heap.size,0,none⟩) 1 1) (w.alloc (.cells C e))∧C.size=te.size∧∀j,j<te.size->C.getD j undef=y.cells.getD j undef:=by
 have⟨i,z,hi,hs,_,hz,a1,hzl,hzr⟩:=(hT.ok _ _ J).info;have hu:=ZX (hT.ok _ _ a2) hk;have G:∀I:Array Value,I.size=1*te.size->∃C,Instr.fill (fun i=>some (i*te.size,te.size)) I [(0,y)]=some C∧C.size=te.size∧∀j,j<te.size->C.getD j undef=y.cells.getD j undef:=by
  intro I a1;have U:=Qif y.cells.toList (0*te.size) 0 I (by simp;omega);have e:y.cells.zipIdx.foldl (fun cs (x:Value×Nat)=>cs.setIfInBounds (0*te.size+x.2) x.1) I=(y.cells.toList.zipIdx 0).foldl (fun cs (x:Value×Nat)=>cs.setIfInBounds (0*te.size+x.2) x.1) I:=by
   rw[<-Array.foldl_toList,Array.toList_zipIdx]
  refine⟨y.cells.zipIdx.foldl (fun cs (x:Value×Nat)=>cs.setIfInBounds (0*te.size+x.2) x.1) I,?_,by rw[e,U.1,a1,Y0b],fun j hj=>?_⟩
  ·simp only[Instr.fill];rw[Y0 (by simp;omega)]
  ·rw[e,U.2,Y2 (by simp;omega)];simp
 have Y:te.size<=16777216:=by omega
 by_cases O:1*te.size=0
 ·have⟨C,h1,h2,h3⟩:=G ((Array.range (1*te.size)).map ((#[]:Array Value)[· %(#[]:Array Value).size]!)) (by simp);refine⟨C,?_,h2,h3⟩;rw[O] at h1;simp at O;simp[Instr.buildSlice,run_underlying hu,Jk (hT.ok _ _ J),O,newRow] at h1|-;simp[h1]
 ·have⟨C,h1,h2,h3⟩:=G ((Array.range (1*te.size)).map (z.cells[· %z.cells.size]!)) (by simp);refine⟨C,?_,h2,h3⟩;simp at O;simp[Instr.buildSlice,run_underlying hu,Jk (hT.ok _ _ J),O,newRow,zeroValue,typeInfo,hi,hz] at h1|-;simp[h1];exact Y
theorem QjZ {id:Nat} {xs ys:List V} (J:QU id xs=false) (I:QU id ys=false):QU id (xs++ys)=false:=by
 cases h:QU id (xs++ys) with
 |false=>rfl
 |true=>
  have key:∀G:List V,QU id G=true->∃v∈G,v.mentions id=true:=by
   intro G
   induction G with
   |nil=>intro h;simp[QU] at h
   |cons v r O=>
    intro h;simp only[QU] at h
    cases hv:v.mentions id with
    |true=>exact⟨v,by simp,hv⟩
    |false=>
     rw[hv] at h;have⟨u,U,hm⟩:=O h;exact⟨u,by simp[U],hm⟩
  have⟨v,hv,hm⟩:=key _ h;rcases Yo.1 hv with hv|hv
  ·have⟨j,hj⟩:=List.mem_iff_getElem?.1 hv;rw[Zc hj hm] at J;cases J
  ·have⟨j,hj⟩:=List.mem_iff_getElem?.1 hv;rw[Zc hj hm] at I;cases I
theorem QmN (hT:TOk P tb) (h:Sim P B w0 F ρ S a w) {t t' ty e e' sz b3 d3 d4 s' s2:Nat} {kk:TK} {zz z' z2:List D} {qq q q2:Bool} (d8:tb.find t=some ⟨.slice e,s',d3,z',q⟩) (c2:tb.find t'=some ⟨.slice e',s2,d4,z2,q2⟩) (d0:tb.find e=some ⟨kk,sz,b3,zz,qq⟩)
  {vs vx:Value} {n m ts tn:Nat} {cs cx:List V} (hm:1<=m) (d2:1<=n->bcl ts=n) (b6:bcl tn=n+m) (hS:SrcV P w (ZL B S.blks ρ) ρ sz n cs vs) (hX:SrcV P w (ZL B S.blks ρ) ρ sz m cx vx)
  (d7:(n=0∧∃ad,vs=.slice ad 0 0)∨ ∃id,1<=n∧Qi S.blks id=some (.box (ts) cs)∧VR w (ZL B S.blks ρ) ρ (.osl id 0 n) vs)
  (hb:(n+m)*(b3+1)<=70368744177664) {S1:St} {nid:Nat} (hk:SimO P (ZL B S.blks ρ) B w0 F ρ S1 a w) (b7:S1.mentions nid=false) (c7:QU nid (cs++cx)=false) (b2:∀b,ZL B S1.blks ρ b->ZL B S.blks ρ b)
  (d1:∀id c9,Qi S.blks id=some (.box (ts) c9)->1<=n->VR w (ZL B S.blks ρ) ρ (.osl id 0 n) vs->¬own S1.blks ρ (ρ id).b):
  ∃v w' ρ',(Builtin.append_ #[t,t'] ty #[vs,vx]).run P w=.ok v w'∧Sim P B w0 F ρ' ⟨S1.base,S1.nt,S1.tmps,S1.gds,(nid,.box (tn) (cs++cx))::S1.blks,S1.frames⟩ a w'∧VR w' (ZL B ((nid,.box (tn) (cs++cx))::S1.blks) ρ') ρ' (.osl nid 0 (n+m)) v:=by
 have hu:=ZX (hT.ok _ _ d8) rfl;have c0:=ZX (hT.ok _ _ c2) rfl;have a4:=hT.ok _ _ d0;have⟨adx,capx,c8⟩:=hX.hdr;have⟨ad,cap,h1⟩:=hS.hdr;have⟨fs,fl,f1,f2,f3⟩:=hS.vals;have⟨gs,gl,g1,g2,g3⟩:=hX.vals;have U:(cs++cx).length=(n+m)*sz:=by rw[Yk,hS.len,hX.len,Yj]
 have c6:∀j,j<(cs++cx).length->((fs++gs).getD j undef).oneCell'=true:=fun j hj=>by
  have G:j<(fs++gs).length:=by rw[Yk,fl,gl,<-Yj,<-U];exact hj
  rw[Y1,Y7 G];rcases Yo.1 (Xk G) with hu|hu
  ·exact f2 _ hu
  ·exact g2 _ hu
 have e0:∀j v,(cs++cx)[j]? =some v->VR w (ZL B S.blks ρ) ρ v ((fs++gs).getD j undef):=fun j v hj=>by
  rw[Y1];rcases YV j cs.length with G|O
  ·rw[Yy G] at hj;rw[Yy (by rw[fl,<-hS.len];exact G),<-Y1];exact f3 j v hj
  ·rw[YX O] at hj;rw[YX (by rw[fl,<-hS.len];exact O),<-Y1,fl,<-hS.len];exact g3 _ v hj
 rcases YV cap (n+m) with b5|J
 ·have⟨nc,C,r1,r2,r3,r4⟩:=Qli (P:=P) (ty:=ty) hu c0 a4 h1 c8 fl gl f1 g1 b5 hb;dsimp only at r2 r4;have a6:=QmM (w:=w) hk b7 b2 (n:=n+m) (e:=e) (tn:=tn) (sz:=sz) (cap:=nc) (by omega) b6 U c7 (C:=C) (.inr rfl) (by rw[r2];exact Yi _) r3
   (fun j hj=>by rw[r4 j (by rw[<-U];exact hj)];exact c6 j hj) fun j v hj=>by
    rw[r4 j (by rw[<-U];exact(Y8.1 hj).1)];exact e0 j v hj
  exact⟨_,_,_,r1,a6.1,a6.2⟩
 ·rcases d7 with ⟨rfl,ad2,h2⟩|⟨id,hn,a1,hv⟩
  ·rw[h1] at h2;cases h2;omega
  ·have a3:=d1 id _ a1 hn hv;have⟨e2,e1,_⟩:=Qkl (P:=P) hn (d2 hn) (h.blks id _ a1) hS.len hv;have d9:=h.blks id _ a1
   cases d9 with
   | @box _ _ C et q1 q2 q3 q4 q5 q6 q7 q8=>
   have⟨ad3,c3,h3,_,h4⟩:=hv.osl_inv;rw[h1] at h3
   cases h3
   rcases h4 with ⟨h4,_⟩|⟨_,h5,h6,h7⟩
   ·omega
   simp only[Nat.zero_mul,X0,Nat.sub_zero] at h6 h7;subst h6 h7;have O:=h.ge id _ a1 q1;rw[e2] at q3 q6;have c5:(n+m)*sz<=(ρ id).cap*sz:=Yf _ J;rw[Yj] at c5;have q62:=q6.2;have b8:=Qem (P:=P) (w:=w) (ty:=ty) (te:=⟨kk,sz,b3,zz,qq⟩) hu c0 a4 (n:=n) (cap:=(ρ id).cap) c8 q5 (o:=(ρ id).o) (news:=gs) (g1 w rfl) g2 J (by rw[gl];dsimp only;omega);dsimp only at b8;have Y:(ρ id).o+n*sz+gs.length<=C.toList.length:=by rw[gl];simp;omega
   have a6:=Qgp (loc:=⟨(ρ id).b,(ρ id).o,sz,n+m,(ρ id).cap,false⟩) (blk:=.box (tn) (cs++cx))
    (w':=w.setRow (ρ id).b (C.toList.take ((ρ id).o+n*sz)++gs++C.toList.drop ((ρ id).o+n*sz+gs.length)).toArray) hk b7 b2 (by simp)
    (fun b b9 a5=>setRow_other w _ b _ fun e=>by
     subst e;rcases a5 with a5|a5
     ·exact a5 (.inl ⟨id,_,a1,q1,rfl⟩)
     ·exact a3 a5)
    (fun b b9=>setRow_other w _ b _ (fun e=>O.blk (e▸b9))) (fun b k hc=>by
     by_cases e:b=(ρ id).b
     ·subst e;have⟨_,d6⟩:=O.cel k hc;rw[e2] at d6;have b4:¬((ρ id).o+n*sz<=k∧k<(ρ id).o+n*sz+gs.length):=by rw[gl];omega
      have c4:=Qbw C.toList gs ((ρ id).o+n*sz) Y;have a2:=QbJ C.toList gs ((ρ id).o+n*sz) k Y;rw[Y0 b4] at a2;rw[cell_setRow_same w _ _ _ _ _ _ q5];simp only[World.cell?,q5];rw[Y6,Y1] at a2;rcases YV k C.size with G|a9
      ·rw[Xm (by rw[c4];simpa using G)] at a2|-;rw[Y7 (by simpa using G)] at a2;simp only[X3] at a2;rw[a2];simp[G]
      ·rw[XJ (by rw[c4];simpa using a9)];simp[a9]
     ·exact World.cell?_of_block (setRow_other w _ b _ e)) (fun _=>.inr ⟨.inl ⟨id,_,a1,q1,rfl⟩,a3⟩)
    (fun _=>⟨O.blk,fun k hc=>by
     have:=O.cel k hc;rw[e2] at this;exact this⟩) rfl rfl rfl fun keep=>by
     have c1:=Qbw C.toList gs ((ρ id).o+n*sz) Y;have a8:∀j,j<(cs++cx).length->((C.toList.take ((ρ id).o+n*sz)++gs++C.toList.drop ((ρ id).o+n*sz+gs.length)).toArray).getD ((ρ id).o+j) undef=if j<cs.length then C.getD ((ρ id).o+j) undef else gs.getD (j-cs.length) undef:=fun j hj=>by
      rw[QbJ _ _ _ _ Y];have hcl2:=hS.len
      by_cases I:j<cs.length
      ·rw[Y2 I,Y0 (by omega)];simp[Y1,Y6]
      ·rw[Y0 I,Y2 (by rw[gl];rw[U,Yj] at hj;omega)]
       congr 1;omega
     refine .box _ (et:=et) (by simp[Env.set]) (by simp[Env.set]) (by simp[Env.set,U]) ?_ (by simp only[Env.set,YG];exact setRow_heap w _ C _ et _ q5) ?_ (fun j hj=>?_) fun j v hj=>?_
     ·rw[b6];simp only[Env.set,YG];exact⟨by omega,J,fun h0=>by omega⟩
     ·rw[c1];simp only[Env.set,YG];rw[U,Yj];simp;omega
     ·simp only[Env.set,YG];rw[a8 j hj]
      by_cases I:j<cs.length
      ·rw[Y2 I];exact q7 j I
      ·rw[Y0 I];have G:j-cs.length<gs.length:=by rw[gl,<-hX.len];rw[Yk] at hj;omega
       rw[Y1,Y7 G];exact g2 _ (Xk G)
     ·have d5:=(Y8.1 hj).1;have a7:∀i,v.mentions i=true->ρ.set nid ⟨(ρ id).b,(ρ id).o,sz,n+m,(ρ id).cap,false⟩ i=ρ i:=fun i hi=>Env.set_other fun e=>by
       subst e;have:=Zc hj hi;rw[c7] at this;cases this
      simp only[Env.set,YG];rw[a8 j d5]
      by_cases I:j<cs.length
      ·rw[Y2 I];rw[Yy I] at hj;exact(q8 j v hj).keep keep a7
      ·rw[Y0 I];rw[YX (by omega)] at hj;exact(g3 _ v hj).keep keep a7
   refine⟨_,_,_,by rw[h1];exact b8,a6,?_⟩;have e1:(Value.slice (some ⟨(ρ id).b,(ρ id).o,none⟩) (n+m) (ρ id).cap)=.slice (some ⟨((ρ.set nid ⟨(ρ id).b,(ρ id).o,sz,n+m,(ρ id).cap,false⟩) nid).b,((ρ.set nid ⟨(ρ id).b,(ρ id).o,sz,n+m,(ρ id).cap,false⟩) nid).o+0*((ρ.set nid ⟨(ρ id).b,(ρ id).o,sz,n+m,(ρ id).cap,false⟩) nid).sz,none⟩) (n+m) (((ρ.set nid ⟨(ρ id).b,(ρ id).o,sz,n+m,(ρ id).cap,false⟩) nid).cap-0):=by
    simp[Env.set]
   rw[e1];exact .osl (by simp[Env.set]) (by simp[Env.set]) (by simpa[Env.set] using J)
theorem Qq0 {ow:Nat->Prop} {L:List (Nat×Blk)} (h:SimO P ow B w0 F ρ S a w) (hl:∀i b,Qi L i=some b->Qi S.blks i=some b):SimO P ow B w0 F ρ ⟨S.base,S.nt,S.tmps,S.gds,L,S.frames⟩ a w:=
 ⟨h.below,h.tab,h.hB,h.defers,h.nt,h.top,fun i b hb=>h.blks i b (hl i b hb),fun i j x y G I=>h.sep i j x y (hl i x G) (hl j y I),fun i x G=>h.ge i x (hl i x G),h.frames⟩
theorem QnE {L G:List (Nat×Blk)} (hl:∀i b,Qi L i=some b->Qi G i=some b) {b:Nat} (h:own L ρ b):own G ρ b:=by
 have⟨i,k,hk,hp,e⟩:=h;exact⟨i,k,hl i k hk,hp,e⟩
theorem QeP {S:St} {id i:Nat} {t:TypeId} {cs:List V} (hm:S.mentions id=false) (h:Qi S.blks i=some (.box t cs)):QU id cs=false:=by
 cases hc:QU id cs with
 |false=>rfl
 |true=>
  have:=(St.mentions_parts hm).2.2.1;rw[ZW (id:=id) h (.inr hc)] at this;cases this
theorem Qtn (hT:TOk P tb) (h:Sim P B w0 F ρ S a w) {X pre:List (Nat×Blk)} (lookX:∀i b,Qi X i=some b->Qi S.blks i=some b) (lookP:∀i b,Qi pre i=some b->Qi S.blks i=some b) (hdis:∀i b,Qi pre i=some b->Qi X i=none)
  (delP:∀ {j i:Nat} {b:Blk},Qi (QpV pre j) i=some b->i≠j∧Qi pre i=some b) (lookA:∀ {l i b},Qi (X++l) i=some b->Qi X i=some b∨Qi l i=some b) {t:Nat} {op:Op} {ty pos after guard}
  {e n:Nat} {cs:List V} {gone:Option Nat} (hm:S.mentions (St.idOf S.base t)=false) (hkm:(⟨S.base,S.nt,S.tmps,S.gds,X++QuJ pre gone,S.frames⟩:St).mentions (St.idOf S.base t)=false) (he:evB tb (S.ev []) pre op=some (e,n,cs,gone)):
  ∃v w' ρ',(execOp a.eval ⟨some t,op,ty,pos,after,guard⟩).run P w=.ok (.value v) w'∧Sim P B w0 F ρ' ⟨S.base,S.nt,S.tmps,S.gds,(St.idOf S.base t,.box (bty n e) cs)::(X++QuJ pre gone),S.frames⟩ a w'∧
   VR w' (ZL B ((St.idOf S.base t,.box (bty n e) cs)::(X++QuJ pre gone)) ρ') ρ' (.osl (St.idOf S.base t) 0 n) v:=by
 have hev:=h.evR;have hsub:∀i b,Qi (X++QuJ pre gone) i=some b->Qi S.blks i=some b:=fun i b hb=>by
  rcases lookA hb with hb|hb
  ·exact lookX _ _ hb
  ·cases gone with
   |none=>exact lookP _ _ hb
   |some g=>exact lookP _ _ (delP hb).2
 have hk:=Qq0 h.o (L:=X++QuJ pre gone) hsub;have hown:∀b,ZL B (X++QuJ pre gone) ρ b->ZL B S.blks ρ b:=fun b hb=>hb.elim (fun ho=>.inl (QnE hsub ho)) .inr;unfold evB at he;split at he
 ·rename_i t0 len parts;split at he
  ·rename_i e1 s1 b1 z1 q1 x hti hparts;split at he
   ·rename_i k sz byt z2 q2 hte hds;split at he
    ·rename_i hc;simp only[Y9,YY] at he;obtain⟨rfl,rfl,rfl,rfl⟩:=he;simp only[Y4] at hc;have⟨c1,c2,c3,c4⟩:=hc;have c2:=Y5 c2;have c3:e1<1000000:=by rw[XQ] at c3;exact c3
     have c4:=Ys c4;have hl:=Qea (hev.at x) c1;have hp:parts.map (fun(i,x)=>(i,a.eval x))=#[(0,a.eval x)]:=by
      have:parts=#[(0,x)]:=by apply Xc;simpa using hparts
      rw[this];simp
     have⟨C,h1,h2,h3⟩:=QoN (P:=P) (w:=w) hT hti rfl hte (y:=a.eval x) (by rw[hl.size,c2]) c4;dsimp only at h2 h3;have hsn:=QmM (w:=w) hk hkm hown (n:=1) (e:=e1) (tn:=bty 1 e1) (sz:=sz) (cap:=1) (Yi _) (Qgx (Yi _) c3) (by rw[c2,Y0b]) (Qhd (Qk0 hm _ _)) (C:=C) (.inl rfl) (by rw[h2,Y0b];exact Yi _) (Yi _)
      (fun j hj=>by rw[h3 j (by omega)];exact hl.one j (by rw[hl.size];exact hj)) fun j v hj=>by
       have:=(Y8.1 hj).1;rw[h3 j (by omega)];exact hl.vals j v hj
     refine⟨_,_,_,?_,hsn.1,hsn.2⟩;simp only[execOp,hp,Sem.run_bind,h1,Result.andThen_ok,Sem.run_pure]
    ·cases he
   ·cases he
  ·cases he
 ·rename_i c;split at he
  case h_2=>cases he
  rename_i hcal;split at he
  case h_2=>cases he
  rename_i s x ty1 ty2 hargs htys;have hargs:c.args=#[s,x]:=by apply Xc;simpa using hargs
  have htys:c.argTypes=#[ty1,ty2]:=by apply Xc;simpa using htys
  have hrun:∀w',(execOp a.eval ⟨some t,.call c,ty,pos,after,guard⟩).run P w'=((Builtin.append_ #[ty1,ty2] ty #[a.eval s,a.eval x]>>=fun v=>(pure (.value v):Sem Next)).run P w'):=fun w'=>by
   simp only[execOp,resolve,hcal,hargs,htys,pure_bind,invoke,builtin,XL,YC,Y06]
  split at he
  case h_2=>cases he
  rename_i e1 s' by' z' q e' s2 by2 z2 q2 hti hti'
  split at he
  case h_2=>cases he
  rename_i kk sz byt zz qq ix o m hte hxv;split at he
  case h_2=>cases he
  rename_i tx cx hlx;split at he
  ·rename_i hc hsv;split at he
   case h_2=>cases he
   rename_i hb;simp only[Y9,YY] at he;obtain⟨rfl,rfl,rfl,rfl⟩:=he;simp only[Y4] at hc;have⟨c1,c2,c3,c4⟩:=hc;have c1:=Y5 c1;have c2:=Ys c2;have c3:e1<1000000:=by rw[XQ] at c3;exact c3
   have c4:=Y5 c4;have hbx:bcl tx=m:=by rw[c1];exact Qgx c2 c3
   have hX:=(Qkl (P:=P) c2 hbx (h.blks _ _ (lookP _ _ hlx)) c4 (hev.eq hxv)).2.2;have⟨hS,hS2⟩:=Qvc (P:=P) (sz:=sz) (hev.eq hsv);have⟨v,w',ρ',r1,r2,r3⟩:=QmN hT h (ty:=ty) (n:=0) (m:=m) (ts:=0) (tn:=bty m e1) (nid:=St.idOf S.base t) hti hti' hte c2 (fun h0=>by omega) (by rw[Yg];exact Qgx c2 c3) hS hX (.inl ⟨rfl,hS2⟩) (by rw[Yg];exact Ys hb) hk hkm
    (by rw[YA];exact QeP hm (lookP _ _ hlx)) hown (fun _ _ _ h0 _=>by omega)
   rw[YA] at r2 r3;rw[Yg] at r3;exact⟨v,w',ρ',by rw[hrun,Sem.run_bind,r1];rfl,r2,r3⟩
  ·rename_i is n1 hc hsv;split at he
   case h_2=>cases he
   rename_i ts cs1 hls;split at he
   case h_2=>cases he
   rename_i hc2;simp only[Y9,YY] at he;obtain⟨rfl,rfl,rfl,rfl⟩:=he;simp only[Y4] at hc hc2;have⟨c1,c2,c3,c4⟩:=hc;have⟨d1,d2,d3,d4⟩:=hc2;have c1:=Y5 c1;have c2:=Ys c2;have c3:e1<1000000:=by rw[XQ] at c3;exact c3
   have c4:=Y5 c4;have d1:=Y5 d1;have d2:=Ys d2;have d3:=Y5 d3;have d4:=Ys d4;have hbx:bcl tx=m:=by rw[c1];exact Qgx c2 c3
   have hbs:bcl ts=n1:=by rw[d1];exact Qgx d2 c3
   have hX:=(Qkl (P:=P) c2 hbx (h.blks _ _ (lookP _ _ hlx)) c4 (hev.eq hxv)).2.2;have hS:=(Qkl (P:=P) d2 hbs (h.blks _ _ (lookP _ _ hls)) d3 (hev.eq hsv)).2.2;have hph:(ρ is).ph=false:=by
    cases h.blks _ _ (lookP _ _ hls) with
    |box C q1=>exact q1
   have⟨v,w',ρ',r1,r2,r3⟩:=QmN hT h (ty:=ty) (n:=n1) (m:=m) (ts:=ts) (tn:=bty (n1+m) e1) (nid:=St.idOf S.base t) hti hti' hte c2 (fun _=>hbs) (Qgx (by omega) c3) hS hX (.inr ⟨is,d2,lookP _ _ hls,hev.eq hsv⟩) d4 hk hkm
    (QjZ (QeP hm (lookP _ _ hls)) (QeP hm (lookP _ _ hlx))) hown (fun id cs0 hl _ hv=>by
     rintro⟨i,k,hk2,hpi,e⟩;have hsl:=hev.eq hsv;have⟨ad1,p1,u1,u2,u3⟩:=hv.osl_inv;have⟨ad2,p2,v1,v2,v3⟩:=hsl.osl_inv;rw[u1] at v1
     cases v1
     rcases u3 with ⟨u3,_⟩|⟨u3,u4,u5,u6⟩
     ·omega
     rcases v3 with ⟨v3,_⟩|⟨v3,v4,v5,v6⟩
     ·omega
     rw[u5] at v5;have hbb:(ρ id).b=(ρ is).b:=by simp only[Y9,Addr.mk.injEq] at v5;exact v5.1
     rcases lookA hk2 with hk3|hk3
     ·have:=h.sep i is _ _ (lookX _ _ hk3) (lookP _ _ hls) hpi hph (e.trans hbb);subst this;rw[hdis _ _ hls] at hk3;cases hk3
     ·have⟨hne,hk4⟩:=delP hk3;exact hne (h.sep i is _ _ (lookP _ _ hk4) (lookP _ _ hls) hpi hph (e.trans hbb)))
   exact⟨v,w',ρ',by rw[hrun,Sem.run_bind,r1];rfl,r2,r3⟩
  ·cases he
 ·cases he
end Go.Ab
namespace Go.Ab
open Go.RowKit
variable {P:Program} {tb:Tb} {w:World} {ow:Nat→Prop} {ρ:Env} {a:Act} {B:Bd} {w0:World} {F:List (Array Value)} {S:St}
def hasB (bs:List (Nat×Blk)) (i:Nat):Bool:=match Qi bs i with
 |some _=>true
 |none=>false
mutual
def V.within (p:Nat->Bool):V->Bool
 | .ref i _ _=>p i
 | .osl i _ _=>p i
 | .agg vs=>QhJ p vs
 | .tup vs=>QhJ p vs
 | .fn _ vs=>QhJ p vs
 |_=>true
def QhJ (p:Nat->Bool):List V->Bool
 |[]=>true
 |v::r=>match v.within p with
  |true=>QhJ p r
  |false=>false
end
def Blk.within (p:Nat->Bool):Blk->Bool
 | .box _ cs=>QhJ p cs
 | .arr ..=>true
def QhK (p:Nat->Bool):List (Nat×Blk)->Bool
 |[]=>true
 |(_,b)::r=>match b.within p with
  |true=>QhK p r
  |false=>false
theorem QmO {i j:Nat} (h:Nat.beq i j=true):i=j:=Y5 h
mutual
theorem V.within_of {p:Nat->Bool} {id:Nat} (v:V) (h:v.within p=true) (hm:v.mentions id=true):p id=true:=by
 cases v with
 |ref i _ _=>simp only[V.mentions] at hm;rw[<-QmO hm];exact h
 |osl i _ _=>simp only[V.mentions] at hm;rw[<-QmO hm];exact h
 |agg vs=>exact Qe3 vs h hm
 |tup vs=>exact Qe3 vs h hm
 |fn f vs=>exact Qe3 vs h hm
 |_=>simp[V.mentions] at hm
theorem Qe3 {p:Nat->Bool} {id:Nat} (vs:List V) (h:QhJ p vs=true) (hm:QU id vs=true):p id=true:=by
 cases vs with
 |nil=>simp[QU] at hm
 |cons v r=>
  simp only[QhJ] at h
  split at h
  ·rename_i h1
   simp only[QU] at hm
   cases h2:v.mentions id
   ·rw[h2] at hm;exact Qe3 r h hm
   ·exact V.within_of v h1 h2
  ·cases h
end
theorem Blk.within_of {p:Nat->Bool} {id:Nat} {b:Blk} (h:b.within p=true) (hm:b.mentions id=true):p id=true:=by
 cases b with
 |box t cs=>exact Qe3 cs h hm
 |arr=>simp[Blk.mentions] at hm
theorem QmP {p:Nat->Bool}:∀ {bs:List (Nat×Blk)} {i:Nat} {b:Blk},QhK p bs=true->Qi bs i=some b->b.within p=true
 |(j,x)::r,i,b,h,hl=>by
  simp only[QhK] at h;split at h
  ·rename_i h1;rcases QZ hl with ⟨_,rfl⟩|⟨_,hl⟩
   ·exact h1
   ·exact QmP h hl
  ·cases h
 |[],_,_,_,hl=>by simp[Qi] at hl
theorem QeQ {bs:List (Nat×Blk)} {i:Nat} (h:hasB bs i=true):∃b,Qi bs i=some b:=by
 unfold hasB at h;split at h
 ·exact⟨_,‹_›⟩
 ·cases h
theorem Qis {bs:List (Nat×Blk)} {i:Nat} {b:Blk} (h:Qi bs i=some b):hasB bs i=true:=by simp[hasB,h]
def Agr (l G:Loc):Prop:=G=l∨(l.n=0∧G.n=0∧(l.ph=true∨l.cap=0))
theorem VR.agr {v:V} {x:Value} {ρ':Env} (h:VR w ow ρ v x) (G:∀i,v.mentions i=true->Agr (ρ i) (ρ' i)):VR w ow ρ' v x:=by
 induction h with
 |any=>exact .any
 |d h=>exact .d h
 |ref h1 h2=>
  rename_i id row off;rcases G id (by simp[V.mentions]) with e|⟨e,_⟩
  ·rw[<-e] at h1 h2|-;exact .ref h1 h2
  ·omega
 |osl0 J h1=>
  rename_i id off len ad;rcases G id (by simp[V.mentions]) with e|⟨e,_⟩
  ·rw[<-e] at h1;exact .osl0 J h1
  ·exact .osl0 J (by omega)
 |osl h1 h2 h3=>
  rename_i id off len;rcases G id (by simp[V.mentions]) with e|⟨e,e1,U⟩
  ·rw[<-e] at h1 h2 h3|-;exact .osl h1 h2 h3
  ·have hl:len=0:=by omega
   have ho:off=0:=by omega
   subst hl ho;have hc:(ρ id).cap=0:=U.elim (fun h=>by rw[h1] at h;cases h) fun h=>h;rw[hc];exact .osl0 rfl (Yt _)
 |rp vals ho hb hc O=>exact .rp vals ho hb hc O
 |agg hs h1 hv I=>exact .agg hs h1 fun j v hj=>I j v hj fun id hm=>G id (by simpa[V.mentions] using Zc hj hm)
 |tup hs hv I=>exact .tup hs fun j v hj=>I j v hj fun id hm=>G id (by simpa[V.mentions] using Zc hj hm)
 |fn hs hv I=>exact .fn hs fun j v hj=>I j v hj fun id hm=>G id (by simpa[V.mentions] using Zc hj hm)
theorem BR.agr {i:Nat} {b:Blk} {ρ':Env} (h:BR w ow ρ i b) (hi:ρ' i=ρ i) (O:∀i,b.mentions i=true->Agr (ρ i) (ρ' i)):BR w ow ρ' i b:=by
 cases h with
 |box C h1 h2 h3 h4 h5 h6 G I=>
  exact .box C (by rw[hi];exact h1) (by rw[hi];exact h2) (by rw[hi];exact h3) (by rw[hi];exact h4) (by rw[hi];exact h5) (by rw[hi];exact h6) (by rw[hi];exact G) fun j v hj=>by rw[hi];exact(I j v hj).agr fun i hm=>O i (by simpa[Blk.mentions] using Zc hj hm)
 |arr0 h1 h2 h3 h4=>exact .arr0 (by rw[hi];exact h1) (by rw[hi];exact h2) (by rw[hi];exact h3) h4
 |arr C et h1 h2 h3 h4 h5 h6 G I=>exact .arr C et (by rw[hi];exact h1) (by rw[hi];exact h2) (by rw[hi];exact h3) (by rw[hi];exact h4) h5 (by rw[hi];exact h6) (by rw[hi];exact G) fun i j d J U=>by rw[hi];exact I i j d J U
theorem FrR.agr {f:Fr} {tm:Array Value} {ρ':Env} (h:FrR w ow ρ f tm) (G:∀i,(Jv i f.tmps=true∨Jw i f.gds=true)->Agr (ρ i) (ρ' i)):FrR w ow ρ' f tm:=by
 refine⟨fun t v hv=>(h.tmps t v hv).agr fun i hm=>G i (.inl (Qez hv hm)),fun g I=>?_⟩;rcases(h.gds g I).h with h1|h1
 ·exact⟨.inl ⟨h1.1,h1.2.agr fun i hm=>G i (.inr (QeA I hm))⟩⟩
 ·exact⟨.inr h1⟩
structure KeptE (bs:List (Nat×Blk)) (ρ0:Env) (w w':World):Prop extends Kept (fun b=>b<w.heap.size∧¬own bs ρ0 b) w w' where
 side:∀i x,Qi bs i=some x→(ρ0 i).ph=false→x.bx=true→∀k,(k<(ρ0 i).o∨(ρ0 i).o+(ρ0 i).cap*(ρ0 i).sz≤k)→w'.cell? ⟨(ρ0 i).b,k,none⟩=w.cell? ⟨(ρ0 i).b,k,none⟩
def Qxl (bs:List (Nat×Blk)) (ρ0:Env) (b k:Nat):Prop:=∃i x,Qi bs i=some x∧(ρ0 i).ph=false∧x.bx=true∧(ρ0 i).b=b∧(k<(ρ0 i).o∨(ρ0 i).o+(ρ0 i).cap*(ρ0 i).sz<=k)
structure EffC (P:Program) (f:FuncId) (args:List V) (bs:List (Nat×Blk)) (res:V) (bs':List (Nat×Blk)):Prop where
 can:Callable P f
 shut:res.within (hasB bs')=true
 shutB:QhK (hasB bs') bs'=true
 out:∀(Z:Nat→Prop) w vals ρ0,Qhx w (fun x=>own bs ρ0 x∨Z x) ρ0 args vals→(∀i b,Qi bs i=some b→BR w (fun x=>own bs ρ0 x∨Z x) ρ0 i b)→
  (∀i j x y,Qi bs i=some x→Qi bs j=some y→(ρ0 i).ph=false→(ρ0 j).ph=false→(ρ0 i).b=(ρ0 j).b→i=j)→
  (∀i x,Qi bs i=some x→(ρ0 i).ph=false→¬Z (ρ0 i).b)→(∀b,Z b→b<w.heap.size)→TabB P (fun b=>b<w.heap.size∧¬own bs ρ0 b) w→
  Calls P f vals w fun e w'=>∃v ρ,e=.returned v∧KeptE bs ρ0 w w'∧(∀i x y,Qi bs i=some x→Qi bs' i=some y→Agr (ρ0 i) (ρ i))∧
   VR w' (fun x=>own bs' ρ x∨Z x) ρ res v∧(∀i b,Qi bs' i=some b→BR w' (fun x=>own bs' ρ x∨Z x) ρ i b)∧
   (∀i j x y,Qi bs' i=some x→Qi bs' j=some y→(ρ i).ph=false→(ρ j).ph=false→(ρ i).b=(ρ j).b→i=j)∧
   (∀i x,Qi bs' i=some x→(ρ i).ph=false→(w.heap.size≤(ρ i).b∨own bs ρ0 (ρ i).b)∧∀k,Qxl bs ρ0 (ρ i).b k→x.bx=true∧(k<(ρ i).o∨(ρ i).o+(ρ i).cap*(ρ i).sz≤k))
theorem Qp6 {Z I:Nat->Prop} {sub:∀b,Z b->I b} {bs:List (Nat×Blk)} {ρ0:Env} {w:World} {ow:Nat->Prop} (G:∀i b,Qi bs i=some b->BR w ow ρ0 i b):KeptD ⟨I,Z,sub,Qxl bs ρ0⟩ w w:=
 ⟨Kept.refl _ _,fun _ _ _=>rfl,fun b k ⟨i,x,J,hp,_,e,_⟩=>e▸(G i x J).lt hp⟩
theorem Qr9 {Z:Nat->Prop} {bs:List (Nat×Blk)} {ρ0:Env} {w:World} {sub:∀b,Z b->b<w.heap.size∧¬own bs ρ0 b} {i:Nat} {x:Blk} (G:∀i j x y,Qi bs i=some x->Qi bs j=some y->(ρ0 i).ph=false->(ρ0 j).ph=false->(ρ0 i).b=(ρ0 j).b->i=j)
  (O:Qi bs i=some x) (hp:(ρ0 i).ph=false):Bd.free ⟨fun b=>b<w.heap.size∧¬own bs ρ0 b,Z,sub,Qxl bs ρ0⟩ (ρ0 i) x.bx:=
 ⟨fun hk=>hk.2 ⟨i,x,O,hp,rfl⟩,fun k ⟨j,y,I,J,Y,e,U⟩=>by
  have:=G j i y x I O J hp e;subst this;rw[O] at I;cases I;exact⟨Y,U⟩⟩
theorem Qvd {Z:Nat->Prop} {bs:List (Nat×Blk)} {ρ0:Env} {w w':World} {sub:∀b,Z b->b<w.heap.size∧¬own bs ρ0 b} (h:KeptD ⟨fun b=>b<w.heap.size∧¬own bs ρ0 b,Z,sub,Qxl bs ρ0⟩ w w'):KeptE bs ρ0 w w':=
 ⟨h.toKept,fun i x G hp hb k hk=>h.cell _ k ⟨i,x,G,hp,hb,rfl,hk⟩⟩
theorem Qq1 {bs:List (Nat×Blk)} {ρ0:Env} {b k:Nat} (h:∀i x,Qi bs i=some x->x.bx=false) (hc:Qxl bs ρ0 b k):False:=by
 have⟨i,x,G,_,q,_⟩:=hc;rw[h i x G] at q;cases q
theorem QoO {bs:List (Nat×Blk)} {ρ0:Env} {w w':World} (h:∀i x,Qi bs i=some x->x.bx=false) (k:Kept (fun b=>b<w.heap.size∧¬own bs ρ0 b) w w'):KeptE bs ρ0 w w':=
 ⟨k,fun i x G _ hb=>by rw[h i x G] at hb;cases hb⟩
theorem VR.mono {v:V} {x:Value} {ow':Nat->Prop} (h:VR w ow ρ v x) (hs:∀b,ow' b->ow b):VR w ow' ρ v x:=
 h.keep ⟨Yi _,fun b _ ho=>⟨rfl,fun h=>ho (hs b h)⟩⟩ fun _ _=>rfl
theorem BR.mono {i:Nat} {b:Blk} {ow':Nat->Prop} (h:BR w ow ρ i b) (hs:∀b,ow' b->ow b):BR w ow' ρ i b:=
 h.keep ⟨Yi _,fun b _ ho=>⟨rfl,fun h=>ho (hs b h)⟩⟩ rfl (fun _=>rfl) fun _ _=>rfl
theorem VR.env {v:V} {x:Value} {ρ':Env} (h:VR w ow ρ v x) (G:∀i,v.mentions i=true->ρ' i=ρ i):VR w ow ρ' v x:=
 h.keep ⟨Yi _,fun _ _ ho=>⟨rfl,ho⟩⟩ G
theorem BR.env {i:Nat} {b:Blk} {ρ':Env} (h:BR w ow ρ i b) (hi:ρ' i=ρ i) (G:∀i,b.mentions i=true->ρ' i=ρ i):BR w ow ρ' i b:=
 h.keep ⟨Yi _,fun _ _ ho=>⟨rfl,ho⟩⟩ hi (fun _=>rfl) G
theorem VR.unren {f:Nat->Nat} {u:V} {x:Value} (h:VR w ow ρ u x):∀v:V,u=v.ren f->VR w ow (fun i=>ρ (f i)) v x:=by
 induction h with
 |any=>intro v hv;cases v<;>simp only[V.ren] at hv<;>first|exact .any|cases hv
 |d h=>intro v hv;cases v<;>simp only[V.ren] at hv<;>first|(cases hv;exact .d h)|cases hv
 |ref h1 h2=>intro v hv;cases v<;>simp only[V.ren] at hv<;>first|(cases hv;exact .ref (ρ:=fun i=>ρ (f i)) h1 h2)|cases hv
 |osl0 J h1=>intro v hv;cases v<;>simp only[V.ren] at hv<;>first|(cases hv;exact .osl0 (ρ:=fun i=>ρ (f i)) J h1)|cases hv
 |osl h1 h2 h3=>intro v hv;cases v<;>simp only[V.ren] at hv<;>first|(cases hv;exact .osl (ρ:=fun i=>ρ (f i)) h1 h2 h3)|cases hv
 |rp vals ho hb hc O=>intro v hv;cases v<;>simp only[V.ren] at hv<;>first|(cases hv;exact .rp vals ho hb hc O)|cases hv
 |agg hs h1 hv I=>
  intro v G;cases v<;>simp only[V.ren] at G<;>try cases G
  rename_i vs;refine .agg (by rw[JE] at hs;exact hs) h1 fun j v hj=>I j (v.ren f) (by rw[Qdu,hj];rfl) v rfl
 |tup hs hv I=>
  intro v G;cases v<;>simp only[V.ren] at G<;>try cases G
  rename_i vs;refine .tup (by rw[JE] at hs;exact hs) fun j v hj=>I j (v.ren f) (by rw[Qdu,hj];rfl) v rfl
 |fn hs hv I=>
  intro v G;cases v<;>simp only[V.ren] at G<;>try cases G
  rename_i g vs;refine .fn (by rw[JE] at hs;exact hs) fun j v hj=>I j (v.ren f) (by rw[Qdu,hj];rfl) v rfl
theorem BR.unren {f:Nat->Nat} {i:Nat} {b:Blk} (h:BR w ow ρ (f i) (b.ren f)):BR w ow (fun i=>ρ (f i)) i b:=by
 cases b with
 |box t cs=>
  cases h with|box C h1 h2 h3 h4 h5 h6 G I=>
  rw[JE] at h3 h6 G;exact .box C h1 h2 h3 h4 h5 h6 G fun j v hj=>(I j (v.ren f) (by rw[Qdu,hj];rfl)).unren v rfl
 |arr t sz n row=>
  cases h with
  |arr0 h1 h2 h3 h4=>exact .arr0 h1 h2 h3 h4
  |arr C et h1 h2 h3 h4 h5 h6 G I=>exact .arr C et h1 h2 h3 h4 h5 h6 G I
def Qbk (r:List (Nat×Nat)) (k i:Nat):Nat:=match Qi r i with
 |some j=>j
 |none=>i+k
theorem Qgy {j:Nat}:∀ {bs:List (Nat×Blk)} {i:Nat} {b:Blk},Qi (QpV bs j) i=some b->i≠j∧Qi bs i=some b
 |(u,x)::r,i,b,h=>by
  simp only[QpV] at h;split at h
  ·rename_i hb;have:=Y5 hb;subst this;have⟨h1,h2⟩:=Qgy h;exact⟨h1,by rw[QQ (YU h1)];exact h2⟩
  ·rename_i hb;rcases QZ h with ⟨rfl,rfl⟩|⟨G,h⟩
   ·exact⟨fun e=>by subst e;simp at hb,Zk⟩
   ·have⟨h1,h2⟩:=Qgy h;exact⟨h1,by rw[QQ G];exact h2⟩
 |[],_,_,h=>by simp[QpV,Qi] at h
def QpB (f:Nat->Nat) (M:List (Nat×Blk)) (S:List (Nat×Blk)):List (Nat×Blk)->List (Nat×Blk)
 |[]=>S
 |(j,_)::r=>match Qi M j with
  |some b=>QfQ (QpB f M S r) (f j) (b.ren f)
  |none=>QpV (QpB f M S r) (f j)
def Qlj (f:Nat->Nat) (bs M:List (Nat×Blk)) (S:List (Nat×Blk)):List (Nat×Blk)->List (Nat×Blk)
 |[]=>S
 |(j,_)::r=>match Qi bs j with
  |some _=>Qlj f bs M S r
  |none=>match Qi M j with
   |some b=>(f j,b.ren f)::Qlj f bs M S r
   |none=>Qlj f bs M S r
theorem Qgz {f:Nat->Nat} {M S:List (Nat×Blk)}:∀ {bs:List (Nat×Blk)} {i:Nat} {b:Blk},Qi (QpB f M S bs) i=some b->
  (∃j b',Qi M j=some b'∧i=f j∧b=b'.ren f)∨(Qi S i=some b∧∀j x,(j,x)∈bs->i≠f j)
 |[],i,b,h=>.inr ⟨h,fun _ _ hm=>by simp at hm⟩
 |(j,x)::r,i,b,h=>by
  simp only[QpB] at h;split at h
  ·rename_i b' I;rcases JG h with ⟨h1,h2,_⟩|⟨h1,h2⟩
   ·exact .inl ⟨j,b',I,h1,h2⟩
   ·rcases Qgz h2 with h3|⟨h3,h4⟩
    ·exact .inl h3
    ·refine .inr ⟨h3,fun G J hm=>?_⟩;rcases Yh.1 hm with e|hm
     ·cases e;exact h1
     ·exact h4 G J hm
  ·have⟨h1,h2⟩:=Qgy h;rcases Qgz h2 with h3|⟨h3,h4⟩
   ·exact .inl h3
   ·refine .inr ⟨h3,fun G J hm=>?_⟩;rcases Yh.1 hm with e|hm
    ·cases e;exact h1
    ·exact h4 G J hm
theorem Qe4 {f:Nat->Nat} {bs M S:List (Nat×Blk)}:∀ {l:List (Nat×Blk)} {i:Nat} {b:Blk},Qi (Qlj f bs M S l) i=some b->
  (∃j b',Qi M j=some b'∧i=f j∧b=b'.ren f)∨Qi S i=some b
 |[],i,b,h=>.inr h
 |(j,x)::r,i,b,h=>by
  simp only[Qlj] at h;split at h
  ·exact Qe4 h
  ·split at h
   ·rename_i b' G;rcases QZ h with ⟨rfl,rfl⟩|⟨_,h⟩
    ·exact .inl ⟨j,b',G,rfl,rfl⟩
    ·exact Qe4 h
   ·exact Qe4 h
theorem Zd {α:Type}:∀ {l:List (Nat×α)} {i:Nat} {x:α},Qi l i=some x->(i,x)∈l
 |(u,y)::r,i,x,h=>by
  rcases QZ h with ⟨rfl,rfl⟩|⟨_,h⟩
  ·simp
  ·exact Yp _ (Zd h)
 |[],_,_,h=>by simp[Qi] at h
def inB (S:List (Nat×Blk)) (f:Nat->Nat):List (Nat×Blk)->Prop
 |[]=>True
 |(j,b)::r=>(match Qi S (f j) with
  |some b0=>BLe b0 (b.ren f)
  | none => Stuck "no such block") ∧ inB S f r
theorem Qq2 {T:List (Nat×Blk)} {f:Nat->Nat}:∀ {bs:List (Nat×Blk)},inB T f bs->∀j b,(j,b)∈bs->∃b0,Qi T (f j)=some b0∧BLe b0 (b.ren f)
 |(j,b)::r,h,j',b',hm=>by
  simp only[inB] at h;rcases Yh.1 hm with e|hm
  ·cases e
   have h1:=h.1;split at h1
   ·exact⟨_,‹_›,h1⟩
   ·exact h1.no.elim
  ·exact Qq2 h.2 j' b' hm
 |[],_,_,_,hm=>by simp at hm
def Jx (bs:List (Nat×Blk)):List (Nat×Blk)->List Nat
 |[]=>[]
 |(j,_)::r=>match Qi bs j with
  |some _=>Jx bs r
  |none=>j::Jx bs r
def QdP:List (Nat×Blk)->List Nat
 |[]=>[]
 |(j,_)::r=>j::QdP r
def Qve (i:Nat):List Nat->Bool
 |[]=>false
 |j::r=>match Nat.beq i j with
  |true=>true
  |false=>Qve i r
def QcR (f:Nat->Nat):List Nat->Bool
 |[]=>true
 |j::r=>match Qve (f j) (r.map f) with
  |true=>false
  |false=>QcR f r
theorem QnF {i:Nat}:∀ {l:List Nat},i∈l->Qve i l=true
 |j::r,h=>by
  simp only[Qve];split
  ·rfl
  ·rename_i hb;rcases Yh.1 h with rfl|h
   ·simp at hb
   ·exact QnF h
 |[],h=>by simp at h
theorem QgX {f:Nat->Nat}:∀ {l:List Nat},QcR f l=true->∀i∈l,∀j∈l,f i=f j->i=j
 |x::r,h,i,hi,j,hj,e=>by
  simp only[QcR] at h;split at h
  ·cases h
  ·rename_i hb;have key:∀y∈r,f x≠f y:=fun y J e=>by
    have:=QnF (i:=f x) (l:=r.map f) (by rw[e];exact List.mem_map_of_mem J);rw[this] at hb;cases hb
   rcases Yh.1 hi with h1|G<;>rcases Yh.1 hj with h2|I
   ·rw[h1,h2]
   ·subst h1;exact absurd e (key j I)
   ·subst h2;exact absurd e.symm (key i G)
   ·exact QgX h i G j I e
 |[],_,i,hi,_,_,_=>by simp at hi
theorem Qd7 {bs:List (Nat×Blk)}:∀ {i:Nat} {x:Blk},(i,x)∈bs->i∈QdP bs:=by
 induction bs with
 |nil=>intro i x h;simp at h
 |cons p r G=>
  have⟨j,y⟩:=p;intro i x h;simp only[QdP];rcases Yh.1 h with h|h
  ·cases h;simp
  ·exact Yp _ (G h)
theorem Qjb {bs:List (Nat×Blk)}:∀ {M:List (Nat×Blk)} {i:Nat} {x:Blk},(i,x)∈M->Qi bs i=none->i∈Jx bs M
 |(j,y)::r,i,x,h,hn=>by
  simp only[Jx];rcases Yh.1 h with h|h
  ·cases h;rw[hn];simp
  ·split
   ·exact Qjb h hn
   ·exact Yp _ (Qjb h hn)
 |[],_,_,h,_=>by simp at h
theorem Qxm {f:FuncId} {args args':List V} {bs bs':List (Nat×Blk)} {res:V} {vals:Array Value} (g:Nat->Nat) (h:EffC P f args' bs res bs') (hs:Sim P B w0 F ρ S a w) (hv:Qhx w (ZL B S.blks ρ) ρ args vals)
  (hw:CellsLe args (QjF g args')) (hi:∀j b,(j,b)∈bs->∃b0,Qi S.blks (g j)=some b0∧BLe b0 (b.ren g))
  (ha:∀i∈QdP bs++Jx bs bs',∀j∈QdP bs++Jx bs bs',g i=g j->i=j) (hm:∀j∈Jx bs bs',S.mentions (g j)=false) (L:List (Nat×Blk))
  (a2:∀ {i b},Qi L i=some b->(∃j b',Qi bs' j=some b'∧i=g j∧b=b'.ren g)∨(Qi S.blks i=some b∧∀j x,Qi bs j=some x->i≠g j)):
  Calls P f vals w fun e w'=>∃v ρ1,e=.returned v∧Sim P B w0 F ρ1 ⟨S.base,S.nt,S.tmps,S.gds,L,S.frames⟩ a w'∧VR w' (ZL B L ρ1) ρ1 (res.ren g) v∧∀i,S.mentions i=true->Agr (ρ i) (ρ1 i):=by
 have Y:∀i x,Qi bs i=some x->∃b0,Qi S.blks (g i)=some b0∧BLe b0 (x.ren g):=fun i x G=>hi i x (Zd G);have U:∀b,own bs (fun i=>ρ (g i)) b->own S.blks ρ b:=fun b ⟨i,x,G,hp,e⟩=>by
  have⟨b0,h1,_⟩:=Y i x G;exact⟨g i,b0,h1,hp,e⟩
 let Z:Nat->Prop:=fun b=>ZL B S.blks ρ b∧¬own bs (fun i=>ρ (g i)) b
 have sub:∀b,own bs (fun i=>ρ (g i)) b∨Z b->ZL B S.blks ρ b:=fun b hb=>hb.elim (fun h=>.inl (U b h)) fun h=>h.1;have c3:∀i x j y,Qi bs i=some x->Qi bs j=some y->g i=g j->i=j:=fun i x j y G hy e=>ha i (by simp[Qd7 (Zd G)]) j (by simp[Qd7 (Zd hy)]) e;have⟨c1,c2⟩:=hw.get;refine Calls.mono (h.out Z w vals (fun i=>ρ (g i)) ⟨by rw[hv.1,c1,JE],fun j v hj=>?_⟩ (fun i b hb=>?_) (fun i j x y G hy J I e=>?_) (fun i x G _ hz=>?_) (fun b hb=>QdK hs hb.1) (hs.tabs fun b hb=>⟨hs.hB b hb,fun ho=>by obtain⟨i,x,G,hp,rfl⟩:=U b ho;exact(hs.ge i x G hp).blk hb⟩)) ?_
 ·have⟨u,hu,c6⟩:=c2 j (v.ren g) (by rw[Qdu,hj];rfl);exact((c6.out _ _ _ _ (hv.2 j u hu)).unren v rfl).mono sub
 ·have⟨b0,h1,h2⟩:=Y i b hb;exact((h2.out _ _ _ _ (hs.blks _ _ h1)).unren).mono sub
 ·have⟨x0,h1,_⟩:=Y i x G;have⟨y0,h2,_⟩:=Y j y hy;exact c3 i x j y G hy (hs.sep _ _ _ _ h1 h2 J I e)
 ·rename_i hp;exact hz.2 ⟨i,x,G,hp,rfl⟩
 rintro e w' ⟨v,ρ',rfl,kept,same,c5,b8,c4,b7⟩
 --the cells beside what the call is handed
 have a8:∀b k,own bs (fun i=>ρ (g i)) b->B.cel b k->∃i x,Qi bs i=some x∧(ρ (g i)).ph=false∧x.bx=true∧True∧(ρ (g i)).b=b∧(k<(ρ (g i)).o∨(ρ (g i)).o+(ρ (g i)).cap*(ρ (g i)).sz<=k):=by
  rintro b k ⟨i,x,G,hp,rfl⟩ hc;have⟨b0,h1,h2⟩:=Y i x G;have⟨q1,q2⟩:=(hs.ge _ _ h1 hp).cel k hc;have:=h2.bx;rw[Blk.ren_bx] at this;exact⟨i,x,G,hp,by rw[this];exact q1,trivial,rfl,q2⟩
 --the surroundings behind the call
 have b3:∀j x,Qi bs' j=some x->Qi bs j=none->j∈Jx bs bs':=fun j x G hn=>Qjb (Zd G) hn;have a5:∀j x,Qi bs' j=some x->j∈QdP bs++Jx bs bs':=fun j x G=>by
  cases hb:Qi bs j with
  |none=>simp[b3 j x G hb]
  |some y=>simp[Qd7 (Zd hb)]
 classical
 let ρ1:Env:=fun i=>if G:∃j,hasB bs' j=true∧g j=i then ρ' G.choose else ρ i
 have a4:∀j x,Qi bs' j=some x->ρ1 (g j)=ρ' j:=fun j x hj=>by
  have G:∃j',hasB bs' j'=true∧g j'=g j:=⟨j,Qis hj,rfl⟩;simp only[ρ1,dif_pos G];have⟨y,hy⟩:=QeQ G.choose_spec.1;rw[ha _ (a5 _ y hy) j (a5 j x hj) G.choose_spec.2]
 have a7:∀i,(∀j x,Qi bs' j=some x->g j≠i)->ρ1 i=ρ i:=fun i hn=>by
  simp only[ρ1];rw[dif_neg];rintro⟨j,hj,e⟩;have⟨y,hy⟩:=QeQ hj;exact hn j y hy e
 have b5:∀i b,Qi S.blks i=some b->S.mentions i=true:=fun i b hb=>by
  cases hc:S.mentions i
  ·have:=(St.mentions_parts hc).2.2.1;rw[ZW (id:=i) hb (.inl rfl)] at this;cases this
  ·rfl
 have O:∀i,S.mentions i=true->Agr (ρ i) (ρ1 i):=fun i hi=>by
  by_cases G:∃j x,Qi bs' j=some x∧g j=i
  ·obtain⟨j,x,hj,rfl⟩:=G;rw[a4 j x hj]
   cases hb:Qi bs j with
   |none=>
    have:=hm j (b3 j x hj hb);rw[hi] at this;cases this
   |some y=>exact same j y x hb hj
  ·exact .inl (a7 i fun j x hj e=>G ⟨j,x,hj,e⟩)
 have a3:∀i b,Qi S.blks i=some b->(∀j x,Qi bs j=some x->i≠g j)->ρ1 i=ρ i:=fun i b hb hn=>a7 i fun j x hj e=>by
  cases c0:Qi bs j with
  |none=>
   have:=hm j (b3 j x hj c0);rw[e,b5 i b hb] at this;cases this
  |some y=>exact hn j y c0 e.symm
 have a1:∀i b,Qi S.blks i=some b->(∀j x,Qi bs j=some x->i≠g j)->(ρ i).ph=false->¬own bs (fun i=>ρ (g i)) (ρ i).b:=fun i b hb hn hp=>by
  rintro⟨j,x,G,I,e⟩;have⟨b0,h1,_⟩:=Y j x G;exact hn j x G (hs.sep _ _ _ _ hb h1 hp I e.symm)
 have a9:∀b,ZL B L ρ1 b->own bs' ρ' b∨Z b:=fun b hb=>by
  rcases hb with ⟨i,x,G,hp,rfl⟩|hb
  ·rcases a2 G with ⟨j,b',hj,rfl,_⟩|⟨h1,h2⟩
   ·rw[a4 j b' hj] at hp|-;exact .inl ⟨j,b',hj,hp,rfl⟩
   ·rw[a3 i _ h1 h2] at hp|-;exact .inr ⟨.inl ⟨i,x,h1,hp,rfl⟩,a1 i x h1 h2 hp⟩
  ·refine .inr ⟨.inr hb,fun ho=>?_⟩;obtain⟨i,x,G,hp,rfl⟩:=U b ho;exact(hs.ge i x G hp).blk (B.sub _ hb)
 have b9:∀(u:V) (x:Value),u.within (hasB bs')=true->VR w' (fun x=>own bs' ρ' x∨Z x) ρ' u x->VR w' (ZL B L ρ1) ρ1 (u.ren g) x:=fun u x hu G=>by
  have h1:VR w' (fun x=>own bs' ρ' x∨Z x) (fun i=>ρ1 (g i)) u x:=G.env fun i hi=>by
   have⟨b,hb⟩:=QeQ (V.within_of u hu hi);exact a4 i b hb
  exact(h1.ren fun i=>rfl).mono a9
 have b4:∀(i:Nat) (b:Blk),Qi bs' i=some b->BR w' (ZL B L ρ1) ρ1 (g i) (b.ren g):=fun i b hb=>by
  have h1:BR w' (fun x=>own bs' ρ' x∨Z x) (fun i=>ρ1 (g i)) i b:=(b8 i b hb).env (a4 i b hb) fun j hj=>by
   have⟨b2,c7⟩:=QeQ (Blk.within_of (QmP h.shutB hb) hj);exact a4 j b2 c7
  exact(h1.ren fun i=>rfl).mono a9
 have keep:Keep w (ZL B S.blks ρ) w' (ZL B L ρ1):=⟨kept.size,fun b hb ho=>⟨kept.block b ⟨hb,fun h1=>ho (.inl (U b h1))⟩,fun h1=>by
  rcases a9 b h1 with ⟨j,x,G,hp,rfl⟩|h2
  ·rcases b7 j x G hp with h3|h3
   ·omega
   ·exact ho (.inl (U _ h3))
  ·exact ho h2.1⟩⟩
 refine⟨v,ρ1,rfl,⟨hs.below.next kept.os kept.tape kept.output kept.size (fun b hb=>?_) (fun b k hc=>?_),hs.tab,fun b hb=>YH (hs.hB b hb) kept.size,hs.defers,hs.nt,?_,fun i b hb=>?_,fun i j x y G hy J I e=>?_,fun i x G hp=>?_,hs.frames.1,fun i f tm hf ht=>?_⟩,b9 _ _ h.shut c5,O⟩
 ·refine kept.block b ⟨hs.hB b hb,fun h1=>?_⟩;obtain⟨i,x,G,hp,rfl⟩:=U b h1;exact(hs.ge i x G hp).blk hb
 ·by_cases ho:own bs (fun i=>ρ (g i)) b
  ·have⟨i,x,G,hp,q1,q2,q3,q4⟩:=a8 b k ho hc;subst q3;exact kept.side i x G hp q1 k q4
  ·exact World.cell?_of_block (kept.block b ⟨YH (hs.below.clt b k hc) hs.below.size,ho⟩)
 ·refine(hs.top.keep keep fun _ _=>rfl).agr fun i hi=>O i ?_
  cases hc:S.mentions i
  ·have⟨m1,m2,_,_⟩:=St.mentions_parts hc;dsimp only at hi;rw[m1,m2] at hi;simp at hi
  ·rfl
 ·rcases a2 hb with ⟨j,b',hj,rfl,rfl⟩|⟨h1,h2⟩
  ·exact b4 j b' hj
  ·refine((hs.blks i b h1).keep keep rfl (fun hp=>kept.block _ ⟨(hs.blks i b h1).lt hp,a1 i b h1 h2 hp⟩) fun _ _=>rfl).agr (a3 i b h1 h2) fun j hj=>O j ?_
   cases hc:S.mentions j
   ·have:=(St.mentions_parts hc).2.2.1;rw[ZW (id:=j) h1 (.inr hj)] at this;cases this
   ·rfl
 ·have key:∀i x,Qi L i=some x->(ρ1 i).ph=false->(∃j b',Qi bs' j=some b'∧i=g j∧ρ1 i=ρ' j)∨(Qi S.blks i=some x∧(∀j x,Qi bs j=some x->i≠g j)∧ρ1 i=ρ i):=fun i x G hp=>by
   rcases a2 G with ⟨j,b',hj,rfl,_⟩|⟨h1,h2⟩
   ·exact .inl ⟨j,b',hj,rfl,a4 j b' hj⟩
   ·exact .inr ⟨h1,h2,a3 i _ h1 h2⟩
  have a6:∀j b' i x,Qi bs' j=some b'->(ρ' j).ph=false->Qi S.blks i=some x->(∀j x,Qi bs j=some x->i≠g j)->(ρ i).ph=false->(ρ' j).b≠(ρ i).b:=fun j b' i x hj I h1 h2 J e=>by
   rcases(b7 j b' hj I).1 with h3|h3
   ·have:=(hs.blks i x h1).lt J;omega
   ·rw[e] at h3;exact a1 i x h1 h2 J h3
  rcases key i x G J with ⟨j1,b1,g1,rfl,e1⟩|⟨g1,g2,e1⟩<;>rcases key j y hy I with ⟨j2,b2,k1,rfl,e2⟩|⟨k1,k2,e2⟩
  ·rw[e1] at J e;rw[e2] at I e;rw[c4 j1 j2 b1 b2 g1 k1 J I e]
  ·rw[e1] at J e;rw[e2] at I e;exact absurd e (a6 j1 b1 j y g1 J k1 k2 I)
  ·rw[e1] at J e;rw[e2] at I e;exact absurd e.symm (a6 j2 b2 i x k1 I g1 g2 J)
  ·rw[e1] at J e;rw[e2] at I e;exact hs.sep i j x y g1 k1 J I e
 ·rcases a2 G with ⟨j,b',hj,rfl,rfl⟩|⟨h1,h2⟩
  ·rw[a4 j b' hj] at hp|-;have⟨h3,h4⟩:=b7 j b' hj hp;refine⟨fun hB=>?_,fun k hc=>?_⟩
   ·rcases h3 with h3|h3
    ·have:=hs.hB _ hB;omega
    ·have⟨i,x,G,b6,e⟩:=U _ h3;rw[<-e] at hB;exact(hs.ge i x G b6).blk hB
   ·rcases h3 with h3|h3
    ·have:=hs.below.clt _ k hc;have:=hs.below.size;omega
    ·have⟨i,x,G,b6,q1,_,q3,q4⟩:=a8 _ k h3 hc;rw[Blk.ren_bx];exact h4 k ⟨i,x,G,b6,q1,q3,q4⟩
  ·rw[a3 i _ h1 h2] at hp|-;exact hs.ge i x h1 hp
 ·refine((hs.frames.2 i f tm hf ht).keep keep fun _ _=>rfl).agr fun j hj=>O j ?_
  cases hc:S.mentions j
  ·have:=(St.mentions_parts hc).2.2.2;rw[QeB (id:=j) hf hj] at this;cases this
  ·rfl
theorem Qto {f:FuncId} {args args':List V} {bs bs':List (Nat×Blk)} {res:V} {vals:Array Value} (g:Nat->Nat) (h:EffC P f args' bs res bs') (hs:Sim P B w0 F ρ S a w) (hv:Qhx w (ZL B S.blks ρ) ρ args vals)
  (I:CellsLe args (QjF g args')) (hi:∀j b,(j,b)∈bs->∃b0,Qi S.blks (g j)=some b0∧BLe b0 (b.ren g))
  (ha:∀i∈QdP bs++Jx bs bs',∀j∈QdP bs++Jx bs bs',g i=g j->i=j) (hm:∀j∈Jx bs bs',S.mentions (g j)=false) (L:List (Nat×Blk))
  (G:∀ {i b},Qi L i=some b->(∃j b',Qi bs' j=some b'∧i=g j∧b=b'.ren g)∨(Qi S.blks i=some b∧∀j x,Qi bs j=some x->i≠g j)):
  Calls P f vals w fun e w'=>∃v ρ1,e=.returned v∧Sim P B w0 F ρ1 ⟨S.base,S.nt,S.tmps,S.gds,L,S.frames⟩ a w'∧VR w' (ZL B L ρ1) ρ1 (res.ren g) v:=
 Calls.mono (Qxm g h hs hv I hi ha hm L G) fun _ _ ⟨v,ρ1,h1,h2,h3,_⟩=>⟨v,ρ1,h1,h2,h3⟩
theorem Qtp {S:List (Nat×Blk)} {g:Nat->Nat} {bs bs':List (Nat×Blk)} {i:Nat} {b:Blk} (hb:Qi (Qlj g bs bs' (QpB g bs' S bs) bs') i=some b):
  (∃j b',Qi bs' j=some b'∧i=g j∧b=b'.ren g)∨(Qi S i=some b∧∀j x,Qi bs j=some x->i≠g j):=by
 rcases Qe4 hb with h1|h1
 ·exact .inl h1
 ·rcases Qgz h1 with h2|⟨h2,h3⟩
  ·exact .inl h2
  ·exact .inr ⟨h2,fun j x G=>h3 j x (Zd G)⟩
theorem Qxn {f:FuncId} {args args':List V} {bs bs':List (Nat×Blk)} {res:V} {K:V->St->Prop} (g:Nat->Nat) (h:EffC P f args' bs res bs') (G:CellsLe args (QjF g args')) (hi:inB S.blks g bs)
  (ha:QcR g (QdP bs++Jx bs bs')=true) (hm:(Jx bs bs').all (fun j=>!(S.mentions (g j)))=true)
  (hk:K (res.ren g) ⟨S.base,S.nt,S.tmps,S.gds,Qlj g bs bs' (QpB g bs' S.blks bs) bs',S.frames⟩):CallP P f args S K:=by
 have hi:=Qq2 hi;have ha:=QgX ha;have hm:∀j∈Jx bs bs',S.mentions (g j)=false:=fun j hj=>by simpa using Yb.1 hm j hj
 refine⟨h.can,fun B w0 F ρ a w vals hs hv=>?_⟩;refine Calls.mono (Qto g h hs hv G hi ha hm _ Qtp) ?_;rintro e w' ⟨v,ρ1,rfl,h1,h2⟩;exact⟨v,ρ1,_,_,rfl,h1,h2,hk⟩
def Qtq:Blk->Nat->V
 | .box t _,j=>(match bcl t with
  |0=>.ref j 0 0
  |n+1=>.osl j 0 (n+1))
 | .arr _ _ n _,j=>.osl j 0 n
def Qtr:Nat->List (Nat×Blk)->List (Nat×V)
 |_,[]=>[]
 |t,(j,b)::r=>(t,Qtq b j)::Qtr (t+1) r
def QeR (ρ:Env):Blk->Nat->Value
 | .box t _,j=>(match bcl t with
  |0=>.pointer (some ⟨(ρ j).b,(ρ j).o+0*(ρ j).sz+0,none⟩)
  |n+1=>.slice (some ⟨(ρ j).b,(ρ j).o+0*(ρ j).sz,none⟩) (n+1) ((ρ j).cap-0))
 | .arr _ _ n _,j=>match (ρ j).ph with
  |true=>.slice none 0 0
  |false=>.slice (some ⟨(ρ j).b,(ρ j).o+0*(ρ j).sz,none⟩) n ((ρ j).cap-0)
def Qp7:Blk->Blk->Prop
 | .box t cs,.box t' cs'=>(cs.length,bcl t)=(cs'.length,bcl t')
 | .arr _ sz n _,.arr _ sz' n' _=>sz=sz'∧n=n'
 | _, _ => Stuck "another kind of block"
def outB (T:List (Nat×Blk)):List (Nat×Blk)->Prop
 |[]=>True
 |(j,b)::r=>(match Qi T j with
  |some b0=>BLe b0 b
  | none => Stuck "no such block") ∧ outB T r
theorem Qts {T:List (Nat×Blk)}:∀ {M:List (Nat×Blk)},outB T M->∀j b,(j,b)∈M->∃b0,Qi T j=some b0∧BLe b0 b
 |(j,b)::r,h,j',b',hm=>by
  simp only[outB] at h;rcases Yh.1 hm with e|hm
  ·cases e
   have h1:=h.1;split at h1
   ·exact⟨_,‹_›,h1⟩
   ·exact h1.no.elim
  ·exact Qts h.2 j' b' hm
 |[],_,_,_,hm=>by simp at hm
theorem QoP:∀ {bs:List (Nat×Blk)} {t u:Nat} {v:V},Qi (Qtr t bs) u=some v->∃i j b,u=t+i∧bs[i]? =some (j,b)∧v=Qtq b j
 |(j,b)::r,t,u,v,h=>by
  rcases QZ h with ⟨rfl,rfl⟩|⟨_,h⟩
  ·exact⟨0,j,b,rfl,rfl,rfl⟩
  ·obtain⟨i,G,b',rfl,h2,h3⟩:=QoP h;exact⟨i+1,G,b',by omega,by simpa using h2,h3⟩
 |[],_,_,_,h=>by simp[Qtr,Qi] at h
theorem Qvf {j:Nat} {b:Blk} (h:BR w ow ρ j b):VR w ow ρ (Qtq b j) (QeR ρ b j):=by
 cases h with
 | @box t cs C et h1 h2 h3 h4=>
  have⟨G,I,_⟩:=h4;simp only[Qtq,QeR]
  cases hb:bcl t with
  |zero=>exact .ref h1 (by rw[G];omega)
  |succ m=>rw[hb] at G;exact .osl h1 (by omega) I
 |arr0 h1 h2 h3 h4=>simp only[Qtq,QeR,h1];exact .osl0 h4 (Yt _)
 |arr C et h1 h2 h3 h4=>simp only[Qtq,QeR,h1];exact .osl h1 (by omega) (by omega)
theorem Qvg {j:Nat} {b b':Blk} {w1 w2:World} {a4 a3 a5:Nat->Prop} {ρ':Env} (h:BR w1 a4 ρ j b) (h':BR w2 a3 ρ' j b') (hs:Qp7 b b') (ha:VR w2 a5 ρ' (Qtq b j) (QeR ρ b j)):Agr (ρ j) (ρ' j):=by
 cases h with
 | @box t cs C et h1 h2 h3 h4=>
  cases h' with
  | @box t' cs' C' et' Y k2 U k4=>
   simp only[Qp7,YY] at hs;have⟨e1,e2⟩:=hs;have⟨p1,p2,p3⟩:=h4;have⟨q1,q2,q3⟩:=k4;have en:(ρ' j).n=(ρ j).n:=by rw[p1,q1,e2]
   have a1:0<(ρ j).n:=by rw[p1];omega
   have I:(ρ' j).sz=(ρ j).sz:=by
    rw[e1,U,en] at h3;exact Nat.eq_of_mul_eq_mul_left a1 h3
   have a2:(ρ j).b=(ρ' j).b->(ρ j).o=(ρ' j).o->(ρ j).cap=(ρ' j).cap->ρ' j=ρ j:=fun eb eo ec=>by
    cases hl:ρ j;cases O:ρ' j
    rw[hl] at h1 en I eb eo ec;rw[O] at Y en I eb eo ec;simp only at*;simp only[Loc.mk.injEq];exact⟨eb.symm,eo.symm,I,en,ec.symm,by rw[h1,Y]⟩
   left
   simp only[Qtq,QeR] at ha
   cases hb:bcl t with
   |zero=>
    rw[hb] at ha;dsimp only at ha;generalize G:(Value.pointer (some ⟨(ρ j).b,(ρ j).o+0*(ρ j).sz+0,none⟩))=x at ha
    cases ha with|ref g1 g2=>
    simp only[Value.pointer.injEq,Y9,Addr.mk.injEq] at G;exact a2 G.1 (by have:=G.2.1;omega) (by rw[p3 hb,q3 (by rw[<-e2];exact hb)])
   |succ m=>
    rw[hb] at ha;dsimp only at ha;generalize G:(Value.slice (some ⟨(ρ j).b,(ρ j).o+0*(ρ j).sz,none⟩) _ ((ρ j).cap-0))=x at ha
    cases ha with
    |osl0 g0 g1=>omega
    |osl g1 g2 g3=>
     simp only[Value.slice.injEq,Y9,Addr.mk.injEq] at G;exact a2 G.1.1 (by have:=G.1.2.1;omega) (by omega)
  |arr0=>exact hs.no.elim
  |arr=>exact hs.no.elim
 |arr0 h1 h2 h3 h4=>
  right
  cases h' with
  |box=>exact hs.no.elim
  |arr0 Y k2 U k4=>exact⟨by omega,by omega,.inl h1⟩
  |arr C et Y k2 U k4=>simp only[Qp7] at hs;exact⟨by omega,by omega,.inl h1⟩
 |arr C et h1 h2 h3 h4=>
  have key:∃J n',(ρ' j).sz=J∧(ρ' j).n=n'∧J=(ρ j).sz∧n'=(ρ j).n:=by
   cases h' with
   |box=>exact hs.no.elim
   |arr0 Y k2 U k4=>simp only[Qp7] at hs;exact⟨_,_,k2,U,by omega,by omega⟩
   |arr C et Y k2 U k4=>simp only[Qp7] at hs;exact⟨_,_,k2,U,by omega,by omega⟩
  have⟨J,n',e1,e2,e3,e4⟩:=key;simp only[Qtq,QeR,h1] at ha;generalize G:(Value.slice (some ⟨(ρ j).b,(ρ j).o+0*(ρ j).sz,none⟩) _ ((ρ j).cap-0))=x at ha
  cases ha with
  |osl0 g0 g1=>
   simp only[Value.slice.injEq] at G
   right
   exact⟨by omega,by omega,.inr (by omega)⟩
  |osl g1 g2 g3=>
   simp only[Value.slice.injEq,Y9,Addr.mk.injEq] at G
   left
   have⟨⟨q1,q2,_⟩,_,q3⟩:=G
   cases hl:ρ j;cases O:ρ' j
   rw[hl] at h1 e3 e4 q1 q2 q3;rw[O] at e1 e2 g1 q1 q2 q3;simp only at*;simp only[Loc.mk.injEq];exact⟨q1.symm,by omega,by omega,by omega,by omega,by rw[h1,g1]⟩
theorem Qlk:∀ {bs:List (Nat×Blk)} {i j:Nat} {b:Blk},QcR (fun i=>i) (QdP bs)=true->bs[i]? =some (j,b)->Qi bs j=some b
 |(u,x)::r,0,j,b,_,h=>by simp at h;obtain⟨rfl,rfl⟩:=h;exact Zk
 |(u,x)::r,i+1,j,b,ha,h=>by
  have I:r[i]? =some (j,b):=by simpa using h
  have hm:=Qd7 (X1 I);have G:u≠j:=fun e=>by
   subst e;simp only[QdP,QcR,List.map_id'] at ha;rw[QnF hm] at ha;cases ha
  rw[QQ G];refine Qlk ?_ I;simp only[QdP,QcR] at ha;split at ha
  ·cases ha
  ·exact ha
 |[],_,_,_,_,h=>by simp at h
theorem QjG {bs:List (Nat×Blk)} {ρ:Env} {i j:Nat} {b:Blk} (h:bs[i]? =some (j,b)):((bs.map fun p=>QeR ρ p.2 p.1).toArray).getD i undef=QeR ρ b j:=by
 simp[Y6,h]
theorem Qz0 {base nt:Nat} {ts:List (Nat×V)} {gs:List Gd} {blks:List (Nat×Blk)} {fs:List Fr} {f:FuncId} {args args':List V} {bs M:List (Nat×Blk)} {res:V} {K:V->St->Prop} (r:List (Nat×Nat)) (k:Nat) (h:EffC P f args' bs res M)
  (G:CellsLe args (QjF (Qbk r k) args')) (hi:inB blks (Qbk r k) bs) (ha:QcR (Qbk r k) (QdP bs++Jx bs M)=true) (hm:(Jx bs M).all (fun j=>!(St.mentions ⟨base,nt,ts,gs,blks,fs⟩ (Qbk r k j)))=true)
  (hk:Qal (res.ren (Qbk r k)) fun v=>Qay (Qlj (Qbk r k) bs M (QpB (Qbk r k) M blks bs) M) fun bs=>K v ⟨base,nt,ts,gs,bs,fs⟩):
  CallP P f args ⟨base,nt,ts,gs,blks,fs⟩ K:=by
 rw[QC,ZV] at hk;exact Qxn (Qbk r k) h G hi ha hm hk
end Go.Ab
namespace Go.Ab
open Go.RowKit
variable {P:Program} {tb:Tb} {w:World} {ρ:Env} {a:Act} {B:Bd} {w0:World} {F:List (Array Value)} {S:St}
 {cs:Nat→Option CS} {m:Nat} {ops:List Oper} {S0:St} {A:List (List Nat)} {R:List Rs} {ls:List Nat}
structure EffD (P:Program) (pre:List (Nat×Blk)) (f:FuncId) (args:List V) (res:V) (nb post:List (Nat×Blk)):Prop where
 can:Callable P f
 out:∃args' bs r M g,EffC P f args' bs r M∧CellsLe args (QjF g args')∧inB pre g bs∧QcR g (QdP bs++Jx bs M)=true∧res=r.ren g∧
  (∀i b,Qi (nb++post) i=some b→(∃j b',Qi M j=some b'∧i=g j∧b=b'.ren g)∨(Qi pre i=some b∧∀j x,Qi bs j=some x→i≠g j))∧(∀j∈Jx bs M,hasB nb (g j)=true∨(hasB post (g j)=true∧hasB pre (g j)=false))
theorem Qit {g:Nat->Nat} {bs M X:List (Nat×Blk)}:∀ {l:List (Nat×Blk)} {j:Nat},j∈Jx bs l->(∀i x,(i,x)∈l->∃y,Qi M i=some y)->hasB (Qlj g bs M X l) (g j)=true
 |(i,x)::r,j,h,hM=>by
  simp only[Jx] at h;simp only[Qlj];split at h
  ·exact Qit h fun i x I=>hM i x (Yp _ I)
  ·have⟨y,J⟩:=hM i x (by simp);rw[J];dsimp only
   by_cases e:g i=g j
   ·rw[e];exact Qis Zk
   ·rcases Yh.1 h with h1|h
    ·subst h1;exact absurd rfl e
    ·have:=Qit (g:=g) (bs:=bs) (M:=M) (X:=X) h fun i x I=>hM i x (Yp _ I);have⟨b,G⟩:=QeQ this;exact Qis (b:=b) (by rw[QQ e];exact G)
 |[],_,h,_=>by simp[Jx] at h
theorem QdF {α:Type}:∀ {l:List (Nat×α)} {i:Nat} {x:α},(i,x)∈l->∃y,Qi l i=some y
 |(u,z)::r,i,x,h=>by
  by_cases e:u=i
  ·subst e;exact⟨z,Zk⟩
  ·rcases Yh.1 h with h1|h1
   ·cases h1;exact absurd rfl e
   ·rw[QQ e];exact QdF h1
 |[],_,_,h=>by simp at h
theorem Qxo {pre nb post:List (Nat×Blk)} {f:FuncId} {args args':List V} {bs M:List (Nat×Blk)} {res G:V} (r:List (Nat×Nat)) (k:Nat) (h:EffC P f args' bs G M)
  (Y:CellsLe args (QjF (Qbk r k) args')) (hi:inB pre (Qbk r k) bs) (ha:QcR (Qbk r k) (QdP bs++Jx bs M)=true) (U:G.ren (Qbk r k)=res)
  (J:Qlj (Qbk r k) bs M [] M=nb) (I:QpB (Qbk r k) M pre bs=post):EffD P pre f args res nb post:=by
 subst U J I;refine⟨h.can,_,_,_,_,Qbk r k,h,Y,hi,ha,rfl,fun i b hb=>?_,fun j hj=>.inl (Qit hj fun i x O=>QdF O)⟩;rw[Qh] at hb
 cases hl:Qi (Qlj (Qbk r k) bs M [] M) i with
 |some b'=>
  rw[hl] at hb;simp at hb;subst hb;rcases Qe4 hl with h1|h1
  ·exact .inl h1
  ·simp[Qi] at h1
 |none=>
  rw[hl] at hb;simp at hb;rcases Qgz hb with h1|⟨h1,h2⟩
  ·exact .inl h1
  ·exact .inr ⟨h1,fun j x O=>h2 j x (Zd O)⟩
def QAm (cs:Nat->Option CS) (T0:List (Nat×Blk)):Nat->List (Nat×Blk)
 |0=>T0
 |j+1=>match cs j with
  |some (.eff _ _ post _ _)=>post
  |some (.app _ _ post)=>post
  |_=>QAm cs T0 j
theorem Qtt {x:Option CS} (h:Qil x=true):(∃res nb post p q,x=some (.eff res nb post p q))∨ ∃pre res post,x=some (.app pre res post):=by
 unfold Qil at h;split at h
 ·exact .inl ⟨_,_,_,_,_,rfl⟩
 ·exact .inr ⟨_,_,_,rfl⟩
 ·cases h
def QAe (cs:Nat->Option CS) (G:Nat->Nat->Bool) (m:Nat):Bool:=(List.range m).all fun j=>match Qil (cs j) with
 |true=>(List.range j).all fun i=>match Qil (cs i) with
  |true=>G j i
  |false=>true
 |false=>true
def QdL (S0:St) (R:List Rs) (T:List (Nat×Blk)):Bool:=(QdP T).all (fun i=>!hasB S0.blks i)&&R.all fun r=>r.nb.all fun p=>!Q4 p.1 T
def St.addB (S:St) (T:List (Nat×Blk)):St:=match S with
 |⟨base,nt,ts,gs,bs,fs⟩=>⟨base,nt,ts,gs,bs++T,fs⟩
theorem QoQ {T:List (Nat×Blk)}:(S0.addB T).tmps=S0.tmps:=by cases S0;rfl
theorem QdG {T:List (Nat×Blk)} {E:Nat->Bool}:stOf (S0.addB T) R E=⟨S0.base,S0.nt,QdE E 0 R++S0.tmps,QdO E 0 R,JN E 0 R++(S0.blks++T),S0.frames⟩:=by
 have⟨base,nt,ts,gs,bs,fs⟩:=S0;rfl
theorem QjH {T:List (Nat×Blk)} {E:Nat->Bool}:stOf (S0.addB T) R E=(stOf S0 R E).addB T:=by
 have⟨base,nt,ts,gs,bs,fs⟩:=S0;simp only[stOf,St.addB,Xu]
theorem Qtu {S S':St} {o:Oper} {j:Nat} {K:Option (Nat×Bool)->V->List (Nat×Blk)->Prop} (J:S'.ev=S.ev) (hg:S'.gds=S.gds) (I:S'.base=S.base) (hb:∀i b,Qi S.blks i=some b->Qi S'.blks i=some b)
  (h:Qmt P tb cs ops j o S K):Qmt P tb cs ops j o S' K:=by
 have a3:∀ {al l:List (Nat×Bool)} {p:Prop},Qaz S' al l p=Qaz S al l p:=fun {al l p}=>Qfw (fun al x=>by rw[J]);have Y:∀ {key:Nat} {want:Bool} {p:Prop},QiX S' key want p=QiX S key want p:=fun {key want p}=>by simp only[QiX,J]
 have⟨dst,op,ty,pos,after,guard⟩:=o
 cases guard with
 |none=>
  cases hv:Qwm op
  ·rw[Qe0 hv] at h|-
   cases hN:isN op<;>simp only[hN,J,I] at h|-
   ·exact Qe1 (fun _ _ _=>rfl) hb h
   ·exact Qgv (fun _ _=>rfl) hb h
  ·obtain⟨f,args,a1,rfl⟩:=Qno hv;simp only[Qmt,J] at h|-;split at h
   ·rename_i h1 h2;refine⟨⟨h.1.can,?_⟩,h.2⟩;have⟨args',hv,hp⟩:=h.1.out;exact⟨args',Qci hb _ _ hv,hp⟩
   ·exact h
   ·exact h.no.elim
 |some a2=>
  have⟨jg,want⟩:=a2;simp only[Qmt,J,hg] at h|-;split at h
  ·rename_i key _ _ _ _ _ hjg;have U:∀(al l:List (Nat×Bool)),Qaz S' al l=Qaz S al l:=fun al l=>funext fun p=>a3;have O:∀(key:Nat) (want:Bool),QiX S' key want=QiX S key want:=fun k w=>funext fun p=>Y;simp only[U,O]
   cases op<;>try simp only at h|-
   case call c=>
    have⟨G,args,a1⟩:=c
    cases G<;>try simp only at h|-
    case value f=>
     split at h
     ·refine⟨⟨h.1.can,Qc4 (fun hx=>?_) h.1.out⟩,h.2⟩;have⟨args',hv,hp⟩:=hx;exact⟨args',Qci hb _ _ hv,hp⟩
     ·exact h
     ·exact h.no.elim
    all_goals exact Qe1 (fun _ _ _=>rfl) hb h
   all_goals exact Qe1 (fun _ _ _=>rfl) hb h
  ·exact h.no.elim
theorem Qsa {ev ev':Operand->V} {J vis':Nat->Option Blk} {pre:List (Nat×Blk)} {base:Nat} {dst:Option Nat} {op:Op} {K:V->List (Nat×Blk)->Prop} (I:∀x∈op.operands.toList,ev x=ev' x) (hb:∀i b,J i=some b->vis' i=some b)
  (h:QuW tb ev J pre base dst op K):QuW tb ev' vis' pre base dst op K:=by
 cases op<;>simp only[QuW] at h|- <;>first|exact h.no.elim|exact Qgv I hb h|skip
 case call c=>
  split at h
  ·split at h
   ·rename_i s x t t' G htys;have e1:ev s=ev' s:=I s (QgU (by rw[G];simp));have O:ev x=ev' x:=I x (QgU (by rw[G];simp));rw[e1,O] at h;split at h
    ·split at h
     ·split at h
      ·rename_i h1 h2;rw[h1,Qd5 hb h2];dsimp only at h|-;split at h
       ·exact Qgv I hb h
       ·exact h
       ·exact h.no.elim
      ·exact h.no.elim
     ·exact h.no.elim
    ·exact h.no.elim
   ·exact h.no.elim
  ·exact h.no.elim
 case store t a x=>
  have e1:ev a=ev' a:=I a (by simp[Op.operands]);have O:ev x=ev' x:=I x (by simp[Op.operands]);rw[e1,O] at h;exact h
theorem Qtv {ev ev':Operand->V} {pre:List (Nat×Blk)} {op:Op} (J:∀x∈op.operands.toList,ev x=ev' x):evB tb ev pre op=evB tb ev' pre op:=by
 unfold evB;split
 ·rename_i t len parts;split
  ·rename_i e s b z q x hti I;have e1:ev x=ev' x:=J x (by simp[Op.operands,I]);rw[e1]
  ·rfl
 ·rename_i c;split
  ·split
   ·rename_i s x t t' G htys;have e1:ev s=ev' s:=J s (QgU (by rw[G];simp));have O:ev x=ev' x:=J x (QgU (by rw[G];simp));rw[e1,O]
   ·rfl
  ·rfl
 ·rfl
theorem QoR {ev ev':Operand->V} {G vis':Nat->Option Blk} {pre:List (Nat×Blk)} {base:Nat} {dst:Option Nat} {op:Op} {K:V->List (Nat×Blk)->Prop} (I:∀x∈op.operands.toList,ev x=ev' x) (hb:∀i b,G i=some b->vis' i=some b)
  (h:evA tb ev G pre base dst op K):evA tb ev' vis' pre base dst op K:=by
 unfold evA at h|-;split at h
 ·refine Qe1 (fun x hm _=>I x hm) (fun i b hi=>?_) h
  cases hl:Qi pre i with
  |some b'=>rw[hl] at hi;simpa using hi
  |none=>rw[hl] at hi;simp only[Xp] at hi|-;exact hb i b hi
 ·rw[<-Qtv I];split at h
  ·exact h
  ·exact Qsa I hb h
theorem Qvh {S S':St} {o:Oper} {j:Nat} {K:Option (Nat×Bool)->V->List (Nat×Blk)->Prop} (J:S'.ev=S.ev) (O:S'.gds=S.gds) (G:S'.base=S.base) (hb:∀i b,Qi S.blks i=some b->Qi S'.blks i=some b)
  (h:evD P tb cs ops j o S K):evD P tb cs ops j o S' K:=by
 cases ha:Qgu (cs j)
 ·rw[Qoy ha] at h|-;exact Qtu J O G hb h
 ·have⟨pre,res,post,hc,I,h1,h2⟩:=Qnp ha h;unfold evD;rw[hc,I];simp only[QC];rw[J,G];exact⟨QoR (fun _ _=>rfl) hb h1,h2⟩
theorem Walked.more (W:Walked P tb cs m ops S0 A R) {T:List (Nat×Blk)} (O:∀r∈R,∀p∈r.nb,Q4 p.1 T=false):Walked P tb cs m ops (S0.addB T) A R:=by
 refine⟨W.hm,fun j o hj ho=>?_,W.lt,W.dsts,W.ne,W.ids,fun i ri hi p hp=>?_,W.ment,fun i ri hi=>?_,fun i ri t hi ht=>?_,W.len⟩
 ·have⟨r,h1,h2,h3,h4,h5,h6⟩:=W.facts j o hj ho;refine⟨r,h1,h2,h3,h4,h5,?_⟩;have hb0:(stOf S0 (R.take j) (ZZ (nth A j))).base=S0.base:=by cases S0;rfl
  have I:(stOf S0 (R.take j) (ZZ (nth A j))).blks=JN (ZZ (nth A j)) 0 (R.take j)++S0.blks:=by cases S0;rfl
  have J:(stOf (S0.addB T) (R.take j) (ZZ (nth A j))).ev=(stOf S0 (R.take j) (ZZ (nth A j))).ev:=by
   funext al x;cases S0;cases x<;>rfl
  refine Qvh (S:=stOf S0 (R.take j) (ZZ (nth A j))) J (by cases S0;rfl) (by cases S0;rfl) (fun i b hb=>?_) h6;rw[I] at hb;rw[QdG];dsimp only;rw[<-Xu,Qh,hb];rfl
 ·have h1:=W.new i ri hi p hp;have h2:=O ri (X1 hi) p hp;have⟨base,nt,ts,gs,bs,fs⟩:=S0;have⟨m1,m2,m3,m4⟩:=St.mentions_parts h1;refine St.mentions_mk m1 m2 ?_ m4;rw[QE] at m3 h2|-;intro q G;rcases Yo.1 G with G|G
  ·exact m3 q G
  ·exact h2 q G
 ·have:=W.slots i ri hi
  cases S0;exact this
 ·rw[QoQ];exact W.mask i ri t hi ht
theorem QgA {bs:List (Nat×Blk)} {i:Nat} (h:hasB bs i=false):Qi bs i=none:=by
 unfold hasB at h;split at h
 ·cases h
 ·assumption
theorem QnG (W:Walked P tb cs m ops S0 A R) {I:Array Oper} (c8:I.toList=ops) {pre post:List (Nat×Blk)} (a9:QdL S0 R pre=true) (e0:QdL S0 R post=true)
  {E:Nat->Bool} (hE:Qgw m A E) {j:Nat} {o:Oper} (hj:j<m) (b8:E j=false) (ho:ops[j]? =some o) {res:V} {nb:List (Nat×Blk)} {p:FuncId->List V->Prop} {q:Prop} (b4:cs j=some (.eff res nb post p q)) (hp:∀g vs,p g vs->EffD P pre g vs res nb post) (hq:q->LeB pre post)
  (hfr:∀id,hasB post id=true->hasB pre id=false->(stOf (S0.addB pre) R E).mentions id=false) (f4:o.dst≠none)
  (hr:∀e∈Zl o.after.toList,E e=true) (h:Sim P B w0 F ρ (stOf (S0.addB (pre)) R E) a w) {next:Act->World->Prop}
  (hn:∀ρ' a' w',Sim P B w0 F ρ' (stOf (S0.addB (post)) R (QfT E j)) a' w'->next a' w') (Q:Exit->Act->World->Prop)
  (f0:∃f args a5,o.op=.call ⟨.value f,args,a5⟩):wpOp P I Q j next a w:=by
 have W0:=W;have d0:∀T,QdL S0 R T=true->∀r∈R,∀p∈r.nb,Q4 p.1 T=false:=fun T this r hr p hp=>by
  simp only[QdL,Y4] at this;have:=Yb.1 (Yb.1 this.2 r hr) p hp;simpa using this
 have d6:∀T,QdL S0 R T=true->∀i b,Qi T i=some b->Qi S0.blks i=none:=fun T this i b hb=>by
  simp only[QdL,Y4] at this;have:=Yb.1 this.1 i (Qd7 (Zd hb));exact QgA (by simpa using this)
 have d7:I[j]? =some o:=by rw[<-c8] at ho;simpa using ho
 have W:=W0.more (d0 pre a9);have W1:=W0.more (d0 post e0);have⟨r,a8,hanc,g6,c9,f2,J⟩:=W.facts j o hj ho;have d9:=W.ancIn hE hj ho hr;have hlt:∀i∈nth A j,i<j:=W.ancLt (j+1) j (by omega) hj;have⟨t,c2,htn,hkt⟩:=(W.slots j r a8).resolve_left (fun h=>f4 (by rw[<-g6];exact h.1));have f3:o.dst=some t:=by rw[<-g6];exact c2
 have a2:∀x∈o.op.operands.toList,∀al,(stOf (S0.addB (pre)) (R.take j) (ZZ (nth A j))).ev al x=(stOf (S0.addB (pre)) R E).ev al x:=fun x hx al=>Qta W hlt d9 (c9 x hx) al;have h0:∀g∈QdO E 0 R,g.t≠t∧g.key≠t:=fun g hg=>by
  have⟨i,q,O,g2,g3,g4,g5⟩:=QaR.1 hg;rw[Yg] at g2;have hne:i≠j:=fun e=>by subst e;rw[b8] at g2;cases g2
  refine⟨fun e=>W.ne j i r q a8 O (YU hne) t c2 (by rw[<-e];exact g3),fun e=>?_⟩;have c4:i<m:=by rw[<-W.hm];exact(Y8.1 O).1
  have⟨oi,hoi⟩:=W.op c4;have⟨q',f1,_,_,_,f5,f6⟩:=W.facts i oi c4 hoi;rw[O] at f1;cases f1;have⟨gg,vv,nn,⟨k1,_,_⟩,k4⟩:=Qnq f6;rcases k4 with ⟨_,k5⟩|⟨jg,want,oj,key,k5,k6,k7,k8⟩
  ·rw[<-k1,k5] at g4;cases g4
  ·rw[<-k1,k8] at g4;simp only[Y9,YY] at g4;have⟨oj',key',l1,l2,l3,_⟩:=f5 jg want k5;rw[k6] at l1;cases l1;have c6:=hE i c4 g2 jg l3;have e9:jg≠j:=fun e=>by subst e;rw[b8] at c6;cases c6
   have f9:jg<m:=by have:=W.ancLt (i+1) i (by omega) c4 jg l3;omega
   have⟨rj,r1,_,r3,_⟩:=W.facts jg oj f9 k6;refine W.ne jg j rj r r1 a8 e9 key (by rw[r3];exact k7) ?_;rw[g4.1,e];exact c2
 have b6:=QdG (S0:=S0) (R:=R) (T:=pre) (E:=E);have d5:∀p∈r.nb,(stOf (S0.addB (pre)) R E).mentions p.1=false:=fun p hp=>Qwo W hE a8 b8 hp;have a7:∀T,QdL S0 R T=true->∀i b,Qi T i=some b->Qi (JN E 0 R) i=none:=fun T hk i b hb=>by
  cases hl:Qi (JN E 0 R) i with
  |none=>rfl
  |some b'=>
   exfalso;have⟨q,rq,O,_,g3⟩:=JB.1 (Zd hl);have:=d0 T hk rq (X1 O) _ g3;rw[ZW (id:=i) hb (.inl rfl)] at this;cases this
 rw[Qoy (by rw[b4];rfl)] at J;have hpT:∀i b,Qi post i=some b->Qi S0.blks i=none∧Qi (JN E 0 R) i=none:=fun i b hb=>by
  exact⟨d6 post e0 i b hb,a7 post e0 i b hb⟩
 --what stands U the call
 have U:∀ {g:FuncId} {vs:List V} {vals:Array Value},EffD P (pre) g vs res nb post->Qhx w (ZL B (stOf (S0.addB (pre)) R E).blks ρ) ρ vs vals->nb=r.nb->
   Calls P g vals w fun e w'=>∃v ρ1,e=.returned v∧Sim P B w0 F ρ1 ⟨S0.base,S0.nt,QdE E 0 R++S0.tmps,QdO E 0 R,r.nb++(JN E 0 R++(S0.addB post).blks),S0.frames⟩ a w'∧VR w' (ZL B (r.nb++(JN E 0 R++(S0.addB post).blks)) ρ1) ρ1 res v:=by
  intro g vs vals hd hv d2;have⟨args',bs,r0,M,gm,hc,hw,hi,ha,g8,hL,hN⟩:=hd.out;have a6:(S0.addB post).blks=S0.blks++post:=by cases S0;rfl
  rw[a6,g8];have g9:=Qq2 hi;have e8:(stOf (S0.addB (pre)) R E).blks=JN E 0 R++(S0.blks++pre):=by rw[b6]
  have a3:∀i b,Qi (pre) i=some b->Qi (stOf (S0.addB (pre)) R E).blks i=some b:=fun i b hb=>by
   rw[e8,Qh,a7 pre a9 i b hb,Qh,d6 pre a9 i b hb];simpa using hb
  have:=Qto (L:=r.nb++(JN E 0 R++(S0.blks++post))) gm hc h hv hw (fun i b hb=>by
    have⟨b0,O,g2⟩:=g9 i b hb;exact⟨b0,a3 _ _ O,g2⟩) (QgX ha) (fun i hi=>by
    rcases hN i hi with hN|⟨h8,hN2⟩
    ·have⟨b,hb⟩:=QeQ hN;rw[d2] at hb;exact d5 (gm i,b) (Zd hb)
    ·exact hfr _ h8 hN2) (fun {i b} hb=>by
    have c5:∀j' x,Qi bs j'=some x->∃b0,Qi (pre) (gm j')=some b0:=fun j' x hx=>by
     have⟨b0,O,_⟩:=g9 j' x (Zd hx);exact⟨b0,O⟩
    rw[Qh] at hb
    cases h1:Qi r.nb i with
    |some b1=>
     rw[h1] at hb;simp at hb;subst hb;rcases hL i b1 (by rw[Qh,d2,h1];rfl) with h2|⟨h2,h3⟩
     ·exact .inl h2
     ·exact .inr ⟨a3 _ _ h2,h3⟩
    |none=>
     rw[h1] at hb;simp only[Xp] at hb;rw[Qh] at hb
     cases h2:Qi (JN E 0 R) i with
     |some b2=>
      rw[h2] at hb;simp at hb;subst hb;refine .inr ⟨by rw[e8,Qh,h2];rfl,fun j' x hx e=>?_⟩;have⟨b0,O⟩:=c5 j' x hx;rw[<-e] at O;rw[a7 pre a9 i b0 O] at h2;cases h2
     |none=>
      rw[h2] at hb;simp only[Xp] at hb;rw[Qh] at hb
      cases h3:Qi S0.blks i with
      |some b3=>
       rw[h3] at hb;simp at hb;subst hb;refine .inr ⟨by rw[e8,Qh,h2,Qh,h3];rfl,fun j' x hx e=>?_⟩;have⟨b0,O⟩:=c5 j' x hx;rw[<-e] at O;rw[d6 pre a9 i b0 O] at h3;cases h3
      |none=>
       rw[h3] at hb;simp only[Xp] at hb;rcases hL i b (by rw[Qh,d2,h1];simpa using hb) with h4|⟨h4,h5⟩
       ·exact .inl h4
       ·exact .inr ⟨a3 _ _ h4,h5⟩)
  refine Calls.mono this ?_;rintro e w' ⟨v,ρ1,rfl,O,g2⟩;rw[b6] at O;exact⟨v,ρ1,rfl,O,g2⟩
 have⟨dst,op,ty,pos,after,guard⟩:=o;have⟨f,args,a5,h7⟩:=f0;dsimp only at f3 c9 a2 f2 h7;subst f3 h7;have add:∀ {ρ1 w' x},Sim P B w0 F ρ1 ⟨S0.base,S0.nt,QdE E 0 R++S0.tmps,QdO E 0 R,r.nb++(JN E 0 R++(S0.addB post).blks),S0.frames⟩ a w'->
   (match r.g with
   |none=>VR w' (ZL B (r.nb++(JN E 0 R++(S0.addB post).blks)) ρ1) ρ1 r.v x
   |some (key,want)=>(a.tmps.getD key undef=.bool want∧VR w' (ZL B (r.nb++(JN E 0 R++(S0.addB post).blks)) ρ1) ρ1 r.v x)∨(a.tmps.getD key undef≠ .bool want∧x=undef))->
   Sim P B w0 F ρ1 (stOf (S0.addB post) R (QfT E j)) (a.put (some t) x) w':=fun h1 h2=>by
  have b9:(S0.addB post).base=S0.base∧(S0.addB post).nt=S0.nt∧(S0.addB post).tmps=S0.tmps∧(S0.addB post).frames=S0.frames:=by have⟨base,nt,ts,gs,bs,fs⟩:=S0;exact⟨rfl,rfl,rfl,rfl⟩
  exact QhE W1 a8 c2 b8 (h:=by rw[b9.1,b9.2.1,b9.2.2.1,b9.2.2.2];exact h1) h2 h0
 cases guard with
 |none=>
  have b7:Region.wanted ⟨some t,.call ⟨.value f,args,a5⟩,ty,pos,after,none⟩ (yielded I a.tmps)=true:=by simp[Region.wanted]
  refine Qin d7 b7 ?_;simp only[Qmt] at J;split at J
  ·rename_i G;rw[b4] at G;cases G
  ·rename_i g cap g7 nb' d8 p' q' hf G;rw[b4] at G;simp only[Y9,CS.eff.injEq] at G;have⟨e1,e2,e3,e4,e5⟩:=G;subst e1 e2 e3 e4 e5;rw[QC] at J;have⟨Y,k1,k2,k3⟩:=J;have e6:(stOf (S0.addB (pre)) R E).ev [] f=.fn g cap:=by rw[<-a2 f (ZY.2 (.inl rfl)) []];exact hf
   have a1:args.toList.map ((stOf (S0.addB (pre)) (R.take j) (ZZ (nth A j))).ev [])=args.toList.map ((stOf (S0.addB (pre)) R E).ev []):=YK fun x hx=>a2 x (ZY.2 (.inr (by simpa using hx))) [];rw[a1] at Y;have hD:=hp _ _ Y;have⟨fcs,d4,e7,d1⟩:=Qk2 (h.evR.eq e6);have a4:=Qc2 (ev:=(stOf (S0.addB (pre)) R E).ev) (al:=[]) h.evR.at args e7 d1;unfold Oper.wp;rw[Qfs d4 hD.can,Oper.upon_enter];refine Calls.mono (U hD a4 k3) ?_;rintro e w' ⟨v,ρ1,rfl,h1,h2⟩;exact hn ρ1 _ w' (add h1 (by rw[<-k1];rw[<-k2];exact h2))
  ·exact J.no.elim
 |some gdd=>
  have⟨jg,want⟩:=gdd;have⟨oj,key,l1,l2,l3,l4⟩:=f2 jg want rfl;have f8:I[jg]? =some oj:=by rw[<-c8] at l1;simpa using l1
  have hy:=Qhz (tmps:=a.tmps) (want:=want) f8 l2;have b7:Region.wanted ⟨some t,.call ⟨.value f,args,a5⟩,ty,pos,after,some (jg,want)⟩ (yielded I a.tmps)=(yielded I a.tmps jg==some want):=by simp[Region.wanted]
  have hL:Sim P B w0 F ρ ⟨S0.base,S0.nt,QdE (ZZ (nth A j)) 0 (R.take j)++S0.tmps,QdO (ZZ (nth A j)) 0 (R.take j),JN E 0 R++(S0.blks++pre),S0.frames⟩ a w:=by
   rw[b6] at h;refine h.congr (fun t v hv=>?_) (fun g hg=>?_) (fun _ _=>Iff.rfl)
   ·rw[Qh] at hv|-
    cases hl:Qi (QdE (ZZ (nth A j)) 0 (R.take j)) t with
    |some v'=>
     rw[hl] at hv;simp at hv;subst hv;have⟨i,q,O,g2,g3,g4⟩:=QeD hl;rw[Yg] at g2;rw[QhD (pw_of W R fun _ _ h=>h) (Qd6 O).2 (by rw[Yg];exact d9 i (ZO.1 g2)) g3,g4];rfl
    |none=>
     rw[hl] at hv;simp at hv
     cases hl2:Qi (QdE E 0 R) t with
     |none=>simpa using hv
     |some v'=>
      have⟨i,q,O,g2,g3,g4⟩:=QeD hl2;have:=W.mask i q t O g3;rw[QoQ] at this;rw[this] at hv;cases hv
   ·have⟨i,q,O,g2,g3,g4,g5⟩:=QaR.1 hg;rw[Yg] at g2;exact QaR.2 ⟨i,q,(Qd6 O).2,by rw[Yg];exact d9 i (ZO.1 g2),g3,g4,g5⟩
  have c7:∀al x,St.ev ⟨S0.base,S0.nt,QdE (ZZ (nth A j)) 0 (R.take j)++S0.tmps,QdO (ZZ (nth A j)) 0 (R.take j),JN E 0 R++(S0.blks++pre),S0.frames⟩ al x=(stOf (S0.addB (pre)) (R.take j) (ZZ (nth A j))).ev al x:=fun al x=>by
   rw[QdG];cases x<;>rfl
  simp only[Qmt,l1] at J;have⟨odst,oop,oty,opos,oaft,ogd⟩:=oj;dsimp only at l2 J;subst l2;dsimp only at J;split at J
  ·rename_i G;rw[b4] at G;cases G
  ·rename_i g cap g7 d8 p' q' hf G;rw[b4] at G;simp only[Y9,CS.eff.injEq] at G;have⟨e1,e2,e3,e4,e5⟩:=G;subst e1 e2 e3 e4 e5;rw[QC] at J;have⟨⟨hcan,Y,c0⟩,k1,k2,k3⟩:=J
   by_cases hw:a.tmps.getD key undef=.bool want
   ·have hwt:Region.wanted ⟨some t,.call ⟨.value f,args,a5⟩,ty,pos,after,some (jg,want)⟩ (yielded I a.tmps)=true:=by rw[b7];exact hy.2 hw
    refine Qin d7 hwt ?_;have g0:(stOf (S0.addB (pre)) (R.take j) (ZZ (nth A j))).gds=QdO (ZZ (nth A j)) 0 (R.take j):=by rw[QdG]
    rw[g0] at Y hf;have c3:∀k g,(k,g)∈closure (QdO (ZZ (nth A j)) 0 (R.take j)) 9 key want->a.tmps.getD k undef=.bool g:=fun k g hm=>Qd4 hL 9 key want hw k g hm;generalize closure (QdO (ZZ (nth A j)) 0 (R.take j)) 9 key want=al at c3 Y hf;have Y:p g (args.toList.map ((stOf (S0.addB (pre)) (R.take j) (ZZ (nth A j))).ev al)++cap):=by
     refine Qer hL al c3 al _ (fun _ hx=>hx) ?_;rw[Qfw (S':=stOf (S0.addB (pre)) (R.take j) (ZZ (nth A j))) c7];exact Y
    have e6:(stOf (S0.addB (pre)) R E).ev al f=.fn g cap:=by rw[<-a2 f (ZY.2 (.inl rfl)) _];exact hf
    have a1:args.toList.map ((stOf (S0.addB (pre)) (R.take j) (ZZ (nth A j))).ev al)=args.toList.map ((stOf (S0.addB (pre)) R E).ev al):=YK fun x hx=>a2 x (ZY.2 (.inr (by simpa using hx))) _;rw[a1] at Y;have hD:=hp _ _ Y;have c1:=h.evR.h al f c3;rw[e6] at c1;have⟨fcs,d4,e7,d1⟩:=Qk2 c1;have a4:=Qc2 (ev:=(stOf (S0.addB (pre)) R E).ev) (al:=al) (fun x=>h.evR.h _ x c3) args e7 d1;unfold Oper.wp;rw[Qfs d4 hD.can,Oper.upon_enter];refine Calls.mono (U hD a4 k3) ?_;rintro e w' ⟨v,ρ1,rfl,h1,h2⟩;exact hn ρ1 _ w' (add h1 (by rw[<-k1];rw[<-k2];exact .inl ⟨hw,h2⟩))
   ·have hwf:Region.wanted ⟨some t,.call ⟨.value f,args,a5⟩,ty,pos,after,some (jg,want)⟩ (yielded I a.tmps)=false:=by
     rw[b7]
     cases hb:(yielded I a.tmps jg==some want)
     ·rfl
     ·exact absurd (hy.1 hb) hw
    unfold wpOp;simp only[d7,hwf,Yu,X6];have c0:q:=by
     refine Qk3 hL hw (key:=key) (want:=want) ?_;unfold QiX at c0|-;rw[c7];exact c0
    have b5:=hq c0;refine hn ρ _ w (add ?_ (by rw[<-k1];exact .inr ⟨hw,rfl⟩));rw[<-k3,YA];have a6:(S0.addB post).blks=S0.blks++post:=by cases S0;rfl
    rw[a6];rw[b6] at h
    --the blocks are no more than they were
    have lk:∀i b,Qi (JN E 0 R++(S0.blks++post)) i=some b->∃c,Qi (JN E 0 R++(S0.blks++pre)) i=some c∧BLe c b:=fun i b hb=>by
     rw[Qh] at hb|-
     cases h1:Qi (JN E 0 R) i with
     |some b1=>rw[h1] at hb;simp at hb;subst hb;exact⟨_,rfl,BLe.refl _⟩
     |none=>
      rw[h1] at hb;simp only[Xp] at hb|-;rw[Qh] at hb|-
      cases h2:Qi S0.blks i with
      |some b2=>rw[h2] at hb;simp at hb;subst hb;exact⟨_,rfl,BLe.refl _⟩
      |none=>
       rw[h2] at hb;simp only[Xp] at hb|-;exact Qgt b5 hb
    have f7:∀b,own (JN E 0 R++(S0.blks++post)) ρ b->own (JN E 0 R++(S0.blks++pre)) ρ b:=by
     rintro b ⟨i,k,hk,hp,rfl⟩;have⟨c,hc,_⟩:=lk i k hk;exact⟨i,c,hc,hp,rfl⟩
    have keep:Keep w (ZL B (JN E 0 R++(S0.blks++pre)) ρ) w (ZL B (JN E 0 R++(S0.blks++post)) ρ):=⟨Yi _,fun b _ ho=>⟨rfl,fun h=>ho (h.imp (f7 b) fun h=>h)⟩⟩;refine⟨h.below,h.tab,h.hB,h.defers,h.nt,h.top.keep keep fun _ _=>rfl,fun id b hbk=>?_,fun i j x y hx hy=>?_,fun i x hx=>?_,h.frames.1,fun i f' tm c1 htm=>(h.frames.2 i f' tm c1 htm).keep keep fun _ _=>rfl⟩
    ·have⟨c,hc,b5⟩:=lk id b hbk;have:=b5.out _ _ _ _ (h.blks id c hc);exact this.keep keep rfl (fun _=>rfl) fun _ _=>rfl
    ·have⟨x',d3,_⟩:=lk i x hx;have⟨y',hy',_⟩:=lk j y hy;exact h.sep i j x' y' d3 hy'
    ·have⟨x',d3,b5⟩:=lk i x hx;rw[b5.bx];exact h.ge i x' d3
  ·exact J.no.elim
theorem Qtw (W:Walked P tb cs m ops S0 A R) {E:Nat->Bool} (hE:Qgw m A E) {j:Nat} (hj:E j=false) {id:Nat} (U:S0.mentions id=false)
  (hm:∀i q,R[i]? =some q->i≠j->j∉nth A i->q.v.mentions id=false∧∀x∈q.nb,x.1≠id∧x.2.mentions id=false):(stOf S0 R E).mentions id=false:=by
 have⟨m1,m2,m3,m4⟩:=St.mentions_parts U;have G:∀(i:Nat) (q:Rs),R[i]? =some q->E i=true->q.v.mentions id=false∧∀x∈q.nb,x.1≠id∧x.2.mentions id=false:=fun i q hi J=>by
  have a1:i≠j:=fun e=>by subst e;rw[hj] at J;cases J
  have Y:i<m:=by rw[<-W.hm];exact(Y8.1 hi).1
  have O:j∉nth A i:=fun h=>by have:=hE i Y J j h;rw[hj] at this;cases this
  exact hm i q hi a1 O
 have⟨base,nt,ts,gs,bs,fs⟩:=S0;dsimp only at m1 m2 m3 m4;refine St.mentions_mk ?_ ?_ ?_ m4
 ·refine QcQ.2 fun x I=>?_;rcases Yo.1 I with I|I
  ·have⟨i,q,h1,h2,h3⟩:=Qns I;rw[Yg] at h2;rw[h3];simp only[Rs.shown];split
   ·exact(G i q h1 h2).1
   ·rfl
  ·exact QcQ.1 m1 x I
 ·refine Qfv.2 fun g hg=>?_;have⟨i,q,h1,h2,_,_,h5⟩:=QaR.1 hg;rw[Yg] at h2;rw[h5];exact(G i q h1 h2).1
 ·refine QE.2 fun x I=>?_;rcases Yo.1 I with I|I
  ·have⟨i,q,h1,h2,h3⟩:=JB.1 I;rw[Yg] at h2;exact⟨((G i q h1 h2).2 x h3).1,((G i q h1 h2).2 x h3).2⟩
  ·exact QE.1 m3 x I
theorem Qkm {j:Nat} {p:Nat×Blk}:∀ {bs:List (Nat×Blk)},p∈QpV bs j->p∈bs
 |[],h=>by simp[QpV] at h
 |(u,x)::r,h=>by
  simp only[QpV] at h;split at h
  ·exact Yp _ (Qkm h)
  ·rcases Yh.1 h with h|h
   ·rw[h];simp
   ·exact Yp _ (Qkm h)
theorem QgB {id:Nat} {x:Blk}:∀ {bs:List (Nat×Blk)} {i:Nat},Qi (QfQ bs id x) i=if i=id then(Qi bs id).map fun _=>x else Qi bs i
 |[],i=>by simp[QfQ,Qi]
 |(u,y)::r,i=>by
  simp only[QfQ];split
  ·rename_i hb;have:=Y5 hb;subst this
   by_cases e:i=u
   ·subst e;rw[Zk,Y2 rfl,Zk];rfl
   ·rw[QQ (YU e),Y0 e,QQ (YU e)]
  ·rename_i hb;have G:u≠id:=fun e=>by subst e;simp at hb
   by_cases e:u=i
   ·subst e;rw[Zk,Y0 G,Zk]
   ·rw[QQ e,QgB,QQ G,QQ e]
theorem Qvi {ev:Operand->V} {G:Nat->Option Blk} {pre:List (Nat×Blk)} {base:Nat} {dst:Option Nat} {op:Op} {K:V->List (Nat×Blk)->Prop} (h:QuW tb ev G pre base dst op K) (hs:¬ ∃J I O,op=.store J I O):dst≠none:=by
 intro e;subst e
 cases op<;>simp only[QuW,evN] at h<;>first|exact h.no.elim|exact absurd ⟨_,_,_,rfl⟩ hs|skip
 all_goals (repeat' split at h)
 all_goals first
  |exact h.no.elim
  |contradiction
  |(simp_all;done)
theorem Qsb (hT:TOk P tb) {S:St} {X pre post:List (Nat×Blk)} {res:V} {dst:Option Nat} {op:Op} {ty pos after guard} (h:Sim P B w0 F ρ S a w) (hX:S.blks=X++pre) (hdis:∀i b,Qi pre i=some b->Qi X i=none)
  (hm:∀t,dst=some t->S.mentions (St.idOf S.base t)=false) (he:QuW tb (S.ev []) (Qi X) pre S.base dst op (fun v post'=>v=res∧post'=post)):
  ∃n v w' ρ',(execOp a.eval ⟨dst,op,ty,pos,after,guard⟩).run P w=.ok n w'∧(n=.value v∨(n=.skip∧v=undef))∧Sim P B w0 F ρ' ⟨S.base,S.nt,S.tmps,S.gds,X++post,S.frames⟩ a w'∧VR w' (ZL B (X++post) ρ') ρ' res v:=by
 have lookX:∀i b,Qi X i=some b->Qi S.blks i=some b:=fun i b hb=>by rw[hX,Qh,hb];rfl
 have lookP:∀i b,Qi pre i=some b->Qi S.blks i=some b:=fun i b hb=>by rw[hX,Qh,hdis i b hb];simpa using hb
 have lookP':=lookP
 by_cases hst:∃tt aa xx,op=.store tt aa xx
 ·obtain⟨tt,aa,xx,rfl⟩:=hst;simp only[QuW] at he;split at he
  case h_2=>exact he.no.elim
  rename_i ti id row off hti hpa;have hiff:∀(blk:Blk) {b0:Blk},Qi pre id=some b0->QfQ pre id blk=post->∀i y,Qi (X++post) i=some y↔Qi (QfQ S.blks id blk) i=some y:=fun blk b0 hlk k2 i y=>by
   rw[<-k2,hX]
   by_cases e:i=id
   ·subst e;simp[Qh,QgB,hdis _ _ hlk,hlk]
   ·simp only[Qh,QgB,Y0 e]
  split at he
  ·rename_i t' cs1 hsz hlk;split at he
   case h_2=>exact he.no.elim
   rename_i hle;rw[Za] at he;have⟨k1,k2⟩:=he;have hE:evE tb dst (.store tt aa xx) S (fun v S'=>v=.any∧S'=⟨S.base,S.nt,S.tmps,S.gds,QfQ S.blks id (.box t' (QcO cs1 off (S.ev [] xx).cells)),S.frames⟩):=by
    have⟨base,nt,ts,gs,bs,fs⟩:=S;simp only[evE,hti];rw[hpa];simp only[hsz,lookP _ _ hlk,hle,Za,ZV];exact⟨trivial,trivial⟩
   obtain⟨n,v,w',ρ',x,S',g1,g2,g3,g4,rfl,rfl⟩:=Qep hT h ⟨dst,.store tt aa xx,ty,pos,after,guard⟩ hE;refine⟨n,v,w',ρ',g1,g2,g3.congr (fun _ _ h=>h) (fun _ h=>h) fun i y=>hiff _ hlk k2 i y,?_⟩;rw[<-k1];exact .any
  ·rename_i t' sz n0 rw0 hsz hlk;split at he
   case h_2=>exact he.no.elim
   rename_i ds hle hds;have⟨rw1,hrw1,k1,k2⟩:=he;have hE:evE tb dst (.store tt aa xx) S (fun v S'=>v=.any∧S'=⟨S.base,S.nt,S.tmps,S.gds,QfQ S.blks id (.arr t' sz n0 rw1),S.frames⟩):=by
    have⟨base,nt,ts,gs,bs,fs⟩:=S;simp only[evE,hti];rw[hpa];simp only[hsz,lookP _ _ hlk,hle,hds,ZV];exact⟨rw1,hrw1,trivial,rfl⟩
   obtain⟨n,v,w',ρ',x,S',g1,g2,g3,g4,rfl,rfl⟩:=Qep hT h ⟨dst,.store tt aa xx,ty,pos,after,guard⟩ hE;refine⟨n,v,w',ρ',g1,g2,g3.congr (fun _ _ h=>h) (fun _ h=>h) fun i y=>hiff _ hlk k2 i y,?_⟩;rw[<-k1];exact .any
  ·exact he.no.elim
 cases dst with
 |none=>
  exact absurd rfl (Qvi he fun e=>hst e)
 |some t=>
 have hm:=hm t rfl;have hnid:∀b,Qi S.blks (St.idOf S.base t)=some b->False:=fun b hb=>by
  have:=(St.mentions_parts hm).2.2.1;rw[ZW hb (.inl rfl)] at this;cases this
 --the blocks in another order
 have front:∀ {ρ' w'} {b:Blk} {rest:List (Nat×Blk)} {v},(∀i x,Qi (X++rest) i=some x->True)->Sim P B w0 F ρ' ⟨S.base,S.nt,S.tmps,S.gds,(St.idOf S.base t,b)::(X++rest),S.frames⟩ a w'->
   VR w' (ZL B ((St.idOf S.base t,b)::(X++rest)) ρ') ρ' res v->post=(St.idOf S.base t,b)::rest->
   Sim P B w0 F ρ' ⟨S.base,S.nt,S.tmps,S.gds,X++post,S.frames⟩ a w'∧VR w' (ZL B (X++post) ρ') ρ' res v:=fun {ρ' w' b rest v} _ h1 h2 h3=>by
  have hXn:Qi X (St.idOf S.base t)=none:=by
   cases hl:Qi X (St.idOf S.base t) with
   |none=>rfl
   |some b=>exact(hnid b (lookX _ _ hl)).elim
  have iff:∀i x,Qi (X++post) i=some x↔Qi ((St.idOf S.base t,b)::(X++rest)) i=some x:=fun i x=>by
   rw[h3]
   by_cases e:St.idOf S.base t=i
   ·subst e;rw[Zk,Qh,hXn,Zk];rfl
   ·rw[QQ e,Qh,Qh,QQ e]
  refine⟨h1.congr (fun _ _ h=>h) (fun _ h=>h) fun i x=>iff i x,h2.mono fun b hb=>hb.elim (fun ho=>.inl (QnE (fun i x hx=>(iff i x).1 hx) ho)) .inr⟩
 have newCase:∀ {op':Op},evN tb (S.ev []) (Qi X) S.base (some t) op' (fun id v b=>v=res∧(id,b)::pre=post)->
   ∃n v w' ρ',(execOp a.eval ⟨some t,op',ty,pos,after,guard⟩).run P w=.ok n w'∧(n=.value v∨(n=.skip∧v=undef))∧Sim P B w0 F ρ' ⟨S.base,S.nt,S.tmps,S.gds,X++post,S.frames⟩ a w'∧VR w' (ZL B (X++post) ρ') ρ' res v:=fun {op'} hk=>by
  have h2:=Qs9 (fun t' ht=>by cases ht;exact hm) (Qwn (Qgv (fun _ _=>rfl) lookX hk));have⟨n,v,w',ρ',x,S',g1,g2,g3,g4,g5⟩:=Qep hT h ⟨some t,op',ty,pos,after,guard⟩ h2;obtain⟨i,b,⟨hi,k1,k2⟩,rfl⟩:=g5;subst hi k1;have g3':Sim P B w0 F ρ' ⟨S.base,S.nt,S.tmps,S.gds,(St.idOf S.base t,b)::(X++pre),S.frames⟩ a w':=by rw[<-hX];exact g3
  have g4':VR w' (ZL B ((St.idOf S.base t,b)::(X++pre)) ρ') ρ' x v:=by rw[<-hX];exact g4
  have⟨f1,f2⟩:=front (fun _ _ _=>trivial) g3' g4' k2.symm;exact⟨n,v,w',ρ',g1,g2,f1,f2⟩
 cases op<;>simp only[QuW] at he<;>first|exact he.no.elim|exact newCase he|skip
 case store=>exact absurd ⟨_,_,_,rfl⟩ hst
 case call c=>
  split at he
  case h_2=>exact he.no.elim
  rename_i hcal;split at he
  case h_2=>exact he.no.elim
  rename_i s x ty1 ty2 hargs htys;have hargs:c.args=#[s,x]:=by apply Xc;simpa using hargs
  have htys:c.argTypes=#[ty1,ty2]:=by apply Xc;simpa using htys
  have hrun:∀w',(execOp a.eval ⟨some t,.call c,ty,pos,after,guard⟩).run P w'=((Builtin.append_ #[ty1,ty2] ty #[a.eval s,a.eval x]>>=fun v=>(pure (.value v):Sem Next)).run P w'):=fun w'=>by
   simp only[execOp,resolve,hcal,hargs,htys,pure_bind,invoke,builtin,XL,YC,Y06]
  split at he
  case h_2=>exact he.no.elim
  rename_i e s' by' z' q e' s2 by2 z2 q2 dst' hti hti' hd
  cases hd
  split at he
  case h_2=>exact he.no.elim
  rename_i kk sz byt zz qq hte;split at he
  case h_2=>exact he.no.elim
  rename_i n r m r' hcs hcx;split at he
  ·exact newCase he
  case h_3=>exact he.no.elim
  rename_i id off len hsv;have⟨hb,n1,rw1,hn1,hrw1,he⟩:=he;rw[St.idK_eq] at he;have⟨k1,k2⟩:=he;subst hn1;have hev:=h.evR;have hs:=hev.eq hsv;rw[hsv] at hcs;have hlkid:∀b,Qi S.blks id=some b->Qi X id=none:=fun b hb=>by
   simp only[J6] at hcs;split at hcs
   ·rename_i hl;exact hdis _ _ hl
   ·cases hcs
  have hsub:∀i b,Qi (X++QpV pre id) i=some b->i≠id∧Qi S.blks i=some b:=fun i b hb=>by
   rw[Qh] at hb
   cases hl:Qi X i with
   |some b'=>
    rw[hl] at hb;simp at hb;subst hb;refine⟨fun e=>?_,lookX _ _ hl⟩;subst e;rw[hlkid _ (lookX _ _ hl)] at hl;cases hl
   |none=>
    rw[hl] at hb;simp only[Xp] at hb;have⟨h1,h2⟩:=Qgy hb;exact⟨h1,lookP _ _ h2⟩
  have hk:=Qq0 h.o (L:=X++QpV pre id) fun i b hb=>(hsub i b hb).2;have⟨v,w',ρ',g1,g2,g3⟩:=Qr8 hT h (ty:=ty) (nid:=St.idOf S.base t) hti hti' hte hs (hev.at x) (Qd5 lookP hcs) (Qd5 lookX hcx) hb hrw1 hk (by
    have⟨m1,m2,m3,m4⟩:=St.mentions_parts hm;refine St.mentions_mk m1 m2 ?_ m4;rw[hX,QE] at m3;rw[QE];intro p hp;rcases Yo.1 hp with hp|hp
    ·exact m3 p (Y03 _ hp)
    ·exact m3 p (XX _ (Qkm hp)))
   (fun b hb=>hb.elim (fun ho=>.inl (QnE (fun i x hx=>(hsub i x hx).2) ho)) .inr) (fun t0 n0 row0 hl hp=>by
    rintro⟨i,k,hk,hpi,e⟩;have⟨hne,hk2⟩:=hsub i k hk;exact hne (h.sep i id _ _ hk2 hl hpi hp e))
  subst k1;have⟨f1,f2⟩:=front (rest:=QpV pre id) (fun _ _ _=>trivial) g2 g3 k2.symm;exact⟨_,v,w',ρ',by rw[hrun,Sem.run_bind,g1];rfl,.inl rfl,f1,f2⟩
theorem Qtx (hT:TOk P tb) {S:St} {X pre post:List (Nat×Blk)} {res:V} {dst:Option Nat} {op:Op} {ty pos after guard} (h:Sim P B w0 F ρ S a w) (hX:S.blks=X++pre) (I:∀i b,Qi pre i=some b->Qi X i=none)
  (hm:∀t,dst=some t->Qy5 op=false->S.mentions (St.idOf S.base t)=false) (U:evA tb (S.ev []) (Qi X) pre S.base dst op (fun v Y=>v=res∧Y=post)):
  ∃n v w' ρ',(execOp a.eval ⟨dst,op,ty,pos,after,guard⟩).run P w=.ok n w'∧(n=.value v∨(n=.skip∧v=undef))∧Sim P B w0 F ρ' ⟨S.base,S.nt,S.tmps,S.gds,X++post,S.frames⟩ a w'∧VR w' (ZL B (X++post) ρ') ρ' res v:=by
 unfold evA at U;split at U
 ·obtain⟨v,w',x,g1,g2,g3,rfl,rfl⟩:=Qgo hT (ev:=fun _ x=>S.ev [] x) (ow:=ZL B S.blks ρ) (ρ:=ρ) ⟨fun _ x _=>h.evR.at x⟩ (fun i b hi=>h.blks i b (by
    rw[hX,Qh]
    cases hl:Qi pre i with
    |some b'=>rw[hl] at hi;simp only[Option.some_or,Y9] at hi;subst hi;rw[I _ _ hl];rfl
    |none=>rw[hl] at hi;simp only[Xp] at hi;rw[hi];rfl)) (fun _ hb=>QdK h hb) (fun _ h=>h) ⟨dst,op,ty,pos,after,guard⟩ U
  have h2:=h.pure g2;have⟨base,nt,ts,gs,bs,fs⟩:=S;dsimp only at hX;subst hX;exact⟨_,v,w',ρ,g1,.inl rfl,h2,g3⟩
 ·rename_i hp;split at U
  ·rename_i e n cs G t hB;rw[St.idK_eq] at U;have⟨k1,k2⟩:=U;subst k1;have hm:=hm t rfl hp;have J:∀i b,Qi X i=some b->Qi S.blks i=some b:=fun i b hb=>by rw[hX,Qh,hb];rfl
   have O:∀i b,Qi pre i=some b->Qi S.blks i=some b:=fun i b hb=>by rw[hX,Qh,I i b hb];simpa using hb
   have a2:∀p,p∈QuJ pre G->p∈pre:=fun p hp=>by
    cases G with
    |none=>exact hp
    |some g=>exact Qkm hp
   have a3:(⟨S.base,S.nt,S.tmps,S.gds,X++QuJ pre G,S.frames⟩:St).mentions (St.idOf S.base t)=false:=by
    have⟨m1,m2,m3,m4⟩:=St.mentions_parts hm;refine St.mentions_mk m1 m2 ?_ m4;rw[hX,QE] at m3;rw[QE];intro p hp;rcases Yo.1 hp with hp|hp
    ·exact m3 p (Y03 _ hp)
    ·exact m3 p (XX _ (a2 p hp))
   have⟨v,w',ρ',r1,r2,r3⟩:=Qtn (ty:=ty) (pos:=pos) (after:=after) (guard:=guard) hT h J O I Qgy (fun {l i b} hb=>by
    rw[Qh] at hb
    cases hl:Qi X i with
    |some b'=>rw[hl] at hb;exact .inl hb
    |none=>rw[hl] at hb;simp only[Xp] at hb;exact .inr hb) hm a3 hB
   have a4:Qi X (St.idOf S.base t)=none:=by
    cases hl:Qi X (St.idOf S.base t) with
    |none=>rfl
    |some b=>
     have:=(St.mentions_parts hm).2.2.1;rw[ZW (J _ _ hl) (.inl rfl)] at this;cases this
   have a1:∀i x,Qi (X++post) i=some x↔Qi ((St.idOf S.base t,.box (bty n e) cs)::(X++QuJ pre G)) i=some x:=fun i x=>by
    rw[<-k2]
    by_cases e:St.idOf S.base t=i
    ·subst e;rw[Zk,Qh,a4,Zk];rfl
    ·rw[QQ e,Qh,Qh,QQ e]
   exact⟨_,v,w',ρ',r1,.inl rfl,r2.congr (fun _ _ h=>h) (fun _ h=>h) fun i x=>a1 i x,r3.mono fun b hb=>hb.elim (fun ho=>.inl (QnE (fun i x hx=>(a1 i x).1 hx) ho)) .inr⟩
  ·exact Qsb hT h hX I (fun t ht=>hm t ht hp) U
theorem QnH (hT:TOk P tb) (W:Walked P tb cs m ops S0 A R) {opsA:Array Oper} (hops:opsA.toList=ops) {pre post:List (Nat×Blk)} (hv0:QdL S0 R pre=true) (hv1:QdL S0 R post=true)
  {E:Nat->Bool} (hE:Qgw m A E) {j:Nat} {o:Oper} (hj:j<m) (hjE:E j=false) (ho:ops[j]? =some o) {res:V} (hcs:cs j=some (.app pre res post))
  (hnid:∀t,o.dst=some t->Qy5 o.op=false->S0.mentions (St.idOf S0.base t)=false∧Q4 (St.idOf S0.base t) pre=false∧∀i q,R[i]? =some q->i≠j->j∉nth A i->q.v.mentions (St.idOf S0.base t)=false∧∀x∈q.nb,x.1≠St.idOf S0.base t∧x.2.mentions (St.idOf S0.base t)=false)
  (hr:∀e∈Zl o.after.toList,E e=true) (h:Sim P B w0 F ρ (stOf (S0.addB pre) R E) a w) {next:Act->World->Prop}
  (hn:∀ρ' a' w',Sim P B w0 F ρ' (stOf (S0.addB post) R (QfT E j)) a' w'->next a' w') (Q:Exit->Act->World->Prop):wpOp P opsA Q j next a w:=by
 have W0:=W;have hvT:∀T,QdL S0 R T=true->∀r∈R,∀p∈r.nb,Q4 p.1 T=false:=fun T this r hr p hp=>by
  simp only[QdL,Y4] at this;have:=Yb.1 (Yb.1 this.2 r hr) p hp;simpa using this
 have hvS:∀T,QdL S0 R T=true->∀i b,Qi T i=some b->Qi S0.blks i=none:=fun T this i b hb=>by
  simp only[QdL,Y4] at this;have:=Yb.1 this.1 i (Qd7 (Zd hb));exact QgA (by simpa using this)
 have hoA:opsA[j]? =some o:=by rw[<-hops] at ho;simpa using ho
 have W1:=W0.more (hvT post hv1);have hvT:=hvT pre hv0;have hvS:=hvS pre hv0;have W:=W0.more hvT;obtain⟨r,hr1,hanc,hrd,hopr,hgd,hev⟩:=W0.facts j o hj ho;have hin:=W.ancIn hE hj ho hr;have hlt:∀i∈nth A j,i<j:=W.ancLt (j+1) j (by omega) hj;have hloc:∀x∈o.op.operands.toList,∀al,(stOf S0 (R.take j) (ZZ (nth A j))).ev al x=(stOf S0 R E).ev al x:=fun x hx al=>Qta W0 hlt hin (hopr x hx) al;have hblk:∀id b,Qi (stOf S0 (R.take j) (ZZ (nth A j))).blks id=some b->Qi (stOf S0 R E).blks id=some b:=fun id b hb=>Qtb W0 hin hb;obtain⟨pre',res',post',hcs',hg,hA,k1,k2,k3⟩:=Qnp (by rw[hcs];rfl) hev;rw[hcs] at hcs';simp only[Y9,CS.app.injEq] at hcs';obtain⟨e1,e2,e3⟩:=hcs';subst e1 e2 e3;have hbase:∀(R':List Rs) (E':Nat->Bool),(stOf S0 R' E').base=S0.base:=fun R' E'=>by obtain⟨base,nt,ts,gs,bs,fs⟩:=S0;rfl
 have hblks:(stOf S0 R E).blks=JN E 0 R++S0.blks:=by obtain⟨base,nt,ts,gs,bs,fs⟩:=S0;rfl
 have hA2:=QoR (ev':=(stOf S0 R E).ev []) (vis':=Qi (JN E 0 R++S0.blks)) (fun x hx=>hloc x hx []) (fun i b hb=>by rw[<-hblks];exact hblk i b hb) hA;have hS2:stOf (S0.addB pre) R E=(stOf S0 R E).addB pre:=QjH;rw[hS2] at h;have hev2:((stOf S0 R E).addB pre).ev=(stOf S0 R E).ev:=by
  funext al x
  generalize stOf S0 R E=S9;obtain⟨base,nt,ts,gs,bs,fs⟩:=S9
  cases x<;>rfl
 have hm2:∀t,o.dst=some t->Qy5 o.op=false->((stOf S0 R E).addB pre).mentions (St.idOf ((stOf S0 R E).addB pre).base t)=false:=fun t ht hhp=>by
  obtain⟨n1,n2,n3⟩:=hnid t ht hhp;have hm1:=Qtw W0 hE hjE n1 n3;have hb2:((stOf S0 R E).addB pre).base=S0.base:=by
   rw[<-hbase R E];generalize stOf S0 R E=S9;obtain⟨base,nt,ts,gs,bs,fs⟩:=S9;rfl
  rw[hb2];obtain⟨m1,m2,m3,m4⟩:=St.mentions_parts hm1;have e1:((stOf S0 R E).addB pre).tmps=(stOf S0 R E).tmps∧((stOf S0 R E).addB pre).gds=(stOf S0 R E).gds∧((stOf S0 R E).addB pre).blks=(stOf S0 R E).blks++pre∧((stOf S0 R E).addB pre).frames=(stOf S0 R E).frames:=by
   generalize stOf S0 R E=S9;obtain⟨base,nt,ts,gs,bs,fs⟩:=S9;exact⟨rfl,rfl,rfl,rfl⟩
  refine St.mentions_mk (by rw[e1.1];exact m1) (by rw[e1.2.1];exact m2) ?_ (by rw[e1.2.2.2];exact m4);rw[e1.2.2.1];rw[QE] at m3 n2|-;intro p hp;rcases Yo.1 hp with hp|hp
  ·exact m3 p hp
  ·exact n2 p hp
 have hb2:((stOf S0 R E).addB pre).base=S0.base:=by
  rw[<-hbase R E];generalize stOf S0 R E=S9;obtain⟨base,nt,ts,gs,bs,fs⟩:=S9;rfl
 have hX:((stOf S0 R E).addB pre).blks=(JN E 0 R++S0.blks)++pre:=by
  rw[<-hblks];generalize stOf S0 R E=S9;obtain⟨base,nt,ts,gs,bs,fs⟩:=S9;rfl
 have hdis:∀i b,Qi pre i=some b->Qi (JN E 0 R++S0.blks) i=none:=fun i b hb=>by
  rw[Qh,hvS i b hb]
  cases hl:Qi (JN E 0 R) i with
  |none=>rfl
  |some b'=>
   exfalso;obtain⟨q,rq,g1,_,g3⟩:=JB.1 (Zd hl);have:=hvT rq (X1 g1) _ g3;rw[ZW (id:=i) hb (.inl rfl)] at this;cases this
 obtain⟨n,v,w',ρ',g1,g0,g2,g3⟩:=Qtx (ty:=o.type) (pos:=o.pos) (after:=o.after) (guard:=none) hT h hX hdis hm2 (by rw[hev2,hb2];rw[hbase] at hA2;exact hA2);have hoe:o=⟨o.dst,o.op,o.type,o.pos,o.after,none⟩:=by rw[<-hg]
 have hwd:Region.wanted o (yielded opsA a.tmps)=true:=by rw[hoe];simp[Region.wanted]
 refine Qin hoA hwd ?_;have hshape:(⟨((stOf S0 R E).addB pre).base,((stOf S0 R E).addB pre).nt,((stOf S0 R E).addB pre).tmps,((stOf S0 R E).addB pre).gds,(JN E 0 R++S0.blks)++post,((stOf S0 R E).addB pre).frames⟩:St)=⟨S0.base,S0.nt,QdE E 0 R++S0.tmps,QdO E 0 R,r.nb++(JN E 0 R++(S0.addB post).blks),S0.frames⟩:=by
  rw[<-k3];obtain⟨base,nt,ts,gs,bs,fs⟩:=S0;simp only[stOf,St.addB,Xu,YA]
 have hbl:(JN E 0 R++S0.blks)++post=r.nb++(JN E 0 R++(S0.addB post).blks):=by
  rw[<-k3];obtain⟨base,nt,ts,gs,bs,fs⟩:=S0;simp only[St.addB,Xu,YA]
 rw[hshape] at g2;rw[hbl] at g3;have fin:next (a.put o.dst v) w':=by
  rcases W0.slots j r hr1 with ⟨hdn,hnb⟩|⟨t,htd,htn,hkt⟩
  ·have hod:o.dst=none:=by rw[<-hrd];exact hdn
   rw[hod];refine hn ρ' _ w' ?_;rw[Qtc hr1 hdn hnb];rw[hnb] at g2;have e:stOf (S0.addB post) R E=⟨S0.base,S0.nt,QdE E 0 R++S0.tmps,QdO E 0 R,[]++(JN E 0 R++(S0.addB post).blks),S0.frames⟩:=by obtain⟨base,nt,ts,gs,bs,fs⟩:=S0;rfl
   rw[e];exact g2
  ·have hod:o.dst=some t:=by rw[<-hrd];exact htd
   have hkey:∀g∈QdO E 0 R,g.t≠t∧g.key≠t:=fun g hg=>by
    obtain⟨i,q,g1,g2,g3,g4,g5⟩:=QaR.1 hg;rw[Yg] at g2;have hne:i≠j:=fun e=>by subst e;rw[hjE] at g2;cases g2
    refine⟨fun e=>W.ne j i r q hr1 g1 (YU hne) t htd (by rw[<-e];exact g3),fun e=>?_⟩;have him:i<m:=by rw[<-W.hm];exact(Y8.1 g1).1
    obtain⟨oi,hoi⟩:=W.op him;obtain⟨q',f1,_,_,_,f5,f6⟩:=W.facts i oi him hoi;rw[g1] at f1;cases f1;obtain⟨gg,vv,nn,⟨k1,_,_⟩,k4⟩:=Qnq f6;rcases k4 with ⟨_,k5⟩|⟨jg,want,oj,key,k5,k6,k7,k8⟩
    ·rw[<-k1,k5] at g4;cases g4
    ·rw[<-k1,k8] at g4;simp only[Y9,YY] at g4;obtain⟨oj',key',l1,l2,l3,_⟩:=f5 jg want k5;rw[k6] at l1;cases l1;have hEjg:=hE i him g2 jg l3;have hjgne:jg≠j:=fun e=>by subst e;rw[hjE] at hEjg;cases hEjg
     have hjgm:jg<m:=by have:=W.ancLt (i+1) i (by omega) him jg l3;omega
     obtain⟨rj,r1,_,r3,_⟩:=W.facts jg oj hjgm k6;refine W.ne jg j rj r r1 hr1 hjgne key (by rw[r3];exact k7) ?_;rw[g4.1,e];exact htd
   have hk0:(S0.addB post).base=S0.base∧(S0.addB post).nt=S0.nt∧(S0.addB post).tmps=S0.tmps∧(S0.addB post).frames=S0.frames:=by obtain⟨base,nt,ts,gs,bs,fs⟩:=S0;exact⟨rfl,rfl,rfl,rfl⟩
   rw[hod];exact hn ρ' _ w' (QhE W1 hr1 htd hjE (h:=by rw[hk0.1,hk0.2.1,hk0.2.2.1,hk0.2.2.2];exact g2) (x:=v) (by rw[<-k1];rw[<-k2];exact g3) hkey)
 unfold Oper.wp;rw[hoe,g1];rcases g0 with rfl|⟨rfl,rfl⟩
 ·exact fin
 ·exact fin
def QcS (ids:List Nat):List (Nat×Blk)->List (Nat×Blk)
 |[]=>[]
 |(i,b)::r=>match ZZ ids i with
  |true=>QcS ids r
  |false=>(i,b)::QcS ids r
def Ze (bs:List (Nat×Blk)):List Nat->List (Nat×Blk)
 |[]=>[]
 |i::r=>match Qi bs i with
  |some b=>(i,b)::Ze bs r
  |none=>Ze bs r
theorem Qca {ids:List Nat} {i:Nat}:∀ {bs:List (Nat×Blk)},Qi (QcS ids bs) i=if ZZ ids i=true then none else Qi bs i
 |[]=>by simp[QcS,Qi]
 |(u,b)::r=>by
  simp only[QcS];split
  ·rename_i h;rw[Qca];split
   ·rfl
   ·rename_i h2;rw[QQ];intro e;subst e;exact h2 h
  ·rename_i h
   by_cases e:u=i
   ·subst e;rw[Zk,h,Zk];simp
   ·rw[QQ e,Qca,QQ e]
theorem Qiu {bs:List (Nat×Blk)} {i:Nat}:∀ {ids:List Nat},Qi (Ze bs ids) i=if ZZ ids i=true then Qi bs i else none
 |[]=>by simp[Ze,Qi,ZZ]
 |u::r=>by
  have G:=Qiu (bs:=bs) (i:=i) (ids:=r)
  by_cases e:u=i
  ·subst e;have h1:ZZ (u::r) u=true:=by simp[ZZ]
   simp only[h1,YG];simp only[Ze]
   cases h:Qi bs u with
   |some b=>exact Zk
   |none=>simp only[G,h];split<;>rfl
  ·have hb:Nat.beq u i=false:=by
    cases hb:Nat.beq u i
    ·rfl
    ·exact absurd (Y5 hb) e
   have h1:ZZ (u::r) i=ZZ r i:=by simp only[ZZ,hb]
   rw[h1];simp only[Ze];split
   ·rw[QQ e,G]
   ·exact G
def S0h (dsts:List (Option Nat)) (ids:List Nat) (S:St):St:=match S with
 |⟨base,nt,ts,_,bs,fs⟩=>⟨base,nt,Qnn dsts ts,[],QcS ids bs,fs⟩
def Qq3 (ops:List Oper) (cs:Nat->Option CS) (m:Nat):Bool:=(List.range m).all fun j=>match Qil (cs j)&& !Qgu (cs j),ops[j]? with
 |true,some ⟨_,.call ⟨.value _,_,_⟩,_,_,_,_⟩=>true
 |true,_=>false
 |false,_=>true
theorem Qty (h:Qq3 ops cs m=true) {j:Nat} {o:Oper} (hj:j<m) (h1:(Qil (cs j)&& !Qgu (cs j))=true) (ho:ops[j]? =some o):∃f args G,o.op=.call ⟨.value f,args,G⟩:=by
 have:=Yb.1 h j (by simpa using hj);rw[h1,ho] at this;split at this
 ·rename_i h2;cases h2;exact⟨_,_,_,rfl⟩
 ·cases this
 ·rename_i h2;cases h2
def Qc5 (cs:Nat->Option CS) (j:Nat):List (Nat×Blk):=match cs j with
 |some (.eff _ _ post _ _)=>post
 |some (.app _ _ post)=>post
 |_=>[]
def hid (cs:Nat->Option CS) (pr:Nat->List (Nat×Blk)) (ro:Nat->List Nat) (T0:List (Nat×Blk)) (E:Nat->Bool):Nat->List (Nat×Blk)
 |0=>T0
 |n+1=>match E n&&Qil (cs n) with
  |true=>QcS (ro n) (Qc5 cs n)++QcS (QdP (QcS (ro n) (pr n))) (hid cs pr ro T0 E n)
  |false=>hid cs pr ro T0 E n
def Qjc (cs:Nat->Option CS) (pr:Nat->List (Nat×Blk)) (j id:Nat):Bool:=Qil (cs j)&&(hasB (pr j) id||hasB (Qc5 cs j) id)
def Qoh (cs:Nat->Option CS) (pr:Nat->List (Nat×Blk)) (ro:Nat->List Nat) (j id:Nat):Bool:=Qjc cs pr j id&& !ZZ (ro j) id
theorem QcT:∀ {T:List (Nat×Blk)} {id:Nat},ZZ (QdP T) id=hasB T id
 |[],id=>rfl
 |(i,b)::r,id=>by
  have G:=QcT (T:=r) (id:=id);unfold hasB at G|-;simp only[QdP,ZZ,Qi]
  cases hb:Nat.beq i id
  ·exact G
  ·rfl
theorem Qq4 {ids:List Nat} {T:List (Nat×Blk)} {id:Nat}:hasB (QcS ids T) id=(hasB T id&& !ZZ ids id):=by
 unfold hasB;rw[Qca]
 cases ZZ ids id
 ·simp
 ·simp
theorem QgC {T:List (Nat×Blk)} {id:Nat} (h:hasB T id=false):Qi T id=none:=QgA h
theorem QoS {T:List (Nat×Blk)} {id:Nat} {b:Blk} (h:Qi T id=some b):hasB T id=true:=by simp[hasB,h]
variable {pr:Nat→List (Nat×Blk)} {ro:Nat→List Nat} {T0:List (Nat×Blk)}
theorem QnI {E:Nat->Bool} {n id:Nat} (h:Qoh cs pr ro n id=false):Qi (hid cs pr ro T0 E (n+1)) id=Qi (hid cs pr ro T0 E n) id:=by
 simp only[hid];split
 ·rename_i hb;simp only[Y4] at hb;simp only[Qoh,Qjc,hb.2,Yq] at h;rw[Qh,Qca,Qca,QcT,Qq4]
  cases hm:ZZ (ro n) id
  ·rw[hm] at h;simp only[XM,Xj,XD] at h;simp[QgC h.2,h.1]
  ·simp
 ·rfl
theorem Qiv {E E':Nat->Bool} {id:Nat}:∀ {n:Nat},(∀i,i<n->Qoh cs pr ro i id=true->E i=E' i)->Qi (hid cs pr ro T0 E n) id=Qi (hid cs pr ro T0 E' n) id
 |0,_=>rfl
 |n+1,h=>by
  have G:=Qiv (n:=n) fun i hi=>h i (by omega)
  cases ht:Qoh cs pr ro n id
  ·rw[QnI ht,QnI ht,G]
  ·have e:=h n (by omega) ht;simp only[hid,e];split
   ·rw[Qh,Qh,Qca (bs:=hid cs pr ro T0 E n),Qca (bs:=hid cs pr ro T0 E' n),G]
   ·exact G
theorem Qzc {E:Nat->Bool} {n id:Nat} (hE:E n=true) (ht:Qoh cs pr ro n id=true):Qi (hid cs pr ro T0 E (n+1)) id=Qi (Qc5 cs n) id:=by
 simp only[Qoh,Qjc,Y4,YF] at ht;have⟨⟨h1,h2⟩,h3⟩:=ht;simp only[hid,hE,h1,Y0u];rw[Qh,Qca,Qca,QcT,Qq4,h3];simp only[Yu,X6,XM,Xj]
 cases hl:Qi (Qc5 cs n) id with
 |some b=>rfl
 |none=>
  have:hasB (Qc5 cs n) id=false:=by simp[hasB,hl]
  rw[this,Y0m] at h2;rw[h2];simp
theorem Qll {E:Nat->Bool} {n id:Nat}:∀ {d:Nat},(∀i,n<=i->i<n+d->E i=true->Qoh cs pr ro i id=false)->Qi (hid cs pr ro T0 E (n+d)) id=Qi (hid cs pr ro T0 E n) id
 |0,_=>rfl
 |d+1,h=>by
  have G:=Qll (d:=d) fun i h1 h2=>h i h1 (by omega);show Qi (hid cs pr ro T0 E ((n+d)+1)) id=_
  cases hE:E (n+d)
  ·simp only[hid,hE,YM];exact G
  ·rw[QnI (h (n+d) (by omega) (by omega) hE)];exact G
theorem Qe5 {ids:List Nat} {p:Nat×Blk}:∀ {bs:List (Nat×Blk)},p∈QcS ids bs->p∈bs
 |[],h=>by simp[QcS] at h
 |(u,x)::r,h=>by
  simp only[QcS] at h;split at h
  ·exact Yp _ (Qe5 h)
  ·rcases Yh.1 h with h|h
   ·rw[h];simp
   ·exact Yp _ (Qe5 h)
theorem Qlm {E:Nat->Bool} {p:Nat×Blk}:∀ {n:Nat},p∈hid cs pr ro T0 E n->p∈T0∨ ∃k,k<n∧E k=true∧Qil (cs k)=true∧p∈Qc5 cs k
 |0,h=>.inl h
 |n+1,h=>by
  simp only[hid] at h;split at h
  ·rename_i hb;simp only[Y4] at hb;rcases Yo.1 h with h|h
   ·exact .inr ⟨n,by omega,hb.1,hb.2,Qe5 h⟩
   ·rcases Qlm (Qe5 h) with h|⟨k,h1,h2⟩
    ·exact .inl h
    ·exact .inr ⟨k,by omega,h2⟩
  ·rcases Qlm h with h|⟨k,h1,h2⟩
   ·exact .inl h
   ·exact .inr ⟨k,by omega,h2⟩
theorem Qxp {E E':Nat->Bool}:∀ {n:Nat},(∀i,i<n->Qil (cs i)=true->E i=E' i)->hid cs pr ro T0 E n=hid cs pr ro T0 E' n
 |0,_=>rfl
 |n+1,h=>by
  have G:=Qxp (n:=n) fun i hi=>h i (by omega);simp only[hid]
  cases I:Qil (cs n)
  ·simp only[XT];exact G
  ·rw[h n (by omega) I,G]
def QmQ (cs:Nat->Option CS) (pr:Nat->List (Nat×Blk)) (G:Nat->Nat->Bool) (S0:St) (R:List Rs) (T0:List (Nat×Blk)) (m j id:Nat):Bool:=
 !S0.mentions id&&(!Q4 id T0&&(!Q4 id (pr j)&&((List.range m).all (fun i=>Nat.beq i j||(G i j||(!Qil (cs i)|| !Q4 id (Qc5 cs i))))&&
  QlM (fun i q=>Nat.beq i j||(G i j||(!q.v.mentions id&&q.nb.all fun x=>!Nat.beq x.1 id&& !x.2.mentions id))) 0 R)))
def QmR (cs:Nat->Option CS) (pr:Nat->List (Nat×Blk)) (ro:Nat->List Nat) (i j:Nat):Bool:=
 (QdP (pr i)++QdP (Qc5 cs i)).all (fun id=>ZZ (ro i) id|| !Qjc cs pr j id)&&(QdP (pr j)++QdP (Qc5 cs j)).all (fun id=>ZZ (ro j) id|| !Qjc cs pr i id)
def QAf (cs:Nat->Option CS) (pr:Nat->List (Nat×Blk)) (ro:Nat->List Nat) (G:Nat->Nat->Bool) (S0:St) (R:List Rs) (T0:List (Nat×Blk)) (m j:Nat):Bool:=match Qil (cs j) with
 |false=>true
 |true=>QdL S0 R (pr j)&&(QdL S0 R (Qc5 cs j)&&((List.range j).all (fun i=>match Qil (cs i) with
  |false=>true
  |true=>G j i||QmR cs pr ro i j)&&(QdP (Qc5 cs j)).all (fun id=>hasB (pr j) id||QmQ cs pr G S0 R T0 m j id)))
def QAn (cs:Nat->Option CS) (pr:Nat->List (Nat×Blk)) (G:Nat->Nat->Bool) (S0:St) (R:List Rs) (T0:List (Nat×Blk)) (ops:List Oper) (m:Nat):Bool:=
 QlM (fun j r=>match Qgu (cs j),ops[j]?,r.dst with
  |true,some o,some t=>Qy5 o.op||QmQ cs pr G S0 R T0 m j (St.idOf S0.base t)
  |_,_,_=>true) 0 R
def QyI (cs:Nat->Option CS) (pr:Nat->List (Nat×Blk)) (ro:Nat->List Nat) (G:Nat->Nat->Bool) (S0:St) (R:List Rs) (T0:List (Nat×Blk)) (ops:List Oper) (m:Nat):Bool:=
 QdL S0 R T0&&((List.range m).all (QAf cs pr ro G S0 R T0 m)&&QAn cs pr G S0 R T0 ops m)
def Qe6 (P:Program) (cs:Nat->Option CS) (pr:Nat->List (Nat×Blk)) (ro:Nat->List Nat) (T0:List (Nat×Blk)) (G:List (List Bool)):Nat->Prop
 |0=>True
 |n+1=>(match cs n with
  |some (.eff res nb post p q)=>(∀g vs,p g vs->EffD P (pr n) g vs res nb post)∧(q->LeB (pr n) post)∧Ze (hid cs pr ro T0 (fun i=>Qdt (QeS G n) i) n) (QdP (pr n))=pr n∧Ze post (ro n)=Ze (pr n) (ro n)
  |some (.app pre _ post)=>pre=pr n∧Ze (hid cs pr ro T0 (fun i=>Qdt (QeS G n) i) n) (QdP (pr n))=pr n∧Ze post (ro n)=Ze (pr n) (ro n)
  |_=>True)∧Qe6 P cs pr ro T0 G n
theorem Qjd {G:List (List Bool)}:∀ {m:Nat},Qe6 P cs pr ro T0 G m->∀ {j:Nat},j<m->match cs j with
  |some (.eff res nb post p q)=>(∀g vs,p g vs->EffD P (pr j) g vs res nb post)∧(q->LeB (pr j) post)∧Ze (hid cs pr ro T0 (fun i=>Qdt (QeS G j) i) j) (QdP (pr j))=pr j∧Ze post (ro j)=Ze (pr j) (ro j)
  |some (.app pre _ post)=>pre=pr j∧Ze (hid cs pr ro T0 (fun i=>Qdt (QeS G j) i) j) (QdP (pr j))=pr j∧Ze post (ro j)=Ze (pr j) (ro j)
  |_=>True
 |m+1,h,j,hj=>by
  by_cases e:j=m
  ·subst e;exact h.1
  ·exact Qjd h.2 (by omega)
theorem Qp8 {G:List (List Bool)} {m:Nat} (h:Qe6 P cs pr ro T0 G m) {j:Nat} (hj:j<m) (I:Qil (cs j)=true):
  Ze (hid cs pr ro T0 (fun i=>Qdt (QeS G j) i) j) (QdP (pr j))=pr j∧Ze (Qc5 cs j) (ro j)=Ze (pr j) (ro j):=by
 have:=Qjd h hj;rcases Qtt I with ⟨res,nb,post,p,q,e⟩|⟨pre,res,post,e⟩
 ·rw[e] at this;simp only[Qc5,e];exact this.2.2
 ·rw[e] at this;simp only[Qc5,e];exact this.2
theorem QhL {T:List (Nat×Blk)} (h:QdL S0 R T=true):(∀i b,(i,b)∈T->hasB S0.blks i=false)∧∀r∈R,∀p∈r.nb,Q4 p.1 T=false:=by
 simp only[QdL,Y4] at h;refine⟨fun i b hb=>by simpa using Yb.1 h.1 i (Qd7 hb),fun r G p hp=>by simpa using Yb.1 (Yb.1 h.2 r G) p hp⟩
theorem Qq5 {T:List (Nat×Blk)} (h1:∀i b,(i,b)∈T->hasB S0.blks i=false) (h2:∀r∈R,∀p∈r.nb,Q4 p.1 T=false):QdL S0 R T=true:=by
 simp only[QdL,Y4];refine⟨Yb.2 fun i hi=>?_,Yb.2 fun r G=>Yb.2 fun p hp=>by simpa using h2 r G p hp⟩;have:hasB T i=true:=by rw[<-QcT];exact ZO.2 hi
 have⟨b,hb⟩:=QeQ this;simpa using h1 i b (Zd hb)
def Qp9 (P:Program) (tb:Tb) (cs:Nat->Option CS) (pr:Nat->List (Nat×Blk)) (ro:Nat->List Nat) (G:List (List Bool)) (m:Nat) (ids:List Nat) (ops:List Oper) (S:St) (K:St->Prop):Prop:=
 match Qc3 0 ops with
 |true=>stK (S0h ((ops.take m).map (·.dst)) ids S) fun S0=>evM P tb cs ops ((ops.take m).map (·.dst)) S0 (ops.take m) 0 [] [] fun ancs R=>
   match Qhf S0 ancs R&&(List.range m).all (fun j=>(List.range m).all fun i=>Qdt (QeS G j) i==ZZ (nth ancs j) i)&&QyI cs pr ro (fun i j=>Qdt (QeS G i) j) S0 R (Ze S.blks ids) ops m with
   |true=>stK (St.addB (stOf S0 R fun _=>true) (hid cs pr ro (Ze S.blks ids) (fun _=>true) m)) fun I=>QeN P tb ops (ops.drop m) I fun S=>S.noGds K
   | false => Stuck "drawn region what is made is named too early"
 | false => Stuck "drawn region its end is not forced"
theorem Qsc (hT:TOk P tb) (hmx:P.follows .mixedOrders=true) {id:Nat} {opsA:Array Oper} {S:St} {K:St->Prop} (cs:Nat->Option CS) (pr:Nat->List (Nat×Blk)) (ro:Nat->List Nat) (mks:List (List Bool)) (m:Nat) (ls ids:List Nat) (hml:m<=opsA.size)
  (hec:Qq3 opsA.toList cs m=true) (hfa:Qi7 m ls opsA.toList) (hdc:QjE opsA.toList cs m=true) (hch:Qe6 P cs pr ro (Ze S.blks ids) mks m)
  (hls:∀i∈ls,∃t s k,Light opsA i t s k∧∀j o,opsA[j]? =some o->j≠i->i∈Zl o.after.toList∨(∃oi,opsA[i]? =some oi∧j∈Zl oi.after.toList)∨Comm opsA t s o)
  (h:Qp9 P tb cs pr ro mks m ids opsA.toList S K):DrawP P id opsA S K:=by
 refine⟨fun B w0 F ρ a w hs=>?_⟩;unfold Qp9 at h;split at h
 case h_2=>exact h.no.elim
 rename_i hfe;rw[QfS] at h;obtain⟨A,R,h1,h2,_,_,h5,h6⟩:=Qk7 _ 0 _ _ _ rfl rfl h;split at h5
 case h_2=>exact h5.no.elim
 rename_i hchk;simp only[Y4] at hchk;obtain⟨⟨hchk,hmk⟩,hg⟩:=hchk;rw[QfS] at h5;generalize hT0:Ze S.blks ids=T0 at*;have hS0:S0h ((opsA.toList.take m).map (·.dst)) ids S=QpW ((opsA.toList.take m).map (·.dst)) ⟨S.base,S.nt,S.tmps,S.gds,QcS ids S.blks,S.frames⟩:=by
  obtain⟨base,nt,ts,gs,bs,fs⟩:=S;rfl
 rw[hS0] at h5 h6 hchk hg;have W:=QoA (by simpa using h2) (by simpa using hml) h6 hfe hchk;generalize hs0:QpW ((opsA.toList.take m).map (·.dst)) (⟨S.base,S.nt,S.tmps,S.gds,QcS ids S.blks,S.frames⟩:St)=S0 at*
 --what was checked
 have hmk:∀ {j i:Nat},j<m->i<m->(Qdt (QeS mks j) i=true↔i∈nth A j):=fun {j i} hj hi=>by
  have:=Yb.1 (Yb.1 hmk j (by simpa using hj)) i (by simpa using hi);rw[X4.1 this];exact ZO
 simp only[QyI,Y4] at hg;obtain⟨hv0,hone,hdst⟩:=hg;have hone:∀ {j:Nat},j<m->Qil (cs j)=true->QdL S0 R (pr j)=true∧QdL S0 R (Qc5 cs j)=true∧(∀i,i<j->Qil (cs i)=true->i∈nth A j∨QmR cs pr ro i j=true)∧
   ∀id,hasB (Qc5 cs j) id=true->hasB (pr j) id=false->QmQ cs pr (fun i j=>Qdt (QeS mks i) j) S0 R T0 m j id=true:=fun {j} hj hf=>by
  have:=Yb.1 hone j (by simpa using hj);simp only[QAf,hf,Y4] at this;obtain⟨k1,k2,k3,k4⟩:=this;refine⟨k1,k2,fun i hi hfi=>?_,fun id h1 h2=>?_⟩
  ·have:=Yb.1 k3 i (by simpa using hi);rw[hfi] at this;simp only[YJ] at this;exact this.imp (fun h=>(hmk hj (by omega)).1 h) fun h=>h
  ·have:=Yb.1 k4 id (by obtain⟨b,hb⟩:=QeQ h1;exact Qd7 (Zd hb));rw[h2,YL] at this;exact this
 have hsym:∀ {i j:Nat},i<m->j<m->i≠j->Qil (cs i)=true->Qil (cs j)=true->i∈nth A j∨j∈nth A i∨QmR cs pr ro i j=true:=fun {i j} hi hj hne hfi hfj=>by
  rcases Nat.lt_or_gt_of_ne hne with hlt|hgt
  ·exact((hone hj hfj).2.2.1 i hlt hfi).imp (fun h=>h) fun h=>.inr h
  ·rcases(hone hi hfi).2.2.1 j hgt hfj with h|h
   ·exact .inr (.inl h)
   ·refine .inr (.inr ?_);simp only[QmR,Y4] at h|-;exact⟨h.2,h.1⟩
 have hidsR:∀ {j id:Nat},Qjc cs pr j id=true->id∈QdP (pr j)++QdP (Qc5 cs j):=fun {j id} h=>by
  simp only[Qjc,Y4,YJ] at h;rcases h.2 with h|h
  ·exact Y03 _ (ZO.1 (by rw[QcT];exact h))
  ·exact XX _ (ZO.1 (by rw[QcT];exact h))
 have hapart:∀ {i j id:Nat},QmR cs pr ro i j=true->(Qoh cs pr ro i id=true->Qjc cs pr j id=false)∧(Qoh cs pr ro j id=true->Qjc cs pr i id=false):=fun {i j id} h=>by
  simp only[QmR,Y4] at h
  constructor
  ·intro hw;simp only[Qoh,Y4,YF] at hw;have:=Yb.1 h.1 id (hidsR hw.1);rw[hw.2,YL] at this;simpa using this
  ·intro hw;simp only[Qoh,Y4,YF] at hw;have:=Yb.1 h.2 id (hidsR hw.1);rw[hw.2,YL] at this;simpa using this
 have htEf:∀ {j id:Nat},Qjc cs pr j id=true->Qil (cs j)=true:=fun {j id} h=>by
  simp only[Qjc,Y4] at h;exact h.1
 have htWR:∀ {j id:Nat},Qoh cs pr ro j id=true->Qjc cs pr j id=true:=fun {j id} h=>by
  simp only[Qoh,Y4] at h;exact h.1
 have hidOk:∀E:Nat->Bool,QdL S0 R (hid cs pr ro T0 E m)=true:=fun E=>by
  have a0:=QhL hv0;refine Qq5 (fun i b hb=>?_) fun r hr p hp=>QE.2 fun q hq=>?_
  ·rcases Qlm hb with h|⟨k,hk,_,hf,h⟩
   ·exact a0.1 i b h
   ·exact(QhL (hone hk hf).2.1).1 i b h
  ·rcases Qlm hq with h|⟨k,hk,_,hf,h⟩
   ·exact QE.1 (a0.2 r hr p hp) q h
   ·exact QE.1 ((QhL (hone hk hf).2.1).2 r hr p hp) q h
 have hdrew:Pure w {w with drawn:=w.drawn+1}:=⟨rfl,rfl,rfl,Yi _,fun _ _=>rfl⟩;have hE0:(fun i=>(Array.replicate opsA.size false).getD i false)=fun _=>false:=by
  funext i;rw[Y6,Array.getElem?_replicate];split<;>rfl
 have hhid0:hid cs pr ro T0 (fun _=>false) m=T0:=by
  have key:∀n,hid cs pr ro T0 (fun _=>false) n=T0:=fun n=>by
   induction n with
   |zero=>rfl
   |succ n ih=>simp only[hid,YM];exact ih
  exact key m
 have hst0:stOf (S0.addB T0) R (fun _=>false)=S0.addB T0:=by
  have hg:(S0.addB T0).gds=[]:=by rw[<-hs0];rfl
  generalize S0.addB T0=S1 at hg;obtain⟨base,nt,ts,gs,bs,fs⟩:=S1;dsimp only at hg;subst hg;obtain⟨g1,g2,g3⟩:=Qi4 (E:=fun _=>false) (R:=R) (i0:=0) (fun _ _=>rfl);unfold stOf;rw[g1,g2,g3];rfl
 have hsim0:Sim P B w0 F ρ (stOf (S0.addB T0) R fun _=>false) a {w with drawn:=w.drawn+1}:=by
  rw[hst0,<-hs0,<-hT0];have:=hs.pure hdrew;obtain⟨base,nt,ts,gs,bs,fs⟩:=S;refine this.congr (fun t v hv=>QgW hv) (fun g hg=>by simp at hg) (fun i b=>?_);show Qi (QcS ids bs++Ze bs ids) i=some b↔_;rw[Qh,Qca,Qiu];split<;>simp
 refine wp_mono (Q:=fun e a' w'=>∃ρ' S',Sim P B w0 F ρ' S' a' w'∧e=.normal∧S'.noGds K) (wp_region_any hmx ?_) (fun e a' w' h=>by
  obtain⟨ρ',S',g1,g2,g3⟩:=h;obtain⟨S'',g4,g5⟩:=Qeq g1 g3;exact⟨ρ',S'',g4,g2,g5⟩)
 have hun:unl (Array.replicate opsA.size false)=opsA.size:=by
  simp[unl,List.countP_replicate]
 refine Qwr W hfa hfe (fun e a w ⟨_,S',_,h⟩=>h.1) (fun E a w=>∃ρ,Sim P B w0 F ρ (stOf (S0.addB (hid cs pr ro T0 E m)) R E) a w) hls ?_ ?_
  opsA.size (Array.replicate opsA.size false) (by simp) hun (fun i hi=>by rw[congrFun hE0 i] at hi;cases hi) (by rw[hE0];exact fun i _ hi=>by cases hi) a {w with drawn:=w.drawn+1}
  ⟨ρ,by rw[hE0,hhid0];exact hsim0⟩
 ·rintro E j o hc hj hjE ho hr a w ⟨ρ,h⟩ next hn;have hin:=W.ancIn hc hj ho hr
  by_cases hjf:Qil (cs j)=true
  ·obtain⟨v1,v2,_,v4⟩:=hone hj hjf;obtain⟨pk,pkr⟩:=Qp8 hch hj hjf
   --those that come later know nothing of what this one touches
   have later:∀ {i id:Nat},i<m->i≠j->E i=true->Qoh cs pr ro i id=true->Qjc cs pr j id=true->i<j∧i∈nth A j:=fun {i id} hi hne hEi hw hr'=>by
    rcases hsym hi hj hne (htEf (htWR hw)) hjf with h|h|h
    ·exact⟨W.ancLt (j+1) j (by omega) hj i h,h⟩
    ·have:=hc i hi hEi j h;rw[hjE] at this;cases this
    ·have:=(hapart (id:=id) h).1 hw;rw[hr'] at this;cases this
   have atj:∀ {id:Nat},Qjc cs pr j id=true->Qi (hid cs pr ro T0 E m) id=Qi (hid cs pr ro T0 (fun i=>Qdt (QeS mks j) i) j) id:=fun {id} ht=>by
    obtain⟨d,hd⟩:=Nat.exists_eq_add_of_le (Nat.le_of_lt hj);rw[hd,Qll fun i h1 h2 h3=>?_,Qiv fun i h1 h2=>?_]
    ·rcases hsym (by omega) hj (by omega) (htEf (htWR h2)) hjf with h|h|h
     ·rw[hin i h,(hmk hj (by omega)).2 h]
     ·have:=W.ancLt (i+1) i (by omega) (by omega) j h;omega
     ·have:=(hapart (id:=id) h).1 h2;rw[ht] at this;cases this
    ·cases hw:Qoh cs pr ro i id
     ·rfl
     ·have hne:i≠j:=fun e=>by subst e;rw[hjE] at h3;cases h3
      have:=(later (by omega) hne h3 hw ht).1;omega
   have lookpr:∀ {id:Nat},hasB (pr j) id=true->Qi (hid cs pr ro T0 E m) id=Qi (pr j) id:=fun {id} hb=>by
    rw[atj (by simp only[Qjc,hjf,hb,XU,Y0u])];have:=congrArg (fun T=>Qi T id) pk;simp only[Qiu,QcT,hb,YG] at this;exact this
   have fresh:∀ {id:Nat},QmQ cs pr (fun i j=>Qdt (QeS mks i) j) S0 R T0 m j id=true->S0.mentions id=false∧Q4 id (pr j)=false∧Q4 id (hid cs pr ro T0 E m)=false∧
     ∀i q,R[i]? =some q->i≠j->j∉nth A i->q.v.mentions id=false∧∀x∈q.nb,x.1≠id∧x.2.mentions id=false:=fun {id} hf=>by
    simp only[QmQ,Y4,YF] at hf;obtain⟨f1,f2,f3,f4,f5⟩:=hf;have nb:∀ {i:Nat},i≠j->Nat.beq i j=false:=fun {i} h=>by
     cases hb:Nat.beq i j
     ·rfl
     ·exact absurd (Y5 hb) h
    refine⟨f1,f3,QE.2 fun p hp=>?_,fun i q hi hne hnot=>?_⟩
    ·rcases Qlm hp with h|⟨k,hk,hEk,hfk,h⟩
     ·exact QE.1 f2 p h
     ·have hne:k≠j:=fun e=>by subst e;rw[hjE] at hEk;cases hEk
      have hnm:Qdt (QeS mks k) j=false:=by
       cases hb:Qdt (QeS mks k) j
       ·rfl
       ·have:=hc k hk hEk j ((hmk hk hj).1 hb);rw[hjE] at this;cases this
      have:=Yb.1 f4 k (by simpa using hk);rw[nb hne,hnm,hfk] at this;simp only[Y09,YL,YF] at this;exact QE.1 this p h
    ·have hi':i<m:=by rw[<-W.hm];exact(Y8.1 hi).1
     have hnm:Qdt (QeS mks i) j=false:=by
      cases hb:Qdt (QeS mks i) j
      ·rfl
      ·exact absurd ((hmk hi' hj).1 hb) hnot
     have:=QaA f5 i q hi;rw[Yg,nb hne,hnm] at this;simp only[YL,Y4,YF] at this;refine⟨this.1,fun x hx=>?_⟩;have:=Yb.1 this.2 x hx;simp only[Y4,YF] at this;exact⟨fun e=>by rw[e] at this;simp at this,this.2⟩
   have none_of:∀ {id:Nat} {T:List (Nat×Blk)},Q4 id T=false->Qi T id=none:=fun {id T} hm=>by
    cases hl:Qi T id with
    |none=>rfl
    |some b=>exact absurd rfl (QE.1 hm _ (Zd hl)).1
   have looknew:∀ {id:Nat},hasB (Qc5 cs j) id=true->hasB (pr j) id=false->Qi (hid cs pr ro T0 E m) id=none:=fun {id} h1 h2=>none_of (fresh (v4 id h1 h2)).2.2.1
   --the others
   generalize hrest:QcS (QdP (pr j)++QdP (Qc5 cs j)) (hid cs pr ro T0 E m)=rest;have lookrest:∀id,Qi rest id=if Qjc cs pr j id=true then none else Qi (hid cs pr ro T0 E m) id:=fun id=>by
    rw[<-hrest,Qca];have:ZZ (QdP (pr j)++QdP (Qc5 cs j)) id=Qjc cs pr j id:=by
     rw[YE,ZO];refine⟨fun h=>?_,hidsR⟩;simp only[Qjc,hjf,Yq,YJ];exact(Yo.1 h).imp (fun h=>by rw[<-QcT];exact ZO.2 h) fun h=>by rw[<-QcT];exact ZO.2 h
    rw[this]
   have memrest:∀p∈rest,p∈hid cs pr ro T0 E m:=fun p hp=>by rw[<-hrest] at hp;exact Qe5 hp
   have hvr:=QhL (hidOk E);have hresT:∀r∈R,∀p∈r.nb,Q4 p.1 rest=false:=fun r hr p hp=>QE.2 fun q hq=>QE.1 (hvr.2 r hr p hp) q (memrest q hq);have W':=W.more hresT;have hadd:∀T,(S0.addB rest).addB T=S0.addB (rest++T):=fun T=>by
    obtain⟨base,nt,ts,gs,bs,fs⟩:=S0;simp only[St.addB,Xu]
   have hblr:(S0.addB rest).blks=S0.blks++rest:=by obtain⟨base,nt,ts,gs,bs,fs⟩:=S0;rfl
   have vok:∀T,QdL S0 R T=true->(∀i b,(i,b)∈T->Qjc cs pr j i=true)->QdL (S0.addB rest) R T=true:=fun T hT ht=>by
    have k:=QhL hT;refine Qq5 (fun i b hb=>?_) k.2;have h1:=k.1 i b hb;have h2:=lookrest i;rw[ht i b hb,Y2 rfl] at h2;unfold hasB at h1|-;rw[hblr,Qh,h2];simpa using h1
   have hvp:=vok _ v1 fun i b hb=>by
    have:=QoS (QdF hb).choose_spec;simp only[Qjc,hjf,this,XU,Y0u]
   have hvq:=vok _ v2 fun i b hb=>by
    have:=QoS (QdF hb).choose_spec;simp only[Qjc,hjf,this,Y0q,Y0u]
   have e1:∀id,Qi (rest++pr j) id=Qi (hid cs pr ro T0 E m) id:=fun id=>by
    rw[Qh,lookrest]
    cases ht:Qjc cs pr j id
    ·simp only[Yu,X6];have:hasB (pr j) id=false:=by
      simp only[Qjc,hjf,Yq,XD] at ht;exact ht.1
     rw[QgC this];simp
    ·simp only[YG,Xp]
     cases hp:hasB (pr j) id
     ·rw[QgC hp];simp only[Qjc,hjf,Yq,hp,YL] at ht;exact(looknew ht hp).symm
     ·exact(lookpr hp).symm
   have e2:∀id,Qi (rest++Qc5 cs j) id=Qi (hid cs pr ro T0 (QfT E j) m) id:=fun id=>by
    rw[Qh,lookrest];have hne:∀ {i:Nat},i≠j->QfT E j i=E i:=fun {i} h=>by
     simp only[QfT]
     cases hb:Nat.beq i j
     ·simp
     ·exact absurd (Y5 hb) h
    cases ht:Qjc cs pr j id
    ·simp only[Yu,X6];have:hasB (Qc5 cs j) id=false:=by
      simp only[Qjc,hjf,Yq,XD] at ht;exact ht.2
     rw[QgC this,Option.or_none];refine Qiv fun i hi hw=>?_
     by_cases e:i=j
     ·subst e;rw[htWR hw] at ht;cases ht
     ·rw[hne e]
    ·simp only[YG,Xp]
     cases hw:Qoh cs pr ro j id
     ·have hro:ZZ (ro j) id=true:=by
       simp only[Qoh,ht,Yq,Bool.not_eq_false'] at hw;exact hw
      have h1:Qi (hid cs pr ro T0 (QfT E j) m) id=Qi (hid cs pr ro T0 E m) id:=Qiv fun i hi hw'=>by
       by_cases e:i=j
       ·subst e;rw[hw'] at hw;cases hw
       ·rw[hne e]
      rw[h1];have h2:=congrArg (fun T=>Qi T id) pkr;simp only[Qiu,hro,YG] at h2;rw[h2]
      cases hp:hasB (pr j) id
      ·simp only[Qjc,hjf,Yq,hp,YL] at ht;rw[QgC hp,looknew ht hp]
      ·exact(lookpr hp).symm
     ·obtain⟨d,hd⟩:=Nat.exists_eq_add_of_le (show j+1<=m from hj);rw[hd,Qll fun i h1 h2 h3=>?_,Qzc (by rw[QaS];exact .inr rfl) hw]
      cases hwi:Qoh cs pr ro i id
      ·rfl
      ·have hne':i≠j:=by omega
       rw[hne hne'] at h3;have:=(later (by omega) hne' h3 hwi ht).1;omega
   have hsim:Sim P B w0 F ρ (stOf ((S0.addB rest).addB (pr j)) R E) a w:=by
    rw[hadd,QdG];rw[QdG] at h;exact h.congr (fun _ _ h=>h) (fun _ h=>h) fun i b=>by rw[Qh,Qh S0.blks,e1,Qh (JN E 0 R),Qh S0.blks]
   have hnext:∀ρ' a' w',Sim P B w0 F ρ' (stOf ((S0.addB rest).addB (Qc5 cs j)) R (QfT E j)) a' w'->next a' w':=fun ρ' a' w' h'=>by
    refine hn a' w' ⟨ρ',?_⟩;rw[hadd,QdG] at h';rw[QdG];exact h'.congr (fun _ _ h=>h) (fun _ h=>h) fun i b=>by rw[Qh (JN (QfT E j) 0 R),Qh S0.blks,<-e2,Qh (JN (QfT E j) 0 R),Qh S0.blks]
   have hment:∀ {id:Nat},QmQ cs pr (fun i j=>Qdt (QeS mks i) j) S0 R T0 m j id=true->(S0.addB rest).mentions id=false∧Q4 id (pr j)=false∧∀i q,R[i]? =some q->i≠j->j∉nth A i->q.v.mentions id=false∧∀x∈q.nb,x.1≠id∧x.2.mentions id=false:=fun {id} hf=>by
    obtain⟨f1,f2,f3,f4⟩:=fresh hf;refine⟨?_,f2,f4⟩;obtain⟨m1,m2,m3,m4⟩:=St.mentions_parts f1;obtain⟨base,nt,ts,gs,bs,fs⟩:=S0;refine St.mentions_mk m1 m2 (QE.2 fun p hp=>?_) m4;rcases Yo.1 hp with hp|hp
    ·exact QE.1 m3 p hp
    ·exact QE.1 f3 p (memrest p hp)
   have hcg:=Qjd hch hj;rcases Qtt hjf with ⟨res,nb,post,p,q,hh⟩|⟨pre,res,post,hh⟩
   ·rw[hh] at hcg;obtain⟨hp,hq,_⟩:=hcg;have hpst:Qc5 cs j=post:=by simp only[Qc5,hh]
    rw[hpst] at hvq hnext v4;refine QnG W' rfl hvp hvq hc hj hjE ho hh hp hq (fun id k1 k2=>?_) (Qlf hdc hj ho (by rw[hh];rfl)) hr hsim hnext _ (Qty hec hj (by rw[hh];rfl) ho);obtain⟨f1,f2,f3⟩:=hment (v4 id k1 k2);have W2:=W'.more (QhL hvp).2;refine Qtw W2 hc hjE ?_ f3;obtain⟨m1,m2,m3,m4⟩:=St.mentions_parts f1;generalize S0.addB rest=S9 at m1 m2 m3 m4;obtain⟨base,nt,ts,gs,bs,fs⟩:=S9;refine St.mentions_mk m1 m2 (QE.2 fun p hp=>?_) m4;rcases Yo.1 hp with hp|hp
    ·exact QE.1 m3 p hp
    ·exact QE.1 f2 p hp
   ·rw[hh] at hcg;obtain⟨rfl,_⟩:=hcg;have hpst:Qc5 cs j=post:=by simp only[Qc5,hh]
    rw[hpst] at hvq hnext;refine QnH hT W' rfl hvp hvq hc hj hjE ho hh (fun t ht hhp=>?_) hr hsim hnext _;obtain⟨r,hr1,_,hrd,_⟩:=W.facts j o hj ho;have:=QaA hdst j r hr1;have hap:Qgu (cs j)=true:=by rw[hh];rfl
    rw[Yg,hap,ho,hrd,ht] at this;dsimp only at this;rw[hhp,YL] at this;have hb:(S0.addB rest).base=S0.base:=by obtain⟨base,nt,ts,gs,bs,fs⟩:=S0;rfl
    rw[hb];exact hment this
  ·have hjf':Qil (cs j)=false:=by cases hx:Qil (cs j)<;>simp_all
   refine QoC hT (W.more (QhL (hidOk E)).2) rfl hc hj hjE ho hjf' (Qlf hdc hj ho (QqT hjf')) hr h (fun ρ' a' w' h'=>hn a' w' ⟨ρ',?_⟩) _;have:hid cs pr ro T0 (QfT E j) m=hid cs pr ro T0 E m:=Qxp fun i hi hf=>by
    have:i≠j:=fun e=>hjf (e▸hf);rw[YE,QaS];simp[this]
   rw[this];exact h'
 ·rintro E a w hall ⟨ρ,h⟩;rw[QmB (E':=fun _=>true) (fun i hi=>hall i (by rw[<-W.hm];exact hi)),Qxp (E':=fun _=>true) (fun i hi _=>hall i hi),QjH] at h;refine Qft hT opsA (fun e S'=>e=.normal∧S'.noGds K) F _ (opsA.toList.drop m) (by simp) (fun i k hk=>?_) _ ρ a w h (by simpa using h5);rw[Y8] at hk;obtain⟨_,hk⟩:=hk;simp at hk;subst hk;simp
noncomputable def Qqa (P:Program) (tb:Tb) (cs:Nat->Option CS) (pr:Nat->List (Nat×Blk)) (ro:Nat->List Nat) (m:Nat) (G:List (List Bool)) (ids:List Nat) (ops:List Oper) (S:St) (K:St->Prop):Prop:=
 stK (S0h ((ops.take m).map (·.dst)) ids S) fun S0=>Qxa P tb cs ops S0 (ops.take m) G 0 [] fun R=>
   (QeO S0 G R&&QyI cs pr ro (fun i j=>Qdt (QeS G i) j) S0 R (Ze S.blks ids) ops m)=true∧
   stK (St.addB (stM S0 R (List.replicate m true)) (hid cs pr ro (Ze S.blks ids) (fun _=>true) m)) fun I=>QeN P tb ops (ops.drop m) I fun S=>S.noGds K
theorem Qxq (hT:TOk P tb) (a4:P.follows .mixedOrders=true) {id:Nat} {G:Array Oper} {S:St} {K:St->Prop} (cs:Nat->Option CS) (pr:Nat->List (Nat×Blk)) (ro:Nat->List Nat) (m:Nat) (ls:List Nat) (I a3:List (List Bool)) (ids:List Nat) (a6:m<=G.size)
  (J:(Qq3 G.toList cs m&&QjE G.toList cs m)=true) (a5:Qe6 P cs pr ro (Ze S.blks ids) I m) (O:QhH m ls G.toList I a3=true) (h:Qqa P tb cs pr ro m I ids G.toList S K):DrawP P id G S K:=by
 simp only[QhH,Y4] at O;have⟨⟨a7,b2,b3,he,a8⟩,hl,b4,hd⟩:=O;simp only[Y4] at J;refine Qsc hT a4 cs pr ro I m ls ids a6 J.1 (QmH a7 b2 (Y5 b3)) J.2 a5 (fun i hi=>QmF (Yb.1 a8 i hi)) ?_;have hl:=Y5 hl;have⟨hs,hA⟩:=Qi6 (G.toList.take m) I [] [] 0 b4 rfl rfl (fun i k=>rfl);unfold Qp9;simp only[he];unfold Qqa at h;rw[QfS] at h|-;have Y:(G.toList.take m).length=m:=by simp;omega
 have a1:∀i k,Qdt (QeS I i) k=ZZ (nth (JS (G.toList.take m) []) i) k:=fun i k=>by
  have:=hA i k;rwa[YA,Y,XI (by omega)] at this
 have U:∀S0 R,QeO S0 I R=Qio S0 (JS (G.toList.take m) []) R:=fun S0 R=>by
  simp only[QeO,Qio,a1]
 have a9:(List.range m).all (fun j=>(List.range m).all fun i=>Qdt (QeS I j) i==ZZ (nth (JS (G.toList.take m) []) j) i)=true:=
  Yb.2 fun j _=>Yb.2 fun i _=>by rw[a1];simp
 have key:=Qp0 (P:=P) (tb:=tb) (cs:=cs) (ops:=G.toList) (dsts:=(G.toList.take m).map (·.dst)) (S0:=S0h ((G.toList.take m).map (·.dst)) ids S)
  (K:=fun A R=>match Qhf (S0h ((G.toList.take m).map (·.dst)) ids S) A R&&(List.range m).all (fun j=>(List.range m).all fun i=>Qdt (QeS I j) i==ZZ (nth A j) i)&&QyI cs pr ro (fun i j=>Qdt (QeS I i) j) (S0h ((G.toList.take m).map (·.dst)) ids S) R (Ze S.blks ids) G.toList m with
   |true=>stK (St.addB (stOf (S0h ((G.toList.take m).map (·.dst)) ids S) R fun _=>true) (hid cs pr ro (Ze S.blks ids) (fun _=>true) m)) fun S1=>QeN P tb G.toList (G.toList.drop m) S1 fun S=>S.noGds K
   | false => Stuck "drawn region what is made is named too early")
  (K':=fun R=>(QeO (S0h ((G.toList.take m).map (·.dst)) ids S) I R&&QyI cs pr ro (fun i j=>Qdt (QeS I i) j) (S0h ((G.toList.take m).map (·.dst)) ids S) R (Ze S.blks ids) G.toList m)=true∧
   stK (St.addB (stM (S0h ((G.toList.take m).map (·.dst)) ids S) R (List.replicate m true)) (hid cs pr ro (Ze S.blks ids) (fun _=>true) m)) fun S1=>QeN P tb G.toList (G.toList.drop m) S1 fun S=>S.noGds K) (D:=(G.toList.take m).map (·.dst)) (G.toList.take m) I 0 [] [] hs rfl (by simp) (fun R' a2=>by
    rw[U,a9,Xj,<-QoE a2 hd,Qtd (E:=fun _=>true) fun i hi=>Qny ?_]
    ·cases (Qio (S0h ((G.toList.take m).map (·.dst)) ids S) (JS (G.toList.take m) []) R'&&QyI cs pr ro (fun i j=>Qdt (QeS I i) j) (S0h ((G.toList.take m).map (·.dst)) ids S) R' (Ze S.blks ids) G.toList m)
     ·exact propext ⟨fun h=>Bool.noConfusion h.1,fun h=>(Stuck.no h).elim⟩
     ·exact propext ⟨fun h=>h.2,fun h=>⟨rfl,h⟩⟩
    ·have:=congrArg List.length a2;simp at this;omega)
 exact Eq.mp key h
theorem Qsd {G:List (List Bool)}:Qe6 P cs pr ro T0 G 0:=trivial
theorem Qqb {G:List (List Bool)} (h:Qil (cs m)=false) (k:Qe6 P cs pr ro T0 G m):Qe6 P cs pr ro T0 G (m+1):=by
 refine⟨?_,k⟩;split
 ·rename_i h1;rw[h1] at h;cases h
 ·rename_i h1;rw[h1] at h;cases h
 ·trivial
theorem Qse {G:List (List Bool)} {pre post:List (Nat×Blk)} {res:V} (h:cs m=some (.app pre res post)) (h1:pre=pr m) (h2:Ze (hid cs pr ro T0 (fun i=>Qdt (QeS G m) i) m) (QdP (pr m))=pr m) (h3:Ze post (ro m)=Ze (pr m) (ro m))
  (k:Qe6 P cs pr ro T0 G m):Qe6 P cs pr ro T0 G (m+1):=by
 refine⟨?_,k⟩;rw[h];exact⟨h1,h2,h3⟩
theorem Qsf {G:List (List Bool)} {res:V} {nb post:List (Nat×Blk)} {p:FuncId->List V->Prop} {q:Prop} (h:cs m=some (.eff res nb post p q)) (h1:∀g vs,p g vs->EffD P (pr m) g vs res nb post) (h2:q->LeB (pr m) post)
  (h3:Ze (hid cs pr ro T0 (fun i=>Qdt (QeS G m) i) m) (QdP (pr m))=pr m) (h4:Ze post (ro m)=Ze (pr m) (ro m)) (k:Qe6 P cs pr ro T0 G m):Qe6 P cs pr ro T0 G (m+1):=by
 refine⟨?_,k⟩;rw[h];exact⟨h1,h2,h3,h4⟩
end Go.Ab
namespace Go.Ab
open Go.RowKit
variable {P:Program} {tb:Tb} {w:World} {ow:Nat→Prop} {ρ:Env} {a:Act} {B:Bd} {w0:World} {F:List (Array Value)} {S:St}
def Qqc:List Nat->List V->St->(List V->St->Prop)->Prop
 |[],vs,S,K=>K vs S
 |id::r,vs,⟨base,nt,ts,gs,bs,fs⟩,K=>match Qw5 (Qi bs id) with
  |some row=>Qaq (QsJ id row vs) fun vs=>QeW (QyF id row ts) fun ts=>QfR (QyG id row gs) fun gs=>Qay (QsK id row bs) fun bs=>Qid (QyH id row fs) fun fs=>Qqc r vs ⟨base,nt,ts,gs,bs,fs⟩ K
  | none => Stuck "freeze no such row"
theorem Zp {f:FuncId} {K:V->St->Prop}:∀(l:List Nat) {vs:List V} {S:St},Qqc l vs S (fun vs S=>CallP P f vs S K)->CallP P f vs S K
 |[],_,_,h=>h
 |id::r,vs,⟨base,nt,ts,gs,bs,fs⟩,h=>by
  simp only[Qqc] at h;split at h
  ·rename_i row hb;rw[Za,QbX,QcN,ZV,Qej] at h;have h1:=Zp r h;refine⟨h1.can,fun B w0 F ρ a w vals hs hv=>?_⟩;have⟨I,J⟩:=hs.frz hb;refine h1.out B w0 F ρ a w vals I ⟨by rw[Qbx];exact hv.1,fun j v hj=>?_⟩;rw[QgP] at hj;obtain⟨v',G,rfl⟩:=Yc.1 hj;exact J _ _ (hv.2 j v' G)
  ·exact h.no.elim
def Qvj:List Nat->St->(St->Prop)->Prop
 |[],S,K=>K S
 |id::r,⟨base,nt,ts,gs,bs,fs⟩,K=>match Qw5 (Qi bs id) with
  |some row=>QeW (QyF id row ts) fun ts=>QfR (QyG id row gs) fun gs=>Qay (QsK id row bs) fun bs=>Qid (QyH id row fs) fun fs=>Qvj r ⟨base,nt,ts,gs,bs,fs⟩ K
  | none => Stuck "freeze no such row"
theorem Qqd {L:List (Nat×Blk)} (h:Sim P B w0 F ρ S a w) (J:∀i b,Qi L i=some b->∃c,Qi S.blks i=some c∧BLe c b):Sim P B w0 F ρ ⟨S.base,S.nt,S.tmps,S.gds,L,S.frames⟩ a w:=by
 have O:∀b,own L ρ b->own S.blks ρ b:=by
  rintro b ⟨i,k,hk,hp,rfl⟩;have⟨c,hc,_⟩:=J i k hk;exact⟨i,c,hc,hp,rfl⟩
 have keep:Keep w (ZL B S.blks ρ) w (ZL B L ρ):=⟨Yi _,fun b _ ho=>⟨rfl,fun h=>ho (h.imp (O b) fun h=>h)⟩⟩;refine⟨h.below,h.tab,h.hB,h.defers,h.nt,h.top.keep keep fun _ _=>rfl,fun id b a3=>?_,fun i j x y hx hy=>?_,fun i x hx=>?_,h.frames.1,fun i f' tm a1 a2=>(h.frames.2 i f' tm a1 a2).keep keep fun _ _=>rfl⟩
 ·have⟨c,hc,G⟩:=J id b a3;have:=G.out _ _ _ _ (h.blks id c hc);exact this.keep keep rfl (fun _=>rfl) fun _ _=>rfl
 ·have⟨U,I,_⟩:=J i x hx;have⟨y',Y,_⟩:=J j y hy;exact h.sep i j U y' I Y
 ·have⟨U,I,G⟩:=J i x hx;rw[G.bx];exact h.ge i U I
theorem QsQ {base nt:Nat} {ts:List (Nat×V)} {gs:List Gd} {blks:List (Nat×Blk)} {fs:List Fr} {al l:List (Nat×Bool)} {key:Nat} {want:Bool} {f:FuncId} {fn:Func} {args args':List V} {bs M:List (Nat×Blk)} {res:V} {K:V->St->Prop} {S0:St}
  (r : List (Nat × Nat)) (k : Nat) (J : P.funcs[f]? = some fn) (I : (fn.name == "runtime.NumGoroutine") = false) (hb : fn.body.isNone = false) (h : Qaz S0 al l (EffC P f args' bs res M))
  (U:CellsLe args (QjF (Qbk r k) args')) (hi:inB blks (Qbk r k) bs) (ha:QcR (Qbk r k) (QdP bs++Jx bs M)=true) (hm:(Jx bs M).all (fun j=>!(St.mentions ⟨base,nt,ts,gs,blks,fs⟩ (Qbk r k j)))=true)
  (O:Qev S0 key want (LeB blks (Qlj (Qbk r k) bs M (QpB (Qbk r k) M blks bs) M)))
  (hk:Qal (res.ren (Qbk r k)) fun v=>Qay (Qlj (Qbk r k) bs M (QpB (Qbk r k) M blks bs) M) fun bs=>K v ⟨base,nt,ts,gs,bs,fs⟩):
  CallG P (Qaz S0 al l) (Qev S0 key want) f args ⟨base,nt,ts,gs,blks,fs⟩ K:=by
 rw[QC,ZV] at hk;have hi:=Qq2 hi;have ha:=QgX ha;have hm:∀j∈Jx bs M,St.mentions ⟨base,nt,ts,gs,blks,fs⟩ (Qbk r k j)=false:=fun j hj=>by simpa using Yb.1 hm j hj
 have mono:∀ {p q:Prop},(p->q)->Qev S0 key want p->Qev S0 key want q:=Qmr;refine⟨⟨fn,J,I,hb⟩,_,_,hk,Qc4 (fun h B w0 F ρ a w vals hs hv=>?_) h,mono (fun G B w0 F ρ a w hs=>⟨ρ,Qqd hs fun i b hb=>Qgt G hb⟩) O⟩;refine Calls.mono (Qto (Qbk r k) h hs hv U hi ha hm _ Qtp) ?_;rintro e w' ⟨v,ρ1,rfl,h1,h2⟩;exact⟨v,ρ1,rfl,h1,h2⟩
noncomputable def QnJ (P:Program) (tb:Tb) (cs:Nat->Option CS) (m:Nat) (G:List (List Bool)) (ops:List Oper) (S:St) (K:St->Prop):Prop:=
 stK (QpW ((ops.take m).map (·.dst)) S) fun S0=>Qxa P tb cs ops S0 (ops.take m) G 0 [] fun R=>
   QeO S0 G R=true∧stK (stM S0 R (List.replicate m true)) fun I=>QeN P tb ops (ops.drop m) I fun S=>S.noGds K
theorem Qsg {cs:Nat->Option CS} {m:Nat} {G:List (List Bool)} {ops:List Oper} {S:St} {K:St->Prop}:QnJ P tb cs m G ops S K=Qnx P tb cs m G ops S K:=by
 unfold QnJ Qnx
 congr 1;funext S0;congr 1;funext R
 cases QeO S0 G R
 ·exact propext ⟨fun h=>Bool.noConfusion h.1,fun h=>(Stuck.no h).elim⟩
 ·exact propext ⟨fun h=>h.2,fun h=>⟨rfl,h⟩⟩
theorem Qzd (hT:TOk P tb) (O:P.follows .mixedOrders=true) {id:Nat} {G:Array Oper} {S:St} {K:St->Prop} (cs:Nat->Option CS) (m:Nat) (ls:List Nat) (I J:List (List Bool)) (U:m<=G.size) (a1:(Qp1 cs m&&QjE G.toList cs m)=true)
  (Y:QhH m ls G.toList I J=true) (h:QnJ P tb cs m I G.toList S K):DrawP P id G S K:=
 Qy8 hT O cs m ls I J U a1 Y (Qsg▸h)
theorem Qvk {pre post:List (Nat×Blk)} {f:FuncId} {args args':List V} {bs M:List (Nat×Blk)} {res G:V} (r:List (Nat×Nat)) (k:Nat) (h:EffC P f args' bs G M)
  (Y:CellsLe args (QjF (Qbk r k) args')) (hi:inB pre (Qbk r k) bs) (ha:QcR (Qbk r k) (QdP bs++Jx bs M)=true) (U:G.ren (Qbk r k)=res)
  (I:Qlj (Qbk r k) bs M [] M++QpB (Qbk r k) M pre bs=post) (O:(QdP (Qlj (Qbk r k) bs M [] M)).all (fun i=>!hasB pre i)=true):EffD P pre f args res [] post:=by
 subst U I;refine⟨h.can,_,_,_,_,Qbk r k,h,Y,hi,ha,rfl,fun i b hb=>?_,fun j hj=>.inr ?_⟩
 ·rw[YA,Qh] at hb
  cases hl:Qi (Qlj (Qbk r k) bs M [] M) i with
  |some b'=>
   rw[hl] at hb;simp at hb;subst hb;rcases Qe4 hl with h1|h1
   ·exact .inl h1
   ·simp[Qi] at h1
  |none=>
   rw[hl] at hb;simp at hb;rcases Qgz hb with h1|⟨h1,h2⟩
   ·exact .inl h1
   ·exact .inr ⟨h1,fun j x J=>h2 j x (Zd J)⟩
 ·have:=Qit (g:=Qbk r k) (bs:=bs) (M:=M) (X:=[]) hj fun i x J=>QdF J;refine⟨?_,?_⟩
  ·have⟨b,hb⟩:=QeQ this;exact Qis (b:=b) (by rw[Qh,hb];rfl)
  ·have h2:=Yb.1 O (Qbk r k j) (by have⟨b,hb⟩:=QeQ this;exact Qd7 (Zd hb));simpa using h2
def QoT (nb:List Nb):List (Nat×Blk):=nb.map fun b=>(b.id,.arr b.t b.sz b.n b.row)
theorem Qiw:∀ {nb:List Nb} {i:Nat} {b:Blk},Qi (QoT nb) i=some b->∃x∈nb,x.id=i∧b=.arr x.t x.sz x.n x.row
 |x::r,i,b,h=>by
  simp only[QoT,YC] at h;rcases QZ h with ⟨e,rfl⟩|⟨_,h⟩
  ·exact⟨x,by simp,e,rfl⟩
  ·have⟨y,h1,h2⟩:=Qiw (nb:=r) h;exact⟨y,Yp _ h1,h2⟩
 |[],_,_,h=>by simp[QoT,Qi] at h
theorem PureC.eff {f:FuncId} {args:List V} {res:V} {nb:List Nb} (h:PureC P f args res nb) (s1:res.within (hasB (QoT nb))=true) (s2:QhK (hasB (QoT nb)) (QoT nb)=true):EffC P f args [] res (QoT nb):=by
 refine⟨h.can,s1,s2,fun Z w vals ρ0 hv _ _ _ hlt ht=>?_⟩;refine Calls.mono (h.out w vals ρ0 ⟨hv.1,fun j v hj=>(hv.2 j v hj).mono fun b hb=>hb.elim⟩ (ht.mono fun _ h=>h.1)) ?_;rintro e w' ⟨v,ρ,rfl,J,g2,g3,g4,g5⟩;refine⟨v,ρ,rfl,⟨⟨J.os,J.tape,J.output,J.size,fun k hk=>J.old k hk.1⟩,fun i x G=>by simp[Qi] at G⟩,fun i x y G=>by simp[Qi] at G,g2.flat h.flat,fun i b hb=>?_,fun i j x y G Y hp hq e=>?_,fun i x G hp=>?_⟩
 ·obtain⟨x,G,rfl,rfl⟩:=Qiw hb;have:=BR.shiftFlat (k:=0) (ρ':=ρ) (w':=w') (ow':=fun x=>own (QoT nb) ρ x∨Z x) (g3 x G) (h.rows x G) rfl rfl;exact this
 ·obtain⟨O,I,rfl,_⟩:=Qiw G;obtain⟨y',U,rfl,_⟩:=Qiw Y;exact g4 O I y' U hp hq e
 ·obtain⟨O,I,rfl,_⟩:=Qiw G;exact⟨.inl (g5 O I hp),fun k ⟨j,y,Y,_⟩=>by simp[Qi] at Y⟩
end Go.Ab
namespace Go.Ab
open Go.RowKit Go.Sort
variable {P:Program} {α:Type} [Inhabited α]
theorem Qix {w:World} {b:Nat} {f:Array Value->Array Value} {C:Array Value} {et:TypeId} {G:Nat×Nat} (h:w.heap[b]? =some (.cells C et G)):(mapBlock w b f).heap[b]? =some (.cells (f C) et G):=by
 simp only[mapBlock,Array.getElem?_modify,YG,h,Xq,onCells]
theorem QhM {w:World} {b k:Nat} {f:Array Value->Array Value} (h:k≠b):(mapBlock w b f).heap[k]? =w.heap[k]?:=by
 simp[mapBlock,Array.getElem?_modify,YU h]
theorem QfD {w:World} {b:Nat} {f:Array Value->Array Value}:(mapBlock w b f).heap.size=w.heap.size:=by
 simp[mapBlock]
theorem QoU {w:World} {ow:Nat->Prop} {ρ:Env} {id:Nat} {t:TypeId} {e1:α->Value} {ed:α->D} (Y:∀w ow x v,DR w ow (ed x) v->v=e1 x) {xs:List α} {b o:Nat} (hb:BR w ow ρ id (.arr t 1 xs.length (rows (fun x=>[ed x]) xs)))
  (hp:(ρ id).ph=false) (O:b=(ρ id).b) (eo:o=(ρ id).o):Holds e1 w b o xs.toArray∧b<w.heap.size∧∃C et,w.heap[b]? =some (.cells C et (0,0))∧o+(ρ id).cap<=C.size∧xs.length<=(ρ id).cap:=by
 subst O eo
 cases hb with
 |arr0 h=>rw[hp] at h;cases h
 |arr C et h1 h2 h3 h4 h5 h6 J U=>
  refine⟨fun j hj=>?_,by have:=(Yr.1 h6).1;exact this,C,et,h6,by simpa using J,h4⟩;have hj:j<xs.length:=by simpa using hj
  have I:=Y _ _ _ _ (U j 0 (ed (xs.getD j default)) hj rfl);have G:(ρ id).o+j<C.size:=by omega
  refine⟨?_,frozen_of_row w _ _ C et h6⟩;rw[Qcc h6 G];have e:(ρ id).o+j*1+0=(ρ id).o+j:=by omega
  rw[e] at I;rw[I];simp[Y1,hj]
theorem Qtz {w:World} {ow ow':Nat->Prop} {ρ ρ':Env} {id id':Nat} {t:TypeId} {e1:α->Value} {ed:α->D} (hd:∀w ow x,DR w ow (ed x) (e1 x)) {xs ys:List α} {full:Array α} {n:Nat} {os:Array Obj}
  (hb:BR w ow ρ id (.arr t 1 xs.length (rows (fun x=>[ed x]) xs))) (hp:(ρ id).ph=false) (hf:full.size=xs.length) (hy:ys.length<=xs.length) (O:∀i,i<ys.length->full[i]! =ys.getD i default)
  (G:ρ' id'={ρ id with n:=ys.length}):BR (grow (putRow e1 (Sort.ahead w n) (ρ id).b (ρ id).o full) os) ow' ρ' id' (.arr t 1 ys.length (rows (fun x=>[ed x]) ys)):=by
 cases hb with
 |arr0 h=>rw[hp] at h;cases h
 |arr C et h1 h2 h3 h4 h5 h6 Y h8=>
  have J:(ρ id).b<w.heap.size:=(Yr.1 h6).1;have hh:(grow (putRow e1 (Sort.ahead w n) (ρ id).b (ρ id).o full) os).heap[(ρ id).b]? =some (.cells (putCells e1 (ρ id).o full C) et (0,0)):=by
   rw[heap_grow_old _ _ (by rw[putRow,QfD];exact J)];exact Qix h6
  have hs:(putCells e1 (ρ id).o full C).size=C.size:=by simp[putCells]
  refine .arr (putCells e1 (ρ id).o full C) et (by rw[G];exact hp) (by rw[G];exact h2) (by rw[G]) (by rw[G];exact Y05 hy h4) (fun i _=>rfl) (by rw[G];exact hh) (by rw[G,hs];exact Y) fun i j d hi I=>?_
  cases j with
  |succ j=>simp at I
  |zero=>
   simp at I;subst I;rw[G];have e:(ρ id).o+i*1+0=(ρ id).o+i:=by omega
   dsimp only;rw[e];have U:(ρ id).o+i<C.size:=by omega
   have:(putCells e1 (ρ id).o full C).getD ((ρ id).o+i) undef=e1 (ys.getD i default):=by
    rw[Y6,putCells,Array.getElem?_mapIdx,Xm U];simp only[Xq,X3];rw[Y2 ⟨by omega,by omega⟩,show(ρ id).o+i-(ρ id).o=i by omega,O i hi]
   rw[this];have:=hd (grow (putRow e1 (Sort.ahead w n) (ρ id).b (ρ id).o full) os) ow' (ys.getD i default);simpa[Y1] using this
theorem Qsh {w:World} {B:Nat->Prop} {e1:α->Value} {b o n:Nat} {d:Array α} {os:Array Obj} (hB:∀k,B k->k<w.heap.size∧k≠b):Kept B w (grow (putRow e1 (Sort.ahead w n) b o d) os):=by
 refine⟨rfl,rfl,rfl,?_,fun k hk=>?_⟩
 ·simp[grow,putRow,QfD,ahead]
 ·have⟨h1,h2⟩:=hB k hk;rw[heap_grow_old _ _ (by rw[putRow,QfD];exact h1)];exact QhM h2
theorem Qvl {w:World} {ow:Nat->Prop} {ρ:Env} {u:V} {vals:Array Value} (h:Qhx w ow ρ [u] vals):∃v,vals=#[v]∧VR w ow ρ u v:=by
 have⟨h1,h2⟩:=h;have h1:vals.size=1:=h1;refine⟨vals.getD 0 undef,?_,h2 0 u rfl⟩
 apply Array.ext
 ·simp[h1]
 ·intro i hi _;have:i=0:=by omega
  subst this;simp[Y6,hi]
theorem Qvm {f:FuncId} {t:TypeId} {e1:α->Value} {ed:α->D} (hd:∀w ow x v,DR w ow (ed x) v↔v=e1 x) {xs ys:List α} (hl:ys.length=xs.length) (can:Callable P f)
  (hc:∀blk off cap w,Holds e1 w blk off xs.toArray->blk<w.heap.size->Calls P f #[.slice (some ⟨blk,off,none⟩) xs.length cap] w fun e w'=>e=.returned (.tuple #[])∧∃n os,w'=grow (putRow e1 (Sort.ahead w n) blk off ys.toArray) os)
  (h0:∀p cap w,Calls P f #[.slice p 0 cap] w fun e w'=>e=.returned (.tuple #[])∧w'=w):
  EffC P f [.osl 9000 0 xs.length] [(9000,.arr t 1 xs.length (rows (fun x=>[ed x]) xs))] (.tup []) [(9000,.arr t 1 xs.length (rows (fun x=>[ed x]) ys))]:=by
 refine⟨can,rfl,rfl,fun Z w vals ρ0 hv Y hsep hZ hlt htab=>?_⟩;obtain⟨v,rfl,a6⟩:=Qvl hv;have hb:=Y 9000 _ rfl;have I:∀ {i:Nat} {x:Blk} {row:Nat->List D},Qi [(9000,Blk.arr t 1 xs.length row)] i=some x->i=9000∧x=.arr t 1 xs.length row:=fun {i x row} h=>by
  simp only[Qi] at h;split at h
  ·rename_i hq;exact⟨(Y5 hq).symm,(Yw h).symm⟩
  ·cases h
 have J:∀(i j:Nat) (x y:Blk),Qi [(9000,Blk.arr t 1 xs.length (rows (fun x=>[ed x]) ys))] i=some x->Qi [(9000,Blk.arr t 1 xs.length (rows (fun x=>[ed x]) ys))] j=some y->(ρ0 i).ph=false->(ρ0 j).ph=false->(ρ0 i).b=(ρ0 j).b->i=j:=fun i j x y G hy _ _ _=>(I G).1.trans (I hy).1.symm;obtain⟨ad,c,rfl,h1,h2⟩:=a6.osl_inv;have a1:∀b,own [(9000,Blk.arr t 1 xs.length (rows (fun x=>[ed x]) ys))] ρ0 b↔own [(9000,Blk.arr t 1 xs.length (rows (fun x=>[ed x]) xs))] ρ0 b:=fun b=>
  ⟨fun⟨i,k,hk,hp,hb⟩=>by obtain⟨rfl,_⟩:=I hk;exact⟨9000,_,rfl,hp,hb⟩,fun⟨i,k,hk,hp,hb⟩=>by obtain⟨rfl,_⟩:=I hk;exact⟨9000,_,rfl,hp,hb⟩⟩
 by_cases hn:xs.length=0
 ·have a3:ys=[]:=Yv (by omega);have a4:xs=[]:=Yv hn;have a5:Calls P f #[.slice ad xs.length c] w fun e w'=>e=.returned (.tuple #[])∧w'=w:=by rw[hn];exact h0 ad c w
  refine Calls.mono a5 ?_;rintro e w' ⟨rfl,rfl⟩;refine⟨_,ρ0,rfl,QoO (fun i x G=>by rw[(I G).2];rfl) (Kept.refl _ _),fun i x y _ _=>.inl rfl,.tup rfl (by simp),?_,J,fun i x G hp=>⟨.inr ?_,fun k hc=>(Qq1 (fun i x G=>by rw[(I G).2];rfl) hc).elim⟩⟩
  ·intro i b U;obtain⟨rfl,rfl⟩:=I U;subst a3 a4;refine hb.keep ⟨Yi _,fun b hb ho=>⟨rfl,fun h=>ho (h.imp (a1 b).1 fun h=>h)⟩⟩ rfl (fun _=>rfl) fun _ _=>rfl
  ·obtain⟨rfl,rfl⟩:=I G;exact⟨9000,_,rfl,hp,rfl⟩
 ·rcases h2 with ⟨h2,_⟩|⟨hp,h3,rfl,rfl⟩
  ·exact absurd h2 hn
  have⟨hH,a2,C,et,hC,hcap,hncap⟩:=QoU (e1:=e1) (b:=(ρ0 9000).b) (o:=(ρ0 9000).o+0*(ρ0 9000).sz) (fun w ow x v h=>(hd w ow x v).1 h) hb hp rfl (by omega);refine Calls.mono (hc _ _ _ w hH a2) ?_;rintro e w' ⟨rfl,n,os,rfl⟩;have eo:(ρ0 9000).o+0*(ρ0 9000).sz=(ρ0 9000).o:=by omega
  rw[eo];have O:(ρ0 9000).n=xs.length:=by
   cases hb with
   |arr0 h _ _ _=>rw[hp] at h;cases h
   |arr _ _ _ _ h=>exact h
  refine⟨_,ρ0,rfl,QoO (fun i x G=>by rw[(I G).2];rfl) (Qsh fun k hk=>⟨hk.1,fun e=>hk.2 (e▸⟨9000,_,rfl,hp,rfl⟩)⟩),fun i x y _ _=>.inl rfl,.tup rfl (by simp),?_,J,fun i x G hp=>⟨.inr ?_,fun k hc=>(Qq1 (fun i x G=>by rw[(I G).2];rfl) hc).elim⟩⟩
  ·intro i b U;obtain⟨rfl,rfl⟩:=I U;have:=Qtz (ow':=fun x=>own [(9000,Blk.arr t 1 xs.length (rows (fun x=>[ed x]) ys))] ρ0 x∨Z x) (ρ':=ρ0) (id':=9000) (ys:=ys) (full:=ys.toArray) (n:=n) (os:=os) (fun w ow x=>(hd w ow x _).2 rfl) hb hp (by simpa using hl) (by omega) (fun i hi=>by simp[Y1,hi]) (by
    cases hq:ρ0 9000
    rw[hq] at O;simp only at O;rw[O,hl])
   rw[hl] at this;exact this
  ·obtain⟨rfl,rfl⟩:=I G;exact⟨9000,_,rfl,hp,rfl⟩
theorem QpI {f : FuncId} {fn : Func} {c : Code} (I : P.funcs[f]? = some fn) (hb : fn.body = some c) (G : (fn.name == "runtime.NumGoroutine") = false) : Callable P f := ⟨fn, I, G, by simp [hb]⟩
def srtB (xs:List ByteArray):List ByteArray:=((xs.map fun s=>s.data.toList).mergeSort fun x y=>decide (x<=y)).map fun l=>⟨l.toArray⟩
theorem QtA (w:World) (ow:Nat->Prop) (l:List UInt8) (v:Value):DR w ow (.str ⟨l.toArray⟩) v↔v=Go.Proofs.encStr l:=⟨fun h=>by cases h;rfl,fun h=>h▸ .str⟩
theorem QoV (ls:List (List UInt8)):Go.Ab.rows (fun l:List UInt8=>[D.str ⟨l.toArray⟩]) ls=Go.Ab.rows encSb (ls.map fun l=>⟨l.toArray⟩):=by
 funext i
 simp only[Go.Ab.rows,encSb,Y1,Yz]
 cases ls[i]? <;>rfl
theorem QpH {f:FuncId} {t:TypeId} {xs:List ByteArray} (g:xs.length<4611686018427387904) (can:Callable P f)
  (hc:∀blk off cap (G:List (List UInt8)) w,Holds Go.Proofs.encStr w blk off G.toArray->blk<w.heap.size->G.length<4611686018427387904->Calls P f #[.slice (some ⟨blk,off,none⟩) G.length cap] w fun e w'=>e=.returned (.tuple #[])∧∃n os,w'=grow (putRow Go.Proofs.encStr (Sort.ahead w n) blk off (G.mergeSort fun x y=>decide (x<=y)).toArray) os)
  (h0:∀p cap w,Calls P f #[.slice p 0 cap] w fun e w'=>e=.returned (.tuple #[])∧w'=w):
  EffC P f [.osl 9000 0 xs.length] [(9000,.arr t 1 xs.length (Go.Ab.rows encSb xs))] (.tup []) [(9000,.arr t 1 xs.length (Go.Ab.rows encSb (srtB xs)))]:=by
 have hl:(xs.map fun s=>s.data.toList).length=xs.length:=Ya ..;generalize J:(xs.map fun s=>s.data.toList)=G at*;have hg:G.length<4611686018427387904:=by omega
 generalize I:(G.mergeSort fun x y=>decide (x<=y))=U;have O:U.length=G.length:=by rw[<-I];exact List.length_mergeSort _
 have Y:∀blk off cap w,Holds Go.Proofs.encStr w blk off G.toArray->blk<w.heap.size->Calls P f #[.slice (some ⟨blk,off,none⟩) G.length cap] w fun e w'=>e=.returned (.tuple #[])∧∃n os,w'=grow (putRow Go.Proofs.encStr (Sort.ahead w n) blk off U.toArray) os:=fun blk off cap w hH hb=>by
  rw[<-I];exact hc blk off cap G w hH hb hg
 have h:=Qvm (P:=P) (f:=f) (t:=t) (e1:=Go.Proofs.encStr) (ed:=fun l:List UInt8=>D.str ⟨l.toArray⟩) QtA (xs:=G) (ys:=U) O can Y h0;rw[hl,QoV,QoV] at h;have e:(xs.map fun s=>s.data.toList).map (fun l=>(⟨l.toArray⟩:ByteArray))=xs:=by
  rw[Xx];exact(YK fun s _=>(rfl:((fun l:List UInt8=>(⟨l.toArray⟩:ByteArray))∘fun s:ByteArray=>s.data.toList) s=s)).trans (List.map_id' xs)
 rw[J] at e;rw[e] at h;unfold srtB;rw[J,I];exact h
end Go.Ab
namespace Go.Ab
def QaM (n:Nat) (p:Nat->Bool):Bool:=(List.range n).all p
theorem QiQ {n i:Nat} {p:Nat->Bool} (h:i<n) (hp:p i=false):QaM n p=false:=by
 unfold QaM;rw[List.all_eq_false];exact⟨i,Y01.2 h,by simp[hp]⟩
theorem Qkn {n i:Nat} {p:Nat->Bool} (h:QaM n p=true) (hi:i<n):p i=true:=Yb.1 h i (Y01.2 hi)
theorem Qfj {n:Nat} {p:Nat->Bool} (h:∀i,i<n->p i=true):QaM n p=true:=Yb.2 fun i hi=>h i (Y01.1 hi)
theorem Qdv {n:Nat} {p:Nat->Bool}:QaM n p=true↔ ∀i,i<n->p i=true:=⟨fun h _ hi=>Qkn h hi,Qfj⟩
theorem Qj {n i:Nat} (h:i<n) (hn:n<=9223372036854775807):IntKind.i64.wrap ((i:Int)+1)=((i+1:Nat):Int):=by
 rw[Qm (by omega) (by omega)];simp
theorem QkN {n i:Nat} (h:i<n) (h0:0<i) (hn:n<=9223372036854775807):IntKind.i64.wrap ((i:Int) -1)=((i-1:Nat):Int):=by
 rw[Qm (by omega) (by omega)];omega
theorem Qhi {β:Type} {step:Int->Option (Int⊕β)} (n:Nat) (p:Nat->Bool) (e d:β) (h1:∀i:Nat,i<n->(∀k,k<i->p k=true)->step i=some (if p i=true then .inl ((i+1:Nat):Int) else .inr e)) (h2:(∀k,k<n->p k=true)->step n=some (.inr d)):
  lp step 0=some (if QaM n p=true then d else e):=by
 have key:∀k i:Nat,i+k=n->(∀j,j<i->p j=true)->lp step (i:Int)=some (if QaM n p=true then d else e):=by
  intro k
  induction k with
  |zero=>
   intro i hi hp;have:i=n:=by omega
   subst this;rw[Z8 (h2 hp),Y2 (Qfj hp)]
  |succ k I=>
   intro i hi hp;have hs:=h1 i (by omega) hp
   by_cases G:p i=true
   ·rw[Y2 G] at hs;rw[J2 hs];exact I (i+1) (by omega) fun j hj=>by
     rcases YV j i with h|h
     ·exact hp j h
     ·have:j=i:=by omega
      subst this;exact G
   ·rw[Y0 G] at hs;rw[Z8 hs,Y0];intro h;exact G (Qkn h (by omega))
 exact key n 0 (by omega) fun j hj=>by omega
def Qf2 {β:Type} (f:Nat->Option β):Nat->Nat->Option β
 |_,0=>none
 |i,k+1=>match f i with
  |some b=>some b
  |none=>Qf2 f (i+1) k
theorem QtB {β:Type} {step:Int->Option (Int⊕β)} (n:Nat) (f:Nat->Option β) (d:β) (h1:∀i:Nat,i<n->step i=some (match f i with|some b=>.inr b|none=>.inl ((i+1:Nat):Int))) (h2:step n=some (.inr d)):
  lp step 0=some ((Qf2 f 0 n).getD d):=by
 have key:∀k i:Nat,i+k=n->lp step (i:Int)=some ((Qf2 f i k).getD d):=by
  intro k
  induction k with
  |zero=>
   intro i hi;have:i=n:=by omega
   subst this;rw[Z8 h2];rfl
  |succ k I=>
   intro i hi;have hs:=h1 i (by omega);unfold Qf2
   cases G:f i with
   |some b=>rw[G] at hs;rw[Z8 hs];rfl
   |none=>rw[G] at hs;rw[J2 hs];exact I (i+1) (by omega)
 exact key n 0 (by omega)
def ZQ (p:Nat->Bool) (n:Nat):Option Nat:=Qf2 (fun i=>if p i=true then some i else none) 0 n
theorem QoW {β:Type} {p:Nat->Bool} {h:Nat->β}:∀(k i:Nat),Qf2 (fun i=>if p i=true then some (h i) else none) i k=(Qf2 (fun i=>if p i=true then some i else none) i k).map h
 |0,_=>rfl
 |k+1,i=>by
  unfold Qf2
  cases hp:p i
  ·simp only[Yu,X6];exact QoW k (i+1)
  ·simp only[YG,Xq]
theorem Jp {β:Type} {step:Int->Option (Int⊕β)} (n:Nat) (p:Nat->Bool) (h:Nat->β) (d:β) (h1:∀i:Nat,i<n->step i=some (if p i=true then .inr (h i) else .inl ((i+1:Nat):Int))) (h2:step n=some (.inr d)):
  lp step 0=some (((ZQ p n).map h).getD d):=by
 rw[QtB n (fun i=>if p i=true then some (h i) else none) d (fun i hi=>by rw[h1 i hi];cases p i<;>rfl) h2,QoW]
 rfl
theorem Qcf {p:Nat->Bool} {n i:Nat} (h:ZQ p n=some i):i<n∧p i=true∧∀k,k<i->p k=false:=by
 have key:∀(k j:Nat),j+k=n->(∀x,x<j->p x=false)->Qf2 (fun i=>if p i=true then some i else none) j k=some i->i<n∧p i=true∧∀k,k<i->p k=false:=by
  intro k
  induction k with
  |zero=>intro j _ _ h;cases h
  |succ k I=>
   intro j hj G h;unfold Qf2 at h
   cases hp:p j
   ·rw[hp] at h;exact I (j+1) (by omega) (fun x hx'=>by
     rcases YV x j with h|h
     ·exact G x h
     ·have:x=j:=by omega
      subst this;exact hp) h
   ·rw[hp] at h;simp only[YG,Y9] at h;subst h;exact⟨by omega,hp,G⟩
 exact key n 0 (by omega) (fun x G=>by omega) h
theorem Qcg {p:Nat->Bool} {n:Nat} (h:ZQ p n=none):∀k,k<n->p k=false:=by
 have key:∀(k j:Nat),j+k=n->(∀x,x<j->p x=false)->Qf2 (fun i=>if p i=true then some i else none) j k=none->∀k,k<n->p k=false:=by
  intro k
  induction k with
  |zero=>intro j hj G _ x h;exact G x (by omega)
  |succ k I=>
   intro j hj G h;unfold Qf2 at h
   cases hp:p j
   ·rw[hp] at h;exact I (j+1) (by omega) (fun x hx'=>by
     rcases YV x j with h|h
     ·exact G x h
     ·have:x=j:=by omega
      subst this;exact hp) h
   ·rw[hp] at h;cases h
 exact key n 0 (by omega) (fun x G=>by omega) h
theorem Qqe {α β:Type} {step:α×Int->Option ((α×Int)⊕β)} (n:Nat) (f:α->Nat->α) (d:α->β) (a0:α) (G:Nat->α->Prop) (J:G 0 a0) (hi:∀i a,i<n->G i a->G (i+1) (f a i))
  (h1:∀(i:Nat) (a:α),i<n->G i a->step (a,(i:Int))=some (.inl (f a i,((i+1:Nat):Int)))) (h2:∀a,G n a->step (a,(n:Int))=some (.inr (d a))):
  lp step (a0,0)=some (d ((List.range n).foldl f a0))∧G n ((List.range n).foldl f a0):=by
 have key:∀k i:Nat,i+k=n->∀a,G i a->lp step (a,(i:Int))=some (d ((List.range' i k).foldl f a))∧G n ((List.range' i k).foldl f a):=by
  intro k
  induction k with
  |zero=>
   intro i I a ha;have:i=n:=by omega
   subst this;exact⟨Z8 (h2 a ha),ha⟩
  |succ k O=>
   intro i I a ha;rw[J2 (h1 i a (by omega) ha),List.range'_succ,Y0o];exact O (i+1) (by omega) _ (hi i a (by omega) ha)
 have:=key n 0 (by omega) a0 J;rwa[<-List.range_eq_range'] at this
theorem QtC {c:Bool} {v:Bool}:gcall (c=true) (some v)=some (c&&v):=by cases c<;>simp[gcall]
theorem Qko {c:Bool} {v:Bool}:gcall (c=false) (some v)=some (!c&&v):=by cases c<;>simp[gcall]
theorem QsG {p:Prop} (h:p:=by
 (repeat' first|((conv=>whnf);first|exact trivial|refine YD ?_ ?_|exact BLe.refl _|exact VLe.refl _)|exact trivial|refine YD ?_ ?_|exact VLe.refl _|exact VLe.any _|exact VLe.nil_osl rfl|exact VLe.nil_sl rfl|exact VLe.fnD (by kernel_rfl)|exact VLe.built rfl rfl|(refine VLe.builtZ rfl ?_;(repeat' first|((conv=>whnf);first|exact trivial|refine YD ?_ ?_)|exact .inl rfl|exact .inr ⟨rfl,_,rfl⟩);done)|(refine VLe.osl rfl ?_;(first|rfl|assumption|(refine XZ ?_;assumption)|(simp;done)|(simp[Q5]<;>omega)|omega))|exact VLe.rows (by first|rfl|assumption|(refine XZ ?_;assumption)|(simp;done)|(simp[Q5]<;>omega)|omega) (fun _ _=>rfl)|exact VLe.rows (by simp[Q5]<;>omega) QaZ|exact VLe.takeR (by first|rfl|(simp;done)|(simp[Q5]<;>omega)) (fun _=>rfl)|exact VLe.rows (by simp[Q5]<;>omega) QhI|exact VLe.rows (by simp[Q5]<;>omega) Qja|exact VLe.rows (by simp) (fun i _=>by simp[Zq,Y0g])|refine VLe.aggL ?_|refine VLe.rpL ?_)):p:=h
theorem inA {p:Prop} (h:p:=by
 (repeat' first|((conv=>whnf);first|exact trivial|refine YD ?_ ?_|exact BLe.refl _|exact VLe.refl _|(refine BLe.rows rfl ?_ fun _ _=>rfl;(first|rfl|assumption|(refine XZ ?_;assumption))))|exact trivial|exact rfl|refine YD ?_ ?_|exact BLe.refl _|exact VLe.refl _|exact VLe.any _|exact VLe.nil_osl rfl|exact VLe.nil_sl rfl|exact VLe.fnD (by kernel_rfl)|exact VLe.built rfl rfl|(refine VLe.osl rfl ?_;(first|rfl|assumption|(refine XZ ?_;assumption)|(simp;done)|(simp[Q5]<;>omega)|omega))|exact VLe.rows (by first|rfl|assumption|(refine XZ ?_;assumption)|(simp;done)|(simp[Q5]<;>omega)|omega) (fun _ _=>rfl)|exact VLe.rows (by simp[Q5]<;>omega) QaZ|exact VLe.takeR (by first|rfl|(simp;done)|(simp[Q5]<;>omega)) (fun _=>rfl)|exact VLe.rows (by simp[Q5]<;>omega) QhI|exact VLe.rows (by simp[Q5]<;>omega) Qja|exact VLe.rows (by simp) (fun i _=>by simp[Zq,Y0g])|refine VLe.aggL ?_|(refine BLe.rows rfl ?_ fun _ _=>rfl;(first|rfl|assumption|(refine XZ ?_;assumption)|(simp;done)|(simp[Q5]<;>omega)|omega))|refine BLe.box ?_|(simp;done))):p:=h
theorem QsN {p:Prop} (h:p:=by
 first|rfl|assumption|(refine XZ ?_;assumption)|(simp;done)|(simp[Q5]<;>omega)|omega):p:=h
end Go.Ab
namespace Go.Ab
open Go.RowKit
variable {P:Program} {tb:Tb} {w:World} {ow:Nat→Prop} {ρ:Env} {a:Act} {B:Bd} {w0:World} {F:List (Array Value)} {S:St}
def pmN (l:List (Nat×Nat)) (i:Nat):Nat:=match Qi l i with
 |some j=>j
 |none=>i
def QtD (l:List (Nat×Nat)):List (Nat×Nat):=l.map fun p=>(p.2,p.1)
def QAg (l:List (Nat×Nat)):Bool:=l.all fun p=>(match Qi (QtD l) p.2 with
 |some a=>Nat.beq a p.1
 |none=>false)&&(match Qi l p.2 with
 |some _=>true
 |none=>false)
theorem QoX {α:Type}:∀ {l:List (Nat×α)} {i:Nat} {x:α},Qi l i=some x->(i,x)∈l
 |(u,y)::r,i,x,h=>by
  rcases QZ h with ⟨rfl,rfl⟩|⟨_,h⟩
  ·simp
  ·exact Yp _ (QeE h)
 |[],_,_,h=>by simp[Qi] at h
theorem Qze {l:List (Nat×Nat)} (h:QAg l=true) (i:Nat):pmN (QtD l) (pmN l i)=i:=by
 have h:=Yb.1 h;unfold pmN
 cases hl:Qi l i with
 |some j=>
  have h1:=h (i,j) (QoX hl);simp only[Y4] at h1;dsimp only
  cases h2:Qi (QtD l) j with
  |none=>rw[h2] at h1;exact Bool.noConfusion h1.1
  |some a=>rw[h2] at h1;exact Y5 h1.1
 |none=>
  dsimp only
  cases h2:Qi (QtD l) i with
  |none=>rfl
  |some a=>
   have⟨p,hp,e⟩:=YI.1 (QoX h2)
   cases e
   have h1:=h p hp;simp only[Y4] at h1;rw[hl] at h1;exact Bool.noConfusion h1.2
noncomputable def Qxr (l:List (Nat×Nat)) (n:Nat):V->(V->Prop)->Prop:=Nat.rec (motive:=fun _=>V->(V->Prop)->Prop) (fun v K=>K (v.ren (pmN l))) (fun _ I v K=>match v with
 | .any=>K .any
 | .d x=>K (.d x)
 | .ref i r o=>(match Qi l i with
  |some j=>K (.ref j r o)
  |none=>K (.ref i r o))
 | .osl i o n=>(match Qi l i with
  |some j=>K (.osl j o n)
  |none=>K (.osl i o n))
 | .rp cs=>K (.rp cs)
 | .agg vs=>QbH I vs fun G=>K (.agg G)
 | .tup vs=>QbH I vs fun G=>K (.tup G)
 | .fn f vs=>QbH I vs fun G=>K (.fn f G)) n
noncomputable def rnT (l:List (Nat×Nat)) (ts:List (Nat×V)):(List (Nat×V)->Prop)->Prop:=List.rec (motive:=fun _=>(List (Nat×V)->Prop)->Prop) (fun K=>K []) (fun p _ I K=>match p with
 |(t,v)=>Qxr l 4 v fun v'=>I fun G=>K ((t,v')::G)) ts
noncomputable def rnG (l:List (Nat×Nat)) (gs:List Gd):(List Gd->Prop)->Prop:=List.rec (motive:=fun _=>(List Gd->Prop)->Prop) (fun K=>K []) (fun g _ I K=>match g with
 |⟨t,k,w,v⟩=>Qxr l 4 v fun v'=>I fun G=>K (⟨t,k,w,v'⟩::G)) gs
noncomputable def rnB (l:List (Nat×Nat)) (bs:List (Nat×Blk)):(List (Nat×Blk)->Prop)->Prop:=List.rec (motive:=fun _=>(List (Nat×Blk)->Prop)->Prop) (fun K=>K []) (fun p _ J K=>match p with
 |(i,.box t cs)=>QbH (Qxr l 4) cs fun I=>(match Qi l i with
  |some j=>J fun G=>K ((j,.box t I)::G)
  |none=>J fun G=>K ((i,.box t I)::G))
 |(i,.arr t sz n row)=>(match Qi l i with
  |some j=>J fun G=>K ((j,.arr t sz n row)::G)
  |none=>J fun G=>K ((i,.arr t sz n row)::G))) bs
noncomputable def rnF (l:List (Nat×Nat)) (fs:List Fr):(List Fr->Prop)->Prop:=List.rec (motive:=fun _=>(List Fr->Prop)->Prop) (fun K=>K []) (fun f _ O K=>match f with
 |⟨ts,gs⟩=>rnT l ts fun G=>rnG l gs fun I=>O fun J=>K (⟨G,I⟩::J)) fs
noncomputable def Qz1 (l:List (Nat×Nat)):St->(St->Prop)->Prop
 |⟨base,nt,ts,gs,bs,fs⟩,K=>rnT l ts fun ts=>rnG l gs fun gs=>rnB l bs fun bs=>rnF l fs fun fs=>K ⟨base,nt,ts,gs,bs,fs⟩
theorem QfE {f:V->(V->Prop)->Prop} {g:Nat->Nat} (G:∀v K,f v K=K (v.ren g)) (l:List V):∀K:List V->Prop,QbH f l K=K (QjF g l):=by
 induction l with
 |nil=>intro K;rfl
 |cons x r O=>intro K;show f x (fun J=>QbH f r fun I=>K (J::I))=_;rw[G,O];rfl
theorem Qje (l:List (Nat×Nat)):∀(n:Nat) (v:V) (K:V->Prop),Qxr l n v K=K (v.ren (pmN l))
 |0,_,_=>rfl
 |n+1,v,K=>by
  cases v with
  |any=>rfl
  |ref i r o=>
   show(match Qi l i with|some j=>K (.ref j r o)|none=>K (.ref i r o))=K (.ref (pmN l i) r o);unfold pmN
   cases Qi l i<;>rfl
  |osl i o n=>
   show(match Qi l i with|some j=>K (.osl j o n)|none=>K (.osl i o n))=K (.osl (pmN l i) o n);unfold pmN
   cases Qi l i<;>rfl
  |d x=>rfl
  |rp cs=>rfl
  |agg vs=>exact QfE (Qje l n) vs _
  |tup vs=>exact QfE (Qje l n) vs _
  |fn f vs=>exact QfE (Qje l n) vs _
theorem Qww (l:List (Nat×Nat)) (ts:List (Nat×V)):∀K:List (Nat×V)->Prop,rnT l ts K=K (Qwt (pmN l) ts):=by
 induction ts with
 |nil=>intro K;rfl
 |cons x r I=>intro K;have⟨t,v⟩:=x;show Qxr l 4 v (fun v'=>rnT l r fun G=>K ((t,v')::G))=_;rw[Qje,I];rfl
theorem Qwx (l:List (Nat×Nat)) (ts:List Gd):∀K:List Gd->Prop,rnG l ts K=K (Qwu (pmN l) ts):=by
 induction ts with
 |nil=>intro K;rfl
 |cons x r I=>intro K;have⟨t,k,w,v⟩:=x;show Qxr l 4 v (fun v'=>rnG l r fun G=>K (⟨t,k,w,v'⟩::G))=_;rw[Qje,I];rfl
theorem Qzf (l:List (Nat×Nat)) (bs:List (Nat×Blk)):∀K:List (Nat×Blk)->Prop,rnB l bs K=K (Qva (pmN l) bs):=by
 induction bs with
 |nil=>intro K;rfl
 |cons x r J=>
  intro K;have⟨i,b⟩:=x
  cases b with
  |box t cs=>
   show QbH (Qxr l 4) cs (fun I=>(match Qi l i with|some j=>rnB l r fun G=>K ((j,.box t I)::G)|none=>rnB l r fun G=>K ((i,.box t I)::G)))=K ((pmN l i,.box t (QjF (pmN l) cs))::Qva (pmN l) r);rw[QfE (Qje l 4)];unfold pmN
   cases Qi l i<;>exact J _
  |arr t sz n row=>
   show(match Qi l i with|some j=>rnB l r fun G=>K ((j,.arr t sz n row)::G)|none=>rnB l r fun G=>K ((i,.arr t sz n row)::G))=K ((pmN l i,.arr t sz n row)::Qva (pmN l) r);unfold pmN
   cases Qi l i<;>exact J _
theorem Qzg (l:List (Nat×Nat)) (fs:List Fr):∀K:List Fr->Prop,rnF l fs K=K (Qvb (pmN l) fs):=by
 induction fs with
 |nil=>intro K;rfl
 |cons x r O=>intro K;have⟨ts,gs⟩:=x;show rnT l ts (fun G=>rnG l gs fun I=>rnF l r fun J=>K (⟨G,I⟩::J))=_;rw[Qww,Qwx,O];rfl
theorem Qxs (l:List (Nat×Nat)) (S:St) (K:St->Prop):Qz1 l S K=K (S.ren (pmN l)):=by
 have⟨base,nt,ts,gs,bs,fs⟩:=S;simp only[Qz1,Qww,Qwx,Qzf,Qzg];rfl
def rowLe (l G:List D):Prop:=l.length=G.length∧∀(j:Nat) (d':D),G[j]? =some d'->∃d,l[j]? =some d∧∀w ow v,DR w ow d v->DR w ow d' v
theorem BLe.rowsW {t:TypeId} {sz n:Nat} {row row':Nat->List D} (h:∀i,i<n->rowLe (row i) (row' i)):BLe (.arr t sz n row) (.arr t sz n row'):=⟨fun w ow ρ id hb=>by
 cases hb with
 |arr0 J O I G=>exact .arr0 J O I G
 |arr C et J O I G Y k6 U k8=>
  refine .arr C et J O I G (fun i hi=>by rw[<-(h i hi).1];exact Y i hi) k6 U fun i j d hi hd=>?_;have⟨d0,h1,h2⟩:=(h i hi).2 j d hd;exact h2 _ _ _ (k8 i j d0 hi h1),rfl⟩
theorem rowLe.refl (l:List D):rowLe l l:=⟨rfl,fun _ d h=>⟨d,h,fun _ _ _ h=>h⟩⟩
theorem rowLe.nilL:rowLe [] []:=.refl []
theorem rowLe.same {d:D} {l G:List D} (h:rowLe l G):rowLe (d::l) (d::G):=⟨by simp[h.1],fun j d' hj=>by
 cases j with
 |zero=>simp at hj;subst hj;exact⟨d,rfl,fun _ _ _ h=>h⟩
 |succ j=>simpa using h.2 j d' (by simpa using hj)⟩
theorem rowLe.zero {row:Nat->List D} {n:Nat} {l G:List D} (I:n=0) (h:rowLe l G):rowLe (.nil::l) (.sl n row::G):=⟨by simp[h.1],fun j d' hj=>by
 cases j with
 |zero=>simp at hj;subst hj;exact⟨.nil,rfl,fun _ _ _ h=>by cases h;exact .sl0 I⟩
 |succ j=>simpa using h.2 j d' (by simpa using hj)⟩
theorem rowsW {α:Type} [Inhabited α] {enc:α->List D} {xs:List α} {r:Nat} {e:α} {ds:List D} (h:rowLe ds (enc e)):∀i,i<xs.length->rowLe (if i=r then ds else rows enc xs i) (rows enc (xs.set r e) i):=fun i hi=>by
 by_cases G:i=r
 ·subst G;simpa[rows,Y1,hi] using h
 ·rw[Y0 G];have:rows enc (xs.set r e) i=rows enc xs i:=by simp[rows,Y1,List.getElem?_set_ne (YU G)]
  rw[this];exact .refl _
theorem Qxt {bs:List (Nat×Blk)} {id:Nat} {b c:Blk} (hb:Qi bs id=some b) (h:BLe b c):∀i x,Qi (QfQ bs id c) i=some x->∃y,Qi bs i=some y∧BLe y x:=fun i x G=>by
 rcases JG G with ⟨rfl,rfl,_⟩|⟨_,G⟩
 ·exact⟨b,hb,h⟩
 ·exact⟨x,G,.refl x⟩
inductive Ed where
 |w (id n:Nat) (row row':Nat→List D) (h:∀i,i<n→rowLe (row i) (row' i))
 |f (ids:List Nat)
 |s (l:List (Nat×Nat))
 |p (id t sz:Nat) (row:Nat→List D)
 |k (ids:List Nat)
 |c (t:Nat)
 |ca (t j:Nat)
 |cb (q j:Nat)
structure KF (b:Bool):Prop where
 h:b=false
structure KT (b:Bool):Prop where
 h:b=true
noncomputable def edP:List Ed->St->(St->Prop)->Prop
 |[],S,K=>K S
 | .w id n row row' _::r,⟨base,nt,ts,gs,bs,fs⟩,K=>match Qi bs id with
  |some (.arr t0 sz n0 row0)=>(n0=n∧row0=row)∧Qay (QfQ bs id (.arr t0 sz n row')) fun bs'=>edP r ⟨base,nt,ts,gs,bs',fs⟩ K
  | _ => Stuck "weaken no such row"
 | .f l::r,S,K=>Qvj l S fun S=>edP r S K
 | .s l::r,S,K=>KT (QAg l)∧Qz1 l S fun S=>edP r S K
 | .p id t sz row::r,⟨base,nt,ts,gs,bs,fs⟩,K=>KF (St.mentions ⟨base,nt,ts,gs,bs,fs⟩ id)∧edP r ⟨base,nt,ts,gs,(id,.arr t sz 0 row)::bs,fs⟩ K
 | .k ids::r,⟨base,nt,ts,gs,bs,fs⟩,K=>Qay (QcS ids bs) fun bs=>edP r ⟨base,nt,ts,gs,bs,fs⟩ K
 | .c t::r,⟨base,nt,ts,gs,bs,fs⟩,K=>match Qi ts t with
  |some (.osl id off len)=>(match Qi bs id with
   |some (.arr t0 sz _ row)=>QeW (Qgl id ts) fun G=>QfR (Qhu id gs) fun I=>Qay (QcX id bs) fun bs'=>Qid (Qic id fs) fun J=>
     edP r ⟨base,nt,(t,.osl id 0 len)::G,I,(id,.arr t0 sz len (Zy off row))::bs',J⟩ K
   | _ => Stuck "cut no such row")
  | _ => Stuck "cut no slice"
 | .ca t j::r,⟨base,nt,ts,gs,bs,fs⟩,K=>match Qi ts t with
  |some (.agg vs)=>(match vs[j]? with
   |some (.osl id off len)=>(match Qi bs id with
    |some (.arr t0 sz _ row)=>Qaq ((Qd3 id vs).set j (.osl id 0 len)) fun U=>QeW (Qgl id ts) fun G=>QfR (Qhu id gs) fun I=>Qay (QcX id bs) fun bs'=>Qid (Qic id fs) fun J=>
      edP r ⟨base,nt,(t,.agg U)::G,I,(id,.arr t0 sz len (Zy off row))::bs',J⟩ K
    | _ => Stuck "cut no such row")
   | _ => Stuck "cut no slice")
  | _ => Stuck "cut no struct"
 | .cb q j::r,⟨base,nt,ts,gs,bs,fs⟩,K=>match Qi bs q with
  |some (.box t cs)=>(match cs[j]? with
   |some (.osl id off len)=>(match Qi bs id with
    |some (.arr t0 sz _ row)=>Qaq ((Qd3 id cs).set j (.osl id 0 len)) fun O=>QeW (Qgl id ts) fun G=>QfR (Qhu id gs) fun I=>Qay (QcX id bs) fun bs'=>Qay (QfQ bs' q (.box t O)) fun bs'=>Qid (Qic id fs) fun J=>
      edP r ⟨base,nt,G,I,(id,.arr t0 sz len (Zy off row))::bs',J⟩ K
    | _ => Stuck "cut no such row")
   | _ => Stuck "cut no slice")
  | _ => Stuck "cut no variable"
theorem Qq6:∀(l:List Nat) {S:St} {K:St->Prop},Qvj l S K->∃G,LE S G∧K G
 |[],S,_,h=>⟨S,.refl S,h⟩
 |i::r,⟨base,nt,ts,gs,bs,fs⟩,K,h=>by
  simp only[Qvj] at h;split at h
  ·rename_i row hb;rw[QbX,QcN,ZV,Qej] at h;have⟨G,h1,h2⟩:=Qq6 r h;exact⟨G,LE.trans ⟨fun B w0 F ρ a w hs=>⟨ρ,(hs.frz hb).1⟩⟩ h1,h2⟩
  ·exact h.no.elim
theorem Qxu (ids:List Nat):LE S ⟨S.base,S.nt,S.tmps,S.gds,QcS ids S.blks,S.frames⟩:=
 ⟨fun B w0 F ρ a w hs=>⟨ρ,Qqd hs fun i b hb=>by
  rw[Qca] at hb;split at hb
  ·cases hb
  ·exact⟨b,hb,.refl b⟩⟩⟩
theorem Qqf {S:St} {id off len n:Nat} {t0:TypeId} {sz:Nat} {row:Nat->List D} {B:Bd} {w0 w:World} {F:List (Array Value)} {ρ:Env} {a:Act} {x:Value} (h:Sim P B w0 F ρ S a w) (hv:VR w (ZL B S.blks ρ) ρ (.osl id off len) x) (hb:Qi S.blks id=some (.arr t0 sz n row)):
  ∃l:Loc,Sim P B w0 F (ρ.set id l) ⟨S.base,S.nt,Qgl id S.tmps,Qhu id S.gds,(id,.arr t0 sz len (Zy off row))::QcX id S.blks,Qic id S.frames⟩ a w∧
   VR w (ZL B ((id,.arr t0 sz len (Zy off row))::QcX id S.blks) (ρ.set id l)) (ρ.set id l) (.osl id 0 len) x:=by
 have hk:=Qou h.o id;have J:=St.kill_mentions S id;have⟨ad,cap,h1,h2,h3⟩:=hv.osl_inv;rcases h3 with ⟨h3,h4⟩|⟨h3,h4,h5,h6⟩
 ·subst h3 h4;have G:=QdC (w:=w) hk J (fun _ h=>h.imp Qgr fun h=>h) (sz:=sz) (row:=Zy off row) (e:=t0) ad;exact⟨_,G.1,by rw[h1];exact G.2⟩
 ·have a1:=h.blks id _ hb
  cases a1 with
  |arr0 g=>rw[g] at h3;cases h3
  |arr C a3 g1 g2 g3 g4 g5 g6 g7 g8=>
  have O:=h.ge id _ hb h3;have I:¬own (QcX id S.blks) ρ (ρ id).b:=by
   rintro⟨i,k,hk,hp,Y⟩;have⟨U,k0,a2,_⟩:=QbI hk;exact U (h.sep i id _ _ a2 hb hp h3 Y)
  have G:=Qgp (loc:=⟨(ρ id).b,(ρ id).o+off*sz,sz,len,cap,false⟩) (blk:=.arr t0 sz len (Zy off row)) (w':=w) hk J (fun _ h=>h.imp Qgr fun h=>h) (Yi _)
   (fun _ _ _=>rfl) (fun _ _=>rfl) (fun _ _ _=>rfl) (fun _=>.inr ⟨.inl ⟨id,_,hb,h3,rfl⟩,I⟩)
   (fun _=>⟨O.blk,fun k hc=>by have:=(O.cel k hc).1;cases this⟩) rfl rfl rfl fun keep=>by
    refine .arr C a3 (by simp[Env.set]) (by simp[Env.set]) (by simp[Env.set]) (by simp only[Env.set,YG];omega) (fun i hi=>?_) (by simp only[Env.set,YG];exact g6) ?_ fun i j d hi hd=>?_
    ·rw[Zq];exact g5 _ (by omega)
    ·simp only[Env.set,YG];have:off*sz+cap*sz=(ρ id).cap*sz:=by rw[<-Yj];congr 1;omega
     omega
    ·simp only[Env.set,YG];rw[Zq] at hd;have:=(g8 (off+i) j d (by omega) hd).keep keep;rw[show(ρ id).o+off*sz+i*sz+j=(ρ id).o+(off+i)*sz+j by rw[Yj];omega];exact this
  refine⟨_,G,?_⟩;rw[h1,h5,g2];have:=VR.osl (w:=w) (own:=ZL B ((id,.arr t0 sz len (Zy off row))::QcX id S.blks) (ρ.set id ⟨(ρ id).b,(ρ id).o+off*sz,sz,len,cap,false⟩)) (ρ:=ρ.set id ⟨(ρ id).b,(ρ id).o+off*sz,sz,len,cap,false⟩) (id:=id) (off:=0) (len:=len) (by simp[Env.set]) (by simp[Env.set]) (by simp only[Env.set,YG];omega);simpa[Env.set] using this
theorem QtE {S':St} {B:Bd} {w0 w:World} {F:List (Array Value)} {ρ:Env} {a:Act} {ts:Nat} {v:V} (h1:Sim P B w0 F ρ S' a w) (h2:VR w (ZL B S'.blks ρ) ρ v (a.tmps.getD ts undef)):Sim P B w0 F ρ ⟨S'.base,S'.nt,(ts,v)::S'.tmps,S'.gds,S'.blks,S'.frames⟩ a w:=
 ⟨h1.below,h1.tab,h1.hB,h1.defers,h1.nt,⟨fun t v ht=>by
  rcases QZ ht with ⟨rfl,rfl⟩|⟨_,ht⟩
  ·exact h2
  ·exact h1.top.tmps t v ht,h1.top.gds⟩,h1.blks,h1.sep,h1.ge,h1.frames⟩
theorem Qzh (S:St) {id off len n:Nat} {t0:TypeId} {sz:Nat} {row:Nat->List D} {ts:Nat} (hv:Qi S.tmps ts=some (.osl id off len)) (hb:Qi S.blks id=some (.arr t0 sz n row)):
  LE S ⟨S.base,S.nt,(ts,.osl id 0 len)::Qgl id S.tmps,Qhu id S.gds,(id,.arr t0 sz len (Zy off row))::QcX id S.blks,Qic id S.frames⟩:=⟨fun B w0 F ρ a w h=>by
 have⟨l,h1,h2⟩:=Qqf h (h.top.tmps ts _ hv) hb;exact⟨_,QtE h1 h2⟩⟩
theorem QmS {id t:Nat} {v:V}:∀ {ts:List (Nat×V)},Qi ts t=some v->Qi (Qgl id ts) t=some (v.kill id)
 |(u,x)::r,h=>by
  simp only[Qi] at h;show Qi ((u,x.kill id)::Qgl id r) t=_;simp only[Qi];split at h
  ·rename_i e;rw[Yw h]
  ·exact QmS h
 |[],h=>by simp[Qi] at h
theorem Qxv (S:St) {id off len n:Nat} {t0:TypeId} {sz:Nat} {row:Nat->List D} {ts j:Nat} {vs:List V} (hv:Qi S.tmps ts=some (.agg vs)) (hj:vs[j]? =some (.osl id off len)) (hb:Qi S.blks id=some (.arr t0 sz n row)):
  LE S ⟨S.base,S.nt,(ts,.agg ((Qd3 id vs).set j (.osl id 0 len)))::Qgl id S.tmps,Qhu id S.gds,(id,.arr t0 sz len (Zy off row))::QcX id S.blks,Qic id S.frames⟩:=⟨fun B w0 F ρ a w h=>by
 have J:=h.top.tmps ts _ hv;generalize I:a.tmps.getD ts undef=y at J
 cases J with|agg g0 g1 O=>
 rename_i cs;have⟨l,h1,h2⟩:=Qqf h (O j _ hj) hb;have hk:=h1.top.tmps ts _ (QmS hv);rw[I] at hk;have hk:VR _ _ _ (.agg (Qd3 id vs)) (.agg cs):=hk
 cases hk with|agg Y U k2=>
 refine⟨_,QtE h1 ?_⟩;rw[I];refine .agg (by rw[XW];exact Y) U fun q u G=>?_;rw[Y0h] at G;split at G
 ·rename_i e;subst e;split at G
  ·cases G;exact h2
  ·cases G
 ·exact k2 q u G⟩
theorem QhN {id q:Nat} (G:q≠id):∀ {bs:List (Nat×Blk)} {b:Blk},Qi bs q=some b->Qi (QcX id bs) q=some (b.kill id)
 |(u,x)::r,b,h=>by
  simp only[Qi] at h;simp only[QcX];split at h
  ·rename_i e;have e:=Y5 e;subst e;have:Nat.beq u id=false:=by
    cases c:Nat.beq u id
    ·rfl
    ·exact absurd (Y5 c) G
   rw[this];simp only[Qi,Nat.beq_refl];rw[Yw h]
  ·rename_i e;split
   ·exact QhN G h
   ·simp only[Qi,e];exact QhN G h
 |[],_,h=>by simp[Qi] at h
theorem Qxw {q:Nat} {b0 blk:Blk} {S:St} {B:Bd} {w0 w:World} {F:List (Array Value)} {ρ:Env} {a:Act} (h:Sim P B w0 F ρ S a w) (h0:Qi S.blks q=some b0) (a3:BR w (ZL B S.blks ρ) ρ q blk) (O:blk.bx=b0.bx):
  Sim P B w0 F ρ ⟨S.base,S.nt,S.tmps,S.gds,QfQ S.blks q blk,S.frames⟩ a w:=by
 have keep:Keep w (ZL B S.blks ρ) w (ZL B (QfQ S.blks q blk) ρ):=⟨Yi _,fun b _ ho=>⟨rfl,fun h=>ho (h.imp (Qkf h0) fun h=>h)⟩⟩;have G:∀i x,Qi (QfQ S.blks q blk) i=some x->∃U,Qi S.blks i=some U:=fun i x I=>by
  rcases JG I with ⟨rfl,_,b,hb⟩|⟨_,hb⟩
  ·exact⟨b,hb⟩
  ·exact⟨x,hb⟩
 refine⟨h.below,h.tab,h.hB,h.defers,h.nt,h.top.keep keep fun _ _=>rfl,fun i b hb=>?_,fun i j x y I hy=>?_,fun i x I=>?_,h.frames.1,fun i f' tm Y a2=>(h.frames.2 i f' tm Y a2).keep keep fun _ _=>rfl⟩
 ·rcases JG hb with ⟨rfl,rfl,_⟩|⟨hn,hb⟩
  ·exact a3.keep keep rfl (fun _=>rfl) fun _ _=>rfl
  ·exact(h.blks i b hb).keep keep rfl (fun _=>rfl) fun _ _=>rfl
 ·have⟨U,a1⟩:=G i x I;have⟨y0,J⟩:=G j y hy;exact h.sep i j U y0 a1 J
 ·rcases JG I with ⟨rfl,rfl,_⟩|⟨_,hb⟩
  ·rw[O];exact h.ge i _ h0
  ·exact h.ge i x hb
theorem Qxx (S:St) {id off len n:Nat} {t0:TypeId} {sz:Nat} {row:Nat->List D} {q j:Nat} {t:TypeId} {cs:List V} (Y:Qi S.blks q=some (.box t cs)) (hj:cs[j]? =some (.osl id off len)) (hb:Qi S.blks id=some (.arr t0 sz n row)):
  LE S ⟨S.base,S.nt,Qgl id S.tmps,Qhu id S.gds,(id,.arr t0 sz len (Zy off row))::QfQ (QcX id S.blks) q (.box t ((Qd3 id cs).set j (.osl id 0 len))),Qic id S.frames⟩:=⟨fun B w0 F ρ a w h=>by
 have G:q≠id:=fun e=>by subst e;rw[Y] at hb;cases hb
 cases h.blks q _ Y with
 |box C g1 g2 g3 g4 g5 g6 g7 g8=>
 have⟨l,h1,h2⟩:=Qqf h (g8 j _ hj) hb;have hid:Nat.beq id q=false:=by
  cases c:Nat.beq id q
  ·rfl
  ·exact absurd (Y5 c).symm G
 have I:Qi ((id,Blk.arr t0 sz len (Zy off row))::QcX id S.blks) q=some (.box t (Qd3 id cs)):=by
  simp only[Qi,hid];exact QhN G Y
 refine⟨ρ.set id l,?_⟩;have U:=h1.blks q _ I;have hr:(ρ.set id l) q=ρ q:=Env.set_other G;have O:BR w (ZL B ((id,Blk.arr t0 sz len (Zy off row))::QcX id S.blks) (ρ.set id l)) (ρ.set id l) q (.box t ((Qd3 id cs).set j (.osl id 0 len))):=by
  cases U with
  |box C' k1 k2 k3 k4 J k6 k7 k8=>
  have ec:C'=C:=by
   rw[hr,g5] at J
   cases J;rfl
  subst ec;refine .box C' k1 k2 (by rw[XW];exact k3) k4 J (by rw[XW];exact k6) (by rw[XW];exact k7) fun i v hv=>?_;rw[Y0h] at hv;split at hv
  ·rename_i e;subst e;split at hv
   ·cases hv;rw[hr];exact h2
   ·cases hv
  ·exact k8 i v hv
 have:=Qxw h1 I O rfl;have eu:QfQ ((id,Blk.arr t0 sz len (Zy off row))::QcX id S.blks) q (.box t ((Qd3 id cs).set j (.osl id 0 len)))=(id,.arr t0 sz len (Zy off row))::QfQ (QcX id S.blks) q (.box t ((Qd3 id cs).set j (.osl id 0 len))):=by
  simp only[QfQ,hid]
 rw[<-eu];exact this⟩
theorem QfU:∀(l:List Ed) {S:St} {K:St->Prop},edP l S K->∃I,LE S I∧K I
 |[],S,_,h=>⟨S,.refl S,h⟩
 | .w id n row row' hw::r,⟨base,nt,ts,gs,bs,fs⟩,K,h=>by
  simp only[edP] at h;split at h
  ·rename_i t0 sz n0 row0 hb;obtain⟨⟨rfl,rfl⟩,h⟩:=h;rw[ZV] at h;have⟨G,h3,h4⟩:=QfU r h;exact⟨G,LE.trans ⟨fun B w0 F ρ a w hs=>⟨ρ,Qqd hs (Qxt hb (.rowsW hw))⟩⟩ h3,h4⟩
  ·exact h.no.elim
 | .f l::r,S,K,h=>by
  have⟨I,h1,h2⟩:=Qq6 l h;have⟨G,h3,h4⟩:=QfU r h2;exact⟨G,h1.trans h3,h4⟩
 | .s l::r,S,K,h=>by
  simp only[edP,Qxs] at h;have⟨G,h3,h4⟩:=QfU r h.2;exact⟨G,(Qzb _ (pmN (QtD l)) (Qze h.1.h) S).trans h3,h4⟩
 | .p id t sz row::r,⟨base,nt,ts,gs,bs,fs⟩,K,h=>by
  have⟨G,h3,h4⟩:=QfU r h.2;exact⟨G,(QrY ⟨base,nt,ts,gs,bs,fs⟩ id t sz row h.1.h).trans h3,h4⟩
 | .k ids::r,⟨base,nt,ts,gs,bs,fs⟩,K,h=>by
  simp only[edP,ZV] at h;have⟨G,h3,h4⟩:=QfU r h;exact⟨G,(Qxu (S:=⟨base,nt,ts,gs,bs,fs⟩) ids).trans h3,h4⟩
 | .c t::r,⟨base,nt,ts,gs,bs,fs⟩,K,h=>by
  simp only[edP] at h;split at h
  ·rename_i id off len hv;split at h
   ·rename_i t0 sz n row hb;rw[QbX,QcN,ZV,Qej] at h;have⟨G,h3,h4⟩:=QfU r h;exact⟨G,(Qzh ⟨base,nt,ts,gs,bs,fs⟩ hv hb).trans h3,h4⟩
   ·exact h.no.elim
  ·exact h.no.elim
 | .ca t j::r,⟨base,nt,ts,gs,bs,fs⟩,K,h=>by
  simp only[edP] at h;split at h
  ·rename_i vs hv;split at h
   ·rename_i id off len hj;split at h
    ·rename_i t0 sz n row hb;rw[Za,QbX,QcN,ZV,Qej] at h;have⟨G,h3,h4⟩:=QfU r h;exact⟨G,(Qxv ⟨base,nt,ts,gs,bs,fs⟩ hv hj hb).trans h3,h4⟩
    ·exact h.no.elim
   ·exact h.no.elim
  ·exact h.no.elim
 | .cb q j::r,⟨base,nt,ts,gs,bs,fs⟩,K,h=>by
  simp only[edP] at h;split at h
  ·rename_i t cs J;split at h
   ·rename_i id off len hj;split at h
    ·rename_i t0 sz n row hb;rw[Za,QbX,QcN,ZV,ZV,Qej] at h;have⟨G,h3,h4⟩:=QfU r h;exact⟨G,(Qxx ⟨base,nt,ts,gs,bs,fs⟩ J hj hb).trans h3,h4⟩
    ·exact h.no.elim
   ·exact h.no.elim
  ·exact h.no.elim
def QnK (G:List Nat):St->St
 |⟨base,nt,ts,_,bs,fs⟩=>⟨base,nt,G.map fun k=>(k,Qwj ts k),[],bs,fs⟩
theorem Qq7 {ts:List (Nat×V)}:∀(G:List Nat),LeT ts (G.map fun k=>(k,Qwj ts k))
 |[]=>trivial
 |k::r=>by
  refine⟨?_,Qq7 r⟩;unfold Qwj
  cases Qi ts k<;>exact .refl _
theorem Qiy (G:List Nat):LE S (QnK G S):=by
 have⟨base,nt,ts,gs,bs,fs⟩:=S;exact⟨fun B w0 F ρ a w h=>⟨ρ,h.below,h.tab,h.hB,h.defers,h.nt,h.top.le (Qq7 G),h.blks,h.sep,h.ge,h.frames⟩⟩
def LeP:St->St->Prop
 |⟨_,nt,ts,_,bs,fs⟩,⟨_,nt',ts',gs',bs',fs'⟩=>(nt=nt'∧gs'=[])∧LeT ts ts'∧LeB bs bs'∧LeF fs fs'
theorem LeP.le {S S':St} (h:LeP S S'):LE S S':=by
 have⟨base,nt,ts,gs,bs,fs⟩:=S;have⟨base',nt',ts',gs',bs',fs'⟩:=S';obtain⟨⟨rfl,rfl⟩,h1,h2,h3⟩:=h;exact QzR h1 h2 h3
theorem VLe.tupL {vs G:List V} (h:CellsLe vs G):VLe (.tup vs) (.tup G):=⟨fun w ow ρ x O=>by
 have⟨h1,h2⟩:=h.get
 cases O with
 |tup hs hv=>
  refine .tup (by rw[hs,h1]) fun j v hj=>?_;have⟨u,J,I⟩:=h2 j v hj;exact I.out _ _ _ _ (hv j u J)⟩
theorem QmT {α:Type} [Inhabited α] {enc:α->List D} {xs:List α} {k:Nat}:∀i,i<(xs.take k).length->rows enc xs i=rows enc (xs.take k) i:=by
 intro i hi;have:i<k:=by simp at hi;omega
 simp[rows,Y1,this]
theorem BLe.cut0 {α:Type} [Inhabited α] {enc:α->List D} {t I:TypeId} {sz n k:Nat} {xs:List α} (G:n=(xs.take k).length):BLe (.arr t sz n (Zy (Qoq 0 (Int.toNat 0)) (Ab.rows enc xs))) (.arr I sz (xs.take k).length (Ab.rows enc (xs.take k))):=by
 refine .rows rfl G fun i hi=>?_;rw[G] at hi;rw[<-QmT i hi];simp[Zq,QdB]
theorem VLe.chunkS {α:Type} [Inhabited α] {enc:α->List D} {ds:List D} {ys:List α} {n m sz:Nat} (I:n=ys.length) (hm:m=ys.length) (h:ds=(ys.map enc).flatten) (G:∀y,(enc y).length=(enc default).length) (J:sz=(enc default).length):VLe (.d (.sl n (Qor sz ds))) (.d (.sl m (Ab.rows enc ys))):=by
 subst hm;have hs:∀y,(enc y).length=sz:=fun y=>by rw[G,J]
 refine VLe.rows I fun i hi=>?_
 ·subst I h;have key:∀(ys:List α) (i:Nat),i<ys.length->(((ys.map enc).flatten.drop (i*sz)).take sz)=enc (ys.getD i default):=by
   intro ys
   induction ys with
   |nil=>intro i hi;simp at hi
   |cons y r O=>
    intro i hi
    cases i with
    |zero=>
     simp only[YC,List.flatten_cons,Nat.zero_mul,Y04,YT];rw[List.take_append_of_le_length (by rw[hs];exact Yi _),XI (by rw[hs];exact Yi _)]
    |succ i=>
     have:=O i (by simpa using hi);simp only[YC,List.flatten_cons,List.getD_cons_succ];rw[show(i+1)*sz=(enc y).length+i*sz by rw[hs,Yj];omega,List.drop_append,List.drop_of_length_le (by omega),YA,Nat.add_sub_cancel_left];exact this
  exact key ys i hi
theorem srA {p:Prop} (h:p:=by
 (repeat' first|((conv=>whnf);first|exact trivial|refine YD ?_ ?_|exact KF.mk (by kernel_rfl)|exact KT.mk (by kernel_rfl)|exact BLe.refl _|exact VLe.refl _)|exact trivial|exact rfl|refine YD ?_ ?_|exact BLe.refl _|exact VLe.refl _|exact VLe.any _|exact VLe.nil_osl rfl|exact VLe.nil_sl rfl|exact VLe.fnD (by kernel_rfl)|exact VLe.built rfl rfl|(refine VLe.chunkS rfl rfl rfl (fun _=>rfl) ?_;first|rfl|(simp only[Ye,Yx,Yg,Nat.div_one,Nat.reduceAdd,Nat.reduceDiv]<;>rfl))|(refine VLe.osl rfl ?_;(first|rfl|assumption|(refine XZ ?_;assumption)|(simp;done)|(simp[Q5]<;>omega)|omega|(simp[Q5]<;>(dsimp only at*;omega))))|exact VLe.rows (by first|rfl|assumption|(refine XZ ?_;assumption)|(simp;done)|(simp[Q5]<;>omega)|omega|(simp[Q5]<;>(dsimp only at*;omega))) (fun _ _=>rfl)|exact VLe.rows (by kernel_rfl) (chunk2 (by kernel_rfl) (by kernel_rfl))|exact VLe.rows (by simp[Q5]<;>omega) QaZ|exact VLe.takeR (by first|rfl|(simp;done)|(simp[Q5]<;>omega)) (fun _=>rfl)|exact VLe.rows (by simp[Q5]<;>omega) QhI|exact VLe.rows (by simp[Q5]<;>omega) Qja|exact VLe.rows (by simp) (fun i _=>by simp[Zq,Y0g])|refine VLe.aggL ?_|refine VLe.tupL ?_|(refine BLe.rows rfl ?_ fun _ _=>rfl;(first|rfl|assumption|(refine XZ ?_;assumption)|(simp;done)|(simp[Q5]<;>omega)|omega|(simp[Q5]<;>(dsimp only at*;omega))))|(refine BLe.rows rfl rfl ?_;first|exact QaZ)|(refine BLe.cutN ?_;(first|rfl|(simp;done)|(simp[Q5]<;>omega)|(simp[Q5]<;>(dsimp only at*;omega))))|(refine BLe.cut0 ?_;(first|rfl|(simp;done)|(simp[Q5]<;>omega)|(simp[Q5]<;>(dsimp only at*;omega))))|(refine BLe.rows rfl ?_ QaZ;(first|rfl|(simp;done)|(simp[Q5]<;>omega)|omega|(simp[Q5]<;>(dsimp only at*;omega))))|refine BLe.box ?_|exact fun _ _=>rfl|exact QaZ|(intro i hi;dsimp only at hi|-;simp only[Yn] at hi;simp[Zq,QdB,Y1,YH hi (Nat.min_le_left _ _)];done)|(intro i hi;dsimp only at hi|-;rw[<-QmT i hi,Zq,QdB];simp only[Y0c,Yg])|(first|rfl|assumption|(refine XZ ?_;assumption)|(simp;done)|(simp[Q5]<;>omega)|omega|(simp[Q5]<;>(dsimp only at*;omega))))):p:=h
def Qxy:St->List Nat
 |⟨_,_,ts,_,_,_⟩=>ts.map (·.1)
theorem leX {S S':St} (l:List Ed) (h:stK (QnK (Qxy S') S) fun S=>edP l S fun G=>LeP G S':=by exact srA):LE S S':=by
 rw[QfS] at h;have⟨G,h1,h2⟩:=QfU l h;exact(Qiy _).trans (h1.trans h2.le)
def Qvn:List ResultVar->List Nat
 |[]=>[]
 | .tmp t::r=>t::Qvn r
 | .cell x _::r=>x::Qvn r
def Qz2 (tb:Tb) (rs:List ResultVar) (res:V) (nb:List Nb):Exit->St->Prop:=fun e S'=>match e with
 | .ret=>∃G,LE S' G∧QqJ tb rs G fun v=>VLe v res∧Qwl G.blks nb
 | .normal=>∃G,LE S' G∧QqJ tb rs G fun v=>VLe v res∧Qwl G.blks nb
 | _ => Stuck "return no way out"
theorem lfP {rs:List ResultVar} {res:V} {nb:List Nb} (l:List Ed) (h:stK (QnK (Qvn rs) S) fun S=>edP l S fun I=>QqJ tb rs I fun v=>VLe v res∧Qwl I.blks nb:=by exact srA):
  ∃G,LE S G∧QqJ tb rs G fun v=>VLe v res∧Qwl G.blks nb:=by
 rw[QfS] at h;have⟨I,h1,h2⟩:=QfU l h;exact⟨I,(Qiy _).trans h1,h2⟩
theorem Qsi (hT:TOk P tb) {fn:Func} {res:V} {nb:List Nb} {S':St} {a':Act} {w':World} (J:Qcl res=true) (G:∀b∈nb,∀i,i<b.n->∀d∈b.row i,Qi0 d=true)
  (h:Sim P (Qwk w) w [] ρ S' a' w') (hk:QqJ tb fn.results.toList S' fun v=>VLe v res∧Qwl S'.blks nb):
  a'.defers=[]∧∃v,(results fn a'.tmps).run P w'=.ok v w'∧∃v' ρ',Ending.returned v=.returned v'∧Pure w w'∧VR w' (fun b=>b<w.heap.size) ρ' res v'∧
   (∀b∈nb,BR w' (fun b=>b<w.heap.size) ρ' b.id (.arr b.t b.sz b.n b.row))∧(∀x∈nb,∀y∈nb,(ρ' x.id).ph=false->(ρ' y.id).ph=false->(ρ' x.id).b=(ρ' y.id).b->x.id=y.id)∧(∀x∈nb,(ρ' x.id).ph=false->w.heap.size<=(ρ' x.id).b):=by
 have⟨x,v,h1,h2,h3,h4⟩:=QiY hT h fn _ hk;have U:=QqN h4;refine⟨h.defers,v,h1,v,ρ,rfl,⟨h.below.os,h.below.tape,h.below.output,h.below.size,h.below.block⟩,(h3.out _ _ _ _ h2).flat J,fun b hb=>?_,fun p hp q hq I a2 a1=>?_,fun p hp I=>?_⟩
 ·have⟨t,n,row,O,g2,g3⟩:=U b hb;subst g2
  cases h.blks _ _ O with
  |arr0 Y k2 k3 k4=>exact .arr0 Y k2 k3 k4
  |arr C et Y k2 k3 k4 k5 k6 k7 k8=>
   exact .arr C et Y k2 k3 k4 (fun i hi=>by rw[<-g3 i hi];exact k5 i hi) k6 k7 fun i j d hi hd=>(k8 i j d hi (by rw[g3 i hi];exact hd)).atom (G b hb i hi d (X1 hd)) _ _
 ·have⟨_,_,_,O,_⟩:=U p hp;have⟨_,_,_,g2,_⟩:=U q hq;exact h.sep _ _ _ _ O g2 I a2 a1
 ·have⟨_,_,_,O,_⟩:=U p hp;exact Y0l (h.ge _ _ O I).blk
theorem Qxz (hT:TOk P tb) {f:FuncId} {fn:Func} {c:Code} {args:List V} {res:V} {nb:List Nb} (hf:P.funcs[f]? =some fn) (hb:fn.body=some c)
  (h : wpc P tb c ⟨0, fn.ntmps, Qnk 0 args, [], [], []⟩ (Qz2 tb fn.results.toList res nb)) (hn : (fn.name == "runtime.NumGoroutine") = false := by kernel_rfl)
  (hl:Nat.ble args.length fn.ntmps=true:=by kernel_rfl) (G:Qcl res=true:=by kernel_rfl) (I:∀b∈nb,∀i,i<b.n->∀d∈b.row i,Qi0 d=true:=by simp[Qi0]) (J:nb.Pairwise fun x y=>x.id≠y.id:=by simp) (Y:∀id,res.mentions id=true->∃b∈nb,b.id=id:=by exact Qwv rfl):PureC P f args res nb:=by
 refine⟨⟨fn,hf,hn,by simp[hb]⟩,G,I,J,Y,fun w vals ρ0 hv O=>?_⟩;have hl:=Ys hl;have hvs:=hv.1;have U:∀b,own ([]:List (Nat×Blk)) ρ0 b->False:=fun b ⟨_,_,h,_⟩=>by simp[Qi] at h
 refine calls_of_wp hf hb (wp_mono (Qam hT c _ _ h (Qwk w) w [] ρ0 ⟨vals++Array.replicate (fn.ntmps-vals.size) undef,[]⟩ w ?_) ?_)
 ·refine⟨⟨Kept.refl _ _,fun _ _ _=>rfl,fun _ _ h=>h.elim⟩,O,fun _ h=>h,rfl,by simp;omega,⟨fun t v ht=>?_,fun g hg=>by simp at hg⟩,fun id b hb=>by simp[Qi] at hb,fun i j x y hx=>by simp[Qi] at hx,fun i x hx=>by simp[Qi] at hx,rfl,fun i f tm hf=>by simp at hf⟩;have⟨_,h2⟩:=QgS ht;have a1:=(Y8.1 h2).1;simp only[Nat.sub_zero] at h2 a1;dsimp only;rw[QiZ (by omega)];exact(hv.2 t v h2).keep ⟨Yi _,fun b _ _=>⟨rfl,fun h=>h.elim (U b) fun h=>h⟩⟩ fun _ _=>rfl
 ·rintro e a' w' ⟨ρ',S',h1,h2⟩
  cases e<;>simp only[Qz2] at h2<;>first
   |exact h2.no.elim
   |(have⟨S'',a2,hk⟩:=h2
     have⟨ρ'',h3⟩:=a2.out _ _ _ _ _ _ h1;exact Qsi hT G I h3 hk)
def Qq8 (M:List (Nat×Blk)) (ts:List (Nat×V)):Nat->List (Nat×Blk)->Prop
 |_,[]=>True
 |t,(j,b)::r=>(match Qi M j with
  |some b'=>Qp7 b b'∧(match Qi ts t with
   |some u=>VLe u (Qtq b j)
   | none => Stuck "no anchor")
  |none=>True)∧Qq8 M ts (t+1) r
def QoY (M bs:List (Nat×Blk)):List Fr->Prop
 |⟨ts,_⟩::_=>Qq8 M ts 0 bs
 | [] => Stuck "no frame"
theorem QoZ {M:List (Nat×Blk)} {ts:List (Nat×V)}:∀ {bs:List (Nat×Blk)} {t:Nat},Qq8 M ts t bs->∀j b b',Qi bs j=some b->Qi M j=some b'->∃i u,bs[i]? =some (j,b)∧Qp7 b b'∧Qi ts (t+i)=some u∧VLe u (Qtq b j)
 |(u,x)::r,t,h,j,b,b',hb,hb'=>by
  simp only[Qq8] at h;rcases QZ hb with ⟨rfl,rfl⟩|⟨hn,hb⟩
  ·have h1:=h.1;rw[hb'] at h1;have⟨h1,h2⟩:=h1
   cases hl:Qi ts t with
   |none=>rw[hl] at h2;exact h2.no.elim
   |some v=>rw[hl] at h2;exact⟨0,v,rfl,h1,hl,h2⟩
  ·have⟨i,v,h1,h2,h3,h4⟩:=QoZ h.2 j b b' hb hb';exact⟨i+1,v,by simpa using h1,h2,by rw[show t+(i+1)=t+1+i by omega];exact h3,h4⟩
 |[],_,_,_,_,_,hb,_=>by simp[Qi] at hb
def QxA (tb:Tb) (rs:List ResultVar) (res:V) (bs M:List (Nat×Blk)):Exit->St->Prop:=fun e S'=>match e with
 | .ret=>∃G,LE S' G∧QqJ tb rs G fun v=>VLe v res∧outB G.blks M∧QoY M bs G.frames
 | .normal=>∃G,LE S' G∧QqJ tb rs G fun v=>VLe v res∧outB G.blks M∧QoY M bs G.frames
 | _ => Stuck "return no way out"
theorem lfE {rs:List ResultVar} {res:V} {bs M:List (Nat×Blk)} (l:List Ed) (h:stK (QnK (Qvn rs) S) fun S=>edP l S fun I=>QqJ tb rs I fun v=>VLe v res∧outB I.blks M∧QoY M bs I.frames:=by exact srA):
  ∃G,LE S G∧QqJ tb rs G fun v=>VLe v res∧outB G.blks M∧QoY M bs G.frames:=by
 rw[QfS] at h;have⟨I,h1,h2⟩:=QfU l h;exact⟨I,(Qiy _).trans h1,h2⟩
theorem QdM (hT:TOk P tb) {f:FuncId} {fn:Func} {c:Code} {args:List V} {res:V} {bs M:List (Nat×Blk)} (hf:P.funcs[f]? =some fn) (hb:fn.body=some c)
  (h : wpc P tb c ⟨0, fn.ntmps, Qnk 0 args, [], bs, [⟨Qtr 0 bs, []⟩]⟩ (QxA tb fn.results.toList res bs M)) (hn : (fn.name == "runtime.NumGoroutine") = false := by kernel_rfl)
  (hl:Nat.ble args.length fn.ntmps=true:=by kernel_rfl) (s1:res.within (hasB M)=true:=by kernel_rfl) (s2:QhK (hasB M) M=true:=by kernel_rfl) (s3:QcR (fun i=>i) (QdP bs)=true:=by kernel_rfl):EffC P f args bs res M:=by
 refine⟨⟨fn,hf,hn,by simp[hb]⟩,s1,s2,fun Z w vals ρ0 hv J Y hZ a1 a4=>?_⟩;have hl:=Ys hl;have hvs:=hv.1
 let B:Bd:=⟨fun b=>b<w.heap.size∧¬own bs ρ0 b,Z,fun b hb=>⟨a1 b hb,fun⟨i,x,hx,hp,e⟩=>hZ i x hx hp (e▸hb)⟩,Qxl bs ρ0⟩
 let tm:Array Value:=(bs.map fun p=>QeR ρ0 p.2 p.1).toArray
 refine calls_of_wp hf hb (wp_mono (Qam hT c _ _ h B w [tm] ρ0 ⟨vals++Array.replicate (fn.ntmps-vals.size) undef,[]⟩ w ?_) ?_)
 ·refine⟨Qp6 J,a4,fun _ h=>h.1,rfl,by simp;omega,⟨fun t v ht=>?_,fun g hg=>by simp at hg⟩,J,Y,fun i x hx hp=>Qr9 Y hx hp,rfl,fun i f t a2 ht=>?_⟩
  ·have⟨_,h2⟩:=QgS ht;have a1:=(Y8.1 h2).1;simp only[Nat.sub_zero] at h2 a1;dsimp only;rw[QiZ (by omega)];exact hv.2 t v h2
  ·cases i with
   |succ i=>simp at a2
   |zero=>
    simp only[XG,Y9] at a2 ht;subst a2 ht;refine⟨fun t v a6=>?_,fun g hg=>by simp at hg⟩;obtain⟨i,j,b,rfl,h1,rfl⟩:=QoP a6;rw[Yg,QjG h1];exact Qvf (J j b (Qlk s3 h1))
 ·rintro e a' w' ⟨ρ',S',h1,h2⟩;have key:(∃I,LE S' I∧QqJ tb fn.results.toList I fun v=>VLe v res∧outB I.blks M∧QoY M bs I.frames)->a'.defers=[]∧∃v,(results fn a'.tmps).run P w'=.ok v w'∧∃v' ρ,Ending.returned v=.returned v'∧KeptE bs ρ0 w w'∧(∀i x y,Qi bs i=some x->Qi M i=some y->Agr (ρ0 i) (ρ i))∧
   VR w' (fun x=>own M ρ x∨Z x) ρ res v'∧(∀i b,Qi M i=some b->BR w' (fun x=>own M ρ x∨Z x) ρ i b)∧
   (∀i j x y,Qi M i=some x->Qi M j=some y->(ρ i).ph=false->(ρ j).ph=false->(ρ i).b=(ρ j).b->i=j)∧
   (∀i x,Qi M i=some x->(ρ i).ph=false->(w.heap.size<=(ρ i).b∨own bs ρ0 (ρ i).b)∧∀k,Qxl bs ρ0 (ρ i).b k->x.bx=true∧(k<(ρ i).o∨(ρ i).o+(ρ i).cap*(ρ i).sz<=k)):=fun hk=>by
   have⟨I,a7,hk⟩:=hk;have⟨ρ',h1⟩:=a7.out _ _ _ _ _ _ h1;have⟨x,v,k1,k2,k3,k4,k5⟩:=QiY hT h1 fn _ hk;have a5:=Qts k4;have G:∀i b,Qi M i=some b->∃b0,Qi I.blks i=some b0∧BLe b0 b:=fun i b hb=>a5 i b (Zd hb);have sub:∀b,own M ρ' b∨Z b->ZL B I.blks ρ' b:=fun b hb=>by
    rcases hb with ⟨i,y,U,hp,e⟩|hb
    ·have⟨b0,O,_⟩:=G i y U;exact .inl ⟨i,b0,O,hp,e⟩
    ·exact .inr hb
   refine⟨h1.defers,v,k1,v,ρ',rfl,Qvd h1.below,fun i y z U hz=>?_,(k3.out _ _ _ _ k2).mono sub,fun i b hb=>?_,fun i j y z U hz=>?_,fun i y U hp=>?_⟩
   ·cases a3:I.frames with
    |nil=>rw[a3] at k5;exact k5.no.elim
    |cons f0 fs=>
     rw[a3] at k5;have⟨ts,gs⟩:=f0;have⟨n,u,O,g2,g3,g7⟩:=QoZ k5 i y z U hz;have⟨z0,g4,g5⟩:=G i z hz;have g6:=g7.out _ _ _ _ ((h1.frames.2 0 ⟨ts,gs⟩ tm (by rw[a3];rfl) rfl).tmps _ _ g3);rw[Yg,QjG O] at g6;exact Qvg (J i y U) (g5.out _ _ _ _ (h1.blks i z0 g4)) g2 g6
   ·have⟨b0,O,g2⟩:=G i b hb;exact(g2.out _ _ _ _ (h1.blks i b0 O)).mono sub
   ·have⟨y0,O,_⟩:=G i y U;have⟨z0,g2,_⟩:=G j z hz;exact h1.sep i j y0 z0 O g2
   ·have⟨y0,O,g2⟩:=G i y U;have:=h1.ge i y0 O hp;refine⟨?_,fun k hc=>?_⟩
    ·rcases YV (ρ' i).b w.heap.size with h3|h3
     ·exact .inr (XN fun h4=>this.blk ⟨h3,h4⟩)
     ·exact .inl h3
    ·have⟨q1,q2⟩:=this.cel k hc;exact⟨by rw[g2.bx];exact q1,q2⟩
  cases e<;>simp only[QxA] at h2<;>first
   |exact h2.no.elim
   |exact key h2
inductive Tr where
 |e (j:Nat) (pre:List (Nat×Blk)) (res:V) (nb post:List (Nat×Blk))
 |r (j:Nat) (pre:List (Nat×Blk)) (res:V) (nb:List (Nat×Blk))
 |a (j:Nat) (pre:List (Nat×Blk)) (res:V) (post:List (Nat×Blk))
 |l (j:Nat) (pre:List (Nat×Blk)) (res:V)
 |u (j k:Nat) (res:V) (nb:List Nb)
 |x (j:Nat) (pre:List (Nat×Blk)) (res:V) (nb post:List (Nat×Blk)) (ro:List Nat)
def Tr.j:Tr->Nat
 | .e j _ _ _ _=>j
 | .r j _ _ _=>j
 | .a j _ _ _=>j
 | .l j _ _=>j
 | .u j _ _ _=>j
 | .x j _ _ _ _ _=>j
def Tr.c (P:Program):Tr->CS
 | .e _ pre res nb post=>.eff res nb post (fun g vs=>EffD P pre g vs res nb post) (LeB pre post)
 | .r _ pre res nb=>.eff res nb pre (fun g vs=>EffD P pre g vs res nb pre) (LeB pre pre)
 | .a _ pre res post=>.app pre res post
 | .l _ pre res=>.app pre res pre
 | .u _ k res nb=>.pure k res nb
 | .x _ pre res nb post _=>.eff res nb post (fun g vs=>EffD P pre g vs res nb post) (LeB pre post)
def Tr.p:Tr->List (Nat×Blk)
 | .e _ pre _ _ _=>pre
 | .r _ pre _ _=>pre
 | .a _ pre _ _=>pre
 | .l _ pre _=>pre
 | .u _ _ _ _=>[]
 | .x _ pre _ _ _ _=>pre
def Tr.o:Tr->List Nat
 | .r _ pre _ _=>QdP pre
 | .l _ pre _=>QdP pre
 | .x _ _ _ _ _ ro=>ro
 |_=>[]
noncomputable def trF (l:List Tr) (j:Nat):Option Tr:=List.rec (motive:=fun _=>Option Tr) none (fun t _ G=>match Nat.beq t.j j with
 |true=>some t
 |false=>G) l
noncomputable def tcs (P:Program) (l:List Tr) (j:Nat):Option CS:=match trF l j with
 |some t=>some (t.c P)
 |none=>none
noncomputable def tpr (l:List Tr) (j:Nat):List (Nat×Blk):=match trF l j with
 |some t=>t.p
 |none=>[]
noncomputable def tro (l:List Tr) (j:Nat):List Nat:=match trF l j with
 |some t=>t.o
 |none=>[]
noncomputable def Qz3 (f:Nat):Nat->List Bool:=Nat.rec (motive:=fun _=>Nat->List Bool) (fun _=>[]) (fun _ G n=>match Nat.beq n 0 with
 |true=>[]
 |false=>Nat.beq (n%2) 1::G (n/2)) f
noncomputable def dm (l:List Nat):List (List Bool):=l.map (Qz3 400)
theorem chA {p:Prop} (h:p:=by
 (repeat' first|exact Qsd|refine Qqb rfl ?_|refine Qsf rfl (fun _ _ h=>h) (fun h=>h) rfl rfl ?_|refine Qse rfl rfl rfl rfl ?_)):p:=h
theorem Qas (hT:TOk P tb) {id:Nat} {G:Array Oper} {S:St} {K:St->Prop} (l:List Tr) (m:Nat) (ls mk I ids:List Nat) (h:Qqa P tb (tcs P l) (tpr l) (tro l) m (dm mk) ids G.toList S K)
  (O:P.follows .mixedOrders=true:=by kernel_rfl) (U:m<=G.size:=by decide) (a1:(Qq3 G.toList (tcs P l) m&&QjE G.toList (tcs P l) m)=true:=by kernel_rfl)
  (J:Qe6 P (tcs P l) (tpr l) (tro l) (Ze S.blks ids) (dm mk) m:=by exact chA) (Y:QhH m ls G.toList (dm mk) (dm I)=true:=by kernel_rfl):DrawP P id G S K:=
 Qxq hT O (tcs P l) (tpr l) (tro l) m ls (dm mk) (dm I) ids U a1 J Y h
theorem QW (hT:TOk P tb) {id:Nat} {G:Array Oper} {S:St} {K:St->Prop} (l:List Tr) (m:Nat) (ls mk I:List Nat) (h:QnJ P tb (tcs P l) m (dm mk) G.toList S K)
  (J:P.follows .mixedOrders=true:=by kernel_rfl) (O:m<=G.size:=by decide) (Y:(Qp1 (tcs P l) m&&QjE G.toList (tcs P l) m)=true:=by kernel_rfl)
  (U:QhH m ls G.toList (dm mk) (dm I)=true:=by kernel_rfl):DrawP P id G S K:=
 Qzd hT J (tcs P l) m ls (dm mk) (dm I) O Y U h
theorem eD {pre nb post:List (Nat×Blk)} {f:FuncId} {args args':List V} {bs M:List (Nat×Blk)} {res G:V} (r:List (Nat×Nat)) (k:Nat) (h:EffC P f args' bs G M)
  (U:CellsLe args (QjF (Qbk r k) args'):=by exact QsG) (hi:inB pre (Qbk r k) bs:=by exact inA) (ha:QcR (Qbk r k) (QdP bs++Jx bs M)=true:=by kernel_rfl) (O:G.ren (Qbk r k)=res:=by kernel_rfl)
  (J:Qlj (Qbk r k) bs M [] M=nb:=by kernel_rfl) (I:QpB (Qbk r k) M pre bs=post:=by kernel_rfl):EffD P pre f args res nb post:=Qxo r k h U hi ha O J I
theorem eH {pre post:List (Nat×Blk)} {f:FuncId} {args args':List V} {bs M:List (Nat×Blk)} {res G:V} (r:List (Nat×Nat)) (k:Nat) (h:EffC P f args' bs G M)
  (U:CellsLe args (QjF (Qbk r k) args'):=by exact QsG) (hi:inB pre (Qbk r k) bs:=by exact inA) (ha:QcR (Qbk r k) (QdP bs++Jx bs M)=true:=by kernel_rfl) (O:G.ren (Qbk r k)=res:=by kernel_rfl)
  (I:Qlj (Qbk r k) bs M [] M++QpB (Qbk r k) M pre bs=post:=by kernel_rfl) (J:(QdP (Qlj (Qbk r k) bs M [] M)).all (fun i=>!hasB pre i)=true:=by kernel_rfl):EffD P pre f args res [] post:=Qvk r k h U hi ha O I J
theorem cC {base nt:Nat} {ts:List (Nat×V)} {gs:List Gd} {bs:List (Nat×Blk)} {fs:List Fr} {f:FuncId} {args args':List V} {res:V} {nb:List Nb} {K:V->St->Prop} (k:Nat) (h:PureC P f args' res nb)
  (hk:Qal (res.shift k) fun v=>Qay (nb.map (Nb.ent k)++bs) fun bs=>K v ⟨base,nt,ts,gs,bs,fs⟩) (hv:QbZ (Qi bs) args=some args':=by kernel_rfl) (hm:(nb.all fun b=>!(St.mentions ⟨base,nt,ts,gs,bs,fs⟩ (b.id+k)))=true:=by kernel_rfl):
  CallP P f args ⟨base,nt,ts,gs,bs,fs⟩ K:=Qxf k h hv hm hk
theorem cE {base nt:Nat} {ts:List (Nat×V)} {gs:List Gd} {blks:List (Nat×Blk)} {fs:List Fr} {f:FuncId} {args args':List V} {bs M:List (Nat×Blk)} {res:V} {K:V->St->Prop} (r:List (Nat×Nat)) (k:Nat) (h:EffC P f args' bs res M)
  (hk:Qal (res.ren (Qbk r k)) fun v=>Qay (Qlj (Qbk r k) bs M (QpB (Qbk r k) M blks bs) M) fun bs=>K v ⟨base,nt,ts,gs,bs,fs⟩)
  (G:CellsLe args (QjF (Qbk r k) args'):=by exact QsG) (hi:inB blks (Qbk r k) bs:=by exact inA) (ha:QcR (Qbk r k) (QdP bs++Jx bs M)=true:=by kernel_rfl) (hm:(Jx bs M).all (fun j=>!(St.mentions ⟨base,nt,ts,gs,blks,fs⟩ (Qbk r k j)))=true:=by kernel_rfl):
  CallP P f args ⟨base,nt,ts,gs,blks,fs⟩ K:=Qz0 r k h G hi ha hm hk
theorem Qq9 {blk:Nat->Option Blk} {caps:List (List D)}:∀ {vs G:List V},QbZ blk vs=some G->QbZ blk (vs++caps.map .rp)=some (G++caps.map .rp)
 |[],G,h=>by
  simp[QbZ] at h;subst h
  induction caps with
  |nil=>rfl
  |cons c r I=>
   simp only[YA] at I;simp only[YC,YA,QbZ,QeZ,I]
 |v::r,G,h=>by
  simp only[QbZ] at h;split at h
  ·rename_i u1 us1 h1 h2
   cases h
   simp only[XA,QbZ,h1,Qq9 h2]
  ·cases h
theorem cDy {base nt:Nat} {ts:List (Nat×V)} {gs:List Gd} {bs:List (Nat×Blk)} {fs:List Fr} {f:FuncId} {args args':List V} {caps:List (List D)} {res:V} {K:V->St->Prop} (h:PureC P f (args'++caps.map .rp) res [])
  (hk:Qal (res.shift 0) fun v=>Qay bs fun bs=>K v ⟨base,nt,ts,gs,bs,fs⟩) (hv:QbZ (Qi bs) args=some args':=by kernel_rfl):
  CallP P f (args++caps.map .rp) ⟨base,nt,ts,gs,bs,fs⟩ K:=Qxf 0 h (Qq9 hv) rfl hk
inductive Fnv where
 |k (f:Nat)
 |r (f:Nat) (lo hi:Int)
 |w (f:Nat) (ws:List ByteArray)
deriving DecidableEq
instance:Inhabited Fnv:=⟨.k 0⟩
def Fnv.f:Fnv->Nat
 | .k f=>f
 | .r f _ _=>f
 | .w f _=>f
def Fnv.caps:Fnv->List (List D)
 | .k _=>[]
 | .r _ lo hi=>[[.int .i64 lo],[.int .i64 hi]]
 | .w _ ws=>[[slD encSb ws]]
@[reducible] def QbA (c:Fnv):List D:=[.fn c.f c.caps]
def QpG {α:Type} [Inhabited α] (xs:List α) (o l:Nat):List α:=(List.range xs.length).map fun i=>if o<=i∧i<o+l then default else xs.getD i default
@[simp] theorem QxB {α:Type} [Inhabited α] {xs:List α} {o l:Nat}:(QpG xs o l).length=xs.length:=by simp [QpG]
theorem Qng {α:Type} [Inhabited α] {enc:α->List D} {xs:List α} {n o l:Nat} {z:List D} (I:n=xs.length) (G:zLes z (enc default)):∀i,i<n->(o<=i∧i<o+l->zLes z (rows enc (QpG xs o l) i))∧(¬(o<=i∧i<o+l)->rows enc (QpG xs o l) i=rows enc xs i):=by
 intro i hi;subst I;have:(QpG xs o l).getD i default=if o<=i∧i<o+l then default else xs.getD i default:=by
  simp[QpG,Y1,hi]
 simp only[rows];rw[this];exact⟨fun h=>by rw[Y2 h];exact G,fun h=>by rw[Y0 h]⟩
def QxC (P:Program) (f:FuncId):Bool:=match P.funcs[f]? with
 | some fn => !(fn.name == "runtime.NumGoroutine") && !fn.body.isNone
 |none=>false
theorem cG {S S':St} {al l:List (Nat×Bool)} {f:FuncId} {args args':List V} {res:V} {K:V->St->Prop} {key:Nat} {want:Bool} (h:Qaz S al l (PureC P f args' res [])) (hk:K res S') (G:QxC P f=true:=by kernel_rfl)
  (hv:QbZ (Qi S'.blks) args=some args':=by kernel_rfl) (I:Qcl res=true:=by kernel_rfl) (hm:res.plain=true:=by kernel_rfl):CallG P (Qaz S al l) (Qev S' key want) f args S' K:=by
 unfold QxC at G;split at G
 ·rename_i fn e;rw[Y4,YF,YF] at G;exact Qxj e G.1 G.2 hv I hm h hk
 ·exact absurd G (by decide)
theorem Qln {f:FuncId} (G:QxC P f=true):Callable P f:=by
 unfold QxC at G;split at G
 ·rename_i fn e;rw[Y4,YF,YF] at G;exact⟨fn,e,G.1,G.2⟩
 ·exact absurd G (by decide)
theorem Qvo {S:St} {key:Nat} {want:Bool} {p q:Prop} (G:p->q) (hp:Qev S key want p):Qev S key want q:=Qmr G hp
theorem QwU {base nt:Nat} {ts:List (Nat×V)} {gs:List Gd} {blks:List (Nat×Blk)} {fs:List Fr} {al l:List (Nat×Bool)} {key:Nat} {want:Bool} {f:FuncId} {args args':List V} {bs M:List (Nat×Blk)} {res:V} {K:V->St->Prop}
  (r:List (Nat×Nat)) (k:Nat) (h:EffC P f args' bs res M) (hb:Qev ⟨base,nt,ts,gs,blks,fs⟩ key want False)
  (hk:Qal (res.ren (Qbk r k)) fun v=>Qay (Qlj (Qbk r k) bs M (QpB (Qbk r k) M blks bs) M) fun bs=>K v ⟨base,nt,ts,gs,bs,fs⟩)
  (I:QxC P f=true:=by kernel_rfl) (G:CellsLe args (QjF (Qbk r k) args'):=by exact QsG) (hi:inB blks (Qbk r k) bs:=by exact inA) (ha:QcR (Qbk r k) (QdP bs++Jx bs M)=true:=by kernel_rfl) (hm:(Jx bs M).all (fun j=>!(St.mentions ⟨base,nt,ts,gs,blks,fs⟩ (Qbk r k j)))=true:=by kernel_rfl):
  CallG P (Qaz ⟨base,nt,ts,gs,blks,fs⟩ al l) (Qev ⟨base,nt,ts,gs,blks,fs⟩ key want) f args ⟨base,nt,ts,gs,blks,fs⟩ K:=by
 have⟨fn,e,h1,h2⟩:=Qln I;exact QsQ r k e h1 h2 (QnD h) G hi ha hm (Qvo False.elim hb) hk
theorem QuM {S:St} {al l:List (Nat×Bool)} {key:Nat} {want:Bool} {f:FuncId} {args:List V} {K:V->St->Prop} (x:V) (hk:K x S) (G:Qaz S al l False) (I:QxC P f=true:=by kernel_rfl):
  CallG P (Qaz S al l) (Qev S key want) f args S K:=
 ⟨Qln I,x,S,hk,Qc4 (fun q=>q.elim) G,Qkb fun _ _ _ ρ _ _ h=>⟨ρ,h⟩⟩
theorem Qo {p q:Prop} {b:Bool} {α:Type} {x y:Option α} {r:α} (h:(if b=true then x else y)=some r) (hp:b=true->x=some r->p) (G:b=false->y=some r->q):(b=true->p)∧(b=false->q):=
 ⟨fun e=>hp e (Qy9 h e),fun e=>G e (Qza h e)⟩
theorem spI {p:Prop} {b:Bool} {α:Type} {x y:Option α} {r:α} (h:(if b=true then x else y)=some r) (hp:b=true->x=some r->p) (G:b=false->y=some r->p):p:=by
 cases hb:b
 ·exact G hb (Qza h hb)
 ·exact hp hb (Qy9 h hb)
theorem QfO {α β:Type} [Inhabited α] {xs:List α} {i:Nat} {e:α} {k:List α->Option β} {r:β} (h:bd (some (xs.set i e)) k=some r):∃y,xs.set i e=y∧y.length=xs.length∧k y=some r:=by
 have⟨y,h1,h2⟩:=Qb h;exact⟨y,Yw h1,Qxi (Yw h1),h2⟩
theorem Qf7 {α:Type} [Inhabited α] {enc:α->List D} {xs ys:List α} {n m:Nat} {r I:Nat->List D} {K:Nat->(Nat->List D)->Prop} (k:K (xs++ys).length (rows enc (xs++ys)))
  (G:n=xs.length:=by first|rfl|assumption|(refine XZ ?_;assumption)|(simp;done)|(simp[Q5]<;>omega)|omega) (hm:m=ys.length:=by first|rfl|assumption|(refine XZ ?_;assumption)|(simp;done)|(simp[Q5]<;>omega)|omega)
  (h1:∀i,i<n->r i=rows enc xs i:=by first|exact fun _ _=>rfl|exact QaZ|(intro i hi;simp only[Zq,QdB,Y0c,Yg,X0];exact QaZ i hi)|exact Qja|exact QhI|(intro i hi;simp only[Zq,Yg])|(intro i hi;simp[Zq]))
  (h2:∀i,i<m->I i=rows enc ys i:=by first|exact fun _ _=>rfl|exact QaZ|(intro i hi;simp only[Zq,QdB,Y0c,Yg,X0];exact QaZ i hi)|exact Qja|exact QhI|(intro i hi;simp only[Zq,Yg])|(intro i hi;simp[Zq])):
  ∃c row,c=n+m∧(∀i,i<c->row i=Qey n r I i)∧K c row:=
 ⟨(xs++ys).length,rows enc (xs++ys),by rw[Yk,G,hm],Qu9 G hm h1 h2,k⟩
theorem QyC {α:Type} [Inhabited α] {enc:α->List D} {ys:List α} {m:Nat} {G:Nat->List D} {K:Nat->(Nat->List D)->Prop} (k:K ys.length (rows enc ys))
  (hm:m=ys.length:=by first|rfl|assumption|(refine XZ ?_;assumption)|(simp;done)|(simp[Q5]<;>omega)|omega)
  (h2:∀i,i<m->G i=rows enc ys i:=by first|exact fun _ _=>rfl|exact QaZ|(intro i hi;simp only[Zq,QdB,Y0c,Yg,X0];exact QaZ i hi)|exact Qja|exact QhI|(intro i hi;simp only[Zq,Yg])|(intro i hi;simp[Zq])):
  ∃c row,c=m∧(∀i,i<c->row i=G i)∧K c row:=⟨ys.length,rows enc ys,hm.symm,Qtm hm h2,k⟩
theorem QbB {α:Type} {enc:α->List D} [Inhabited α] (ys:List α) {n:Nat} {rs:List (List D)} {K:Nat->(Nat->List D)->Prop} (k:K ys.length (rows enc ys)) (G:ys.length=n:=by kernel_rfl) (I:rs=ys.map enc:=by kernel_rfl):
  ∃c row,c=n∧(∀i,i<c->row i=rowAt rs i)∧K c row:=⟨ys.length,rows enc ys,G,by subst I;exact Qr7,k⟩
theorem QsH {α:Type} [Inhabited α] {enc:α->List D} {xs y:List α} {n r off:Nat} {ds:List D} {e:α} {K:(Nat->List D)->Prop} (I:xs.set r e=y) (k:K (rows enc y)) (G:n=xs.length:=by first|rfl|assumption|(refine XZ ?_;assumption)|(simp;done)|(simp[Q5]<;>omega)|omega) (h:QcO (rows enc xs r) off ds=enc e:=by kernel_rfl):
  ∃row,(∀i,i<n->row i=if i=r then QcO (rows enc xs r) off ds else rows enc xs i)∧K row:=⟨rows enc y,Qp5 I G h,k⟩
theorem gdI {c:Prop} {α:Type} {m:Option α} {r:α} {p:Prop} (h:gd c m=some r) (k:m=some r->p):c∧p:=⟨(Qf h).1,k (Qf h).2⟩
theorem aI {a b:Prop} (h:a) (k:b):a∧b:=⟨h,k⟩
theorem aK {a b:Prop} (k:b) (h:a:=by kernel_rfl):a∧b:=⟨h,k⟩
theorem pY (hT:TOk P tb) {f:FuncId} (fn:Func) {args:List V} {res:V} {nb:List Nb} (Y:P.funcs[f]? =some fn)
  (h : wpc P tb (JW fn) ⟨0, fn.ntmps, Qnk 0 args, [], [], []⟩ (Qz2 tb fn.results.toList res nb)) (hb : fn.body = some (JW fn) := by rfl) (U : (fn.name == "runtime.NumGoroutine") = false := by kernel_rfl)
  (hl:Nat.ble args.length fn.ntmps=true:=by kernel_rfl) (I:Qcl res=true:=by kernel_rfl) (J:∀b∈nb,∀i,i<b.n->∀d∈b.row i,Qi0 d=true:=by simp[Qi0]) (G:nb.Pairwise fun x y=>x.id≠y.id:=by simp) (O:∀id,res.mentions id=true->∃b∈nb,b.id=id:=by exact Qwv rfl):PureC P f args res nb:=
 Qxz hT Y hb h U hl I J G O
theorem eY (U:TOk P tb) {f:FuncId} (fn:Func) {args:List V} {res:V} {bs M:List (Nat×Blk)} (I:P.funcs[f]? =some fn)
  (h : wpc P tb (JW fn) ⟨0, fn.ntmps, Qnk 0 args, [], bs, [⟨Qtr 0 bs, []⟩]⟩ (QxA tb fn.results.toList res bs M)) (hb : fn.body = some (JW fn) := by rfl) (G : (fn.name == "runtime.NumGoroutine") = false := by kernel_rfl)
  (hl:Nat.ble args.length fn.ntmps=true:=by kernel_rfl) (s1:res.within (hasB M)=true:=by kernel_rfl) (J:QhK (hasB M) M=true:=by kernel_rfl) (O:QcR (fun i=>i) (QdP bs)=true:=by kernel_rfl):EffC P f args bs res M:=
 QdM U I hb h G hl s1 J O
theorem bC {α β:Type} {m:Option α} {g:α->Option β} {r:β} {base nt:Nat} {ts:List (Nat×V)} {gs:List Gd} {bs:List (Nat×Blk)} {fs:List Fr} {f:FuncId} {args args':List V} {res:α->V} {nb:α->List Nb} {K:V->St->Prop} (hb:bd m g=some r) (k:Nat) (h:∀x,m=some x->PureC P f args' (res x) (nb x))
  (hk:∀x,g x=some r->Qal ((res x).shift k) fun v=>Qay ((nb x).map (Nb.ent k)++bs) fun bs=>K v ⟨base,nt,ts,gs,bs,fs⟩) (hv:QbZ (Qi bs) args=some args':=by kernel_rfl) (hm:∀x,((nb x).all fun b=>!(St.mentions ⟨base,nt,ts,gs,bs,fs⟩ (b.id+k)))=true:=by intro _;kernel_rfl):
  CallP P f args ⟨base,nt,ts,gs,bs,fs⟩ K:=by
 have⟨x,G,h2⟩:=Qb hb;exact cC k (h x G) (hk x h2) hv (hm x)
theorem bE {α β:Type} {m:Option α} {g:α->Option β} {w:β} {base nt:Nat} {ts:List (Nat×V)} {gs:List Gd} {blks:List (Nat×Blk)} {fs:List Fr} {f:FuncId} {args args':List V} {bs:List (Nat×Blk)} {M:α->List (Nat×Blk)} {res:α->V} {K:V->St->Prop} (hb:bd m g=some w) (r:List (Nat×Nat)) (k:Nat) (h:∀x,m=some x->EffC P f args' bs (res x) (M x))
  (hk:∀x,g x=some w->Qal ((res x).ren (Qbk r k)) fun v=>Qay (Qlj (Qbk r k) bs (M x) (QpB (Qbk r k) (M x) blks bs) (M x)) fun bs=>K v ⟨base,nt,ts,gs,bs,fs⟩)
  (G:CellsLe args (QjF (Qbk r k) args'):=by exact QsG) (hi:inB blks (Qbk r k) bs:=by exact inA) (ha:∀x,QcR (Qbk r k) (QdP bs++Jx bs (M x))=true:=by intro _;kernel_rfl) (hm:∀x,(Jx bs (M x)).all (fun j=>!(St.mentions ⟨base,nt,ts,gs,blks,fs⟩ (Qbk r k j)))=true:=by intro _;kernel_rfl):
  CallP P f args ⟨base,nt,ts,gs,blks,fs⟩ K:=by
 have⟨x,I,h2⟩:=Qb hb;exact cE r k (h x I) (hk x h2) G hi (ha x) (hm x)
theorem bG {α β:Type} [Inhabited α] {c:Prop} {m:Option α} {g:α->Option β} {r:β} {S S':St} {al l:List (Nat×Bool)} {f:FuncId} {args args':List V} {res:α->V} {K:V->St->Prop} {key:Nat} {want:Bool} (hb:bd (gcall c m) g=some r) (h:∀x,m=some x->PureC P f args' (res x) []) (hk:∀x,g x=some r->K (res x) S') (hp:∀p:Prop,(c->p)->Qaz S al l p:=by exact fun _ k J=>k J) (I:QxC P f=true:=by kernel_rfl)
  (hv:QbZ (Qi S'.blks) args=some args':=by kernel_rfl) (G:∀x,Qcl (res x)=true:=by intro _;kernel_rfl) (hm:∀x,(res x).plain=true:=by intro _;kernel_rfl):CallG P (Qaz S al l) (Qev S' key want) f args S' K:=by
 have⟨x,O,h2⟩:=Qb hb;exact cG (hp _ fun hc=>h x (Qn O hc)) (hk x h2) I hv (G x) (hm x)
theorem eX {α β:Type} {y:α⊕β} {a:α} {S:St} {G:α->St} (hs:some (.inl a)=some y) (l:List Ed) (h:stK (QnK (Qxy (G a)) S) fun S=>edP l S fun I=>LeP I (G a):=by exact srA):∃s,y=.inl s∧LE S (G s):=by
 cases hs
 exact⟨a,rfl,leX l h⟩
theorem eZ {α:Type} {y a:α} {S:St} {G:α->St} (hs:some a=some y) (l:List Ed) (h:stK (QnK (Qxy (G a)) S) fun S=>edP l S fun I=>LeP I (G a):=by exact srA):∃s,y=s∧LE S (G s):=by
 obtain rfl:=Yw hs;exact⟨a,rfl,leX l h⟩
end Go.Ab
namespace Go.Ab
open Go.RowKit
variable {P:Program} {tb:Tb} {w:World} {ow:Nat→Prop} {ρ:Env} {a:Act} {B:Bd} {w0:World} {F:List (Array Value)} {S:St}
def Qqg (P:Program) (tb:Tb) (c:Code) (Q:Exit->St->Prop):Nat->St->Prop
 | 0, _ => Stuck "loop more rounds"
 |n+1,S=>wpc P tb c S fun e S'=>match e with
  | .normal=>Qqg P tb c Q n S'
  |e=>Q e S'
theorem Qo0 (I:TOk P tb) {c:Code} {Q:Exit->St->Prop}:∀ {n:Nat} {S:St} {ρ:Env} {a:Act} {w:World},Qqg P tb c Q n S->Sim P B w0 F ρ S a w->Code.rounds P c (fun e G w'=>∃ρ' S',Sim P B w0 F ρ' S' G w'∧Q e S') n a w
 |0,_,_,_,_,h,_=>h.no.elim
 |n+1,S,ρ,a,w,h,hs=>by
  rw[rounds_succ];refine wp_mono (Qam I c S _ h B w0 F ρ a w hs) ?_;rintro e G w' ⟨ρ',S',h1,h2⟩
  cases e with
  |normal=>exact Qo0 I h2 h1
  |_=>exact⟨ρ',S',h1,h2⟩
theorem QyY (G:TOk P tb) {c:Code} {Q:Exit->St->Prop} (n:Nat) (h:Qqg P tb c Q n S):LoopP P c S Q:=⟨fun _ _ _ _ _ _ hs=>wp_loop_rounds n (Qo0 G h hs)⟩
theorem QyZ {x y:Code} {Q:Exit->St->Prop} (I:List Nat) (l:List Ed) (h:stK (QnK I S) fun S=>edP l S fun G=>SeqP P x y G Q):SeqP P x y S Q:=by
 rw[QfS] at h;have⟨G,h1,h2⟩:=QfU l h;exact⟨Qw7 ((Qiy _).trans h1) h2.out⟩
end Go.Ab
namespace Go.Ab
open Go.RowKit
variable {P:Program} {tb:Tb} {w:World} {ow:Nat→Prop} {ρ:Env} {a:Act} {B:Bd} {w0:World} {F:List (Array Value)} {S:St}
structure BoxOk (t:TypeId) (sz n:Nat) (row:Nat→List D) (cs:List V):Prop where
 pos:1≤n
 small:t<1000000
 len:cs.length=n*sz
 cells:∀i j,i<n→j<sz→∃d,(row i)[j]? =some d∧cs[i*sz+j]? =some (.d d)
theorem BoxOk.rows {α:Type} [Inhabited α] {enc:α->List D} {ys:List α} {t:TypeId} {sz:Nat} (hs:∀y,(enc y).length=sz) (I:1<=ys.length) (ht:t<1000000):BoxOk t sz ys.length (Ab.rows enc ys) ((ys.map enc).flatten.map V.d):=by
 have key:∀(ys:List α) (i j:Nat),i<ys.length->j<sz->((ys.map enc).flatten)[i*sz+j]? =(enc (ys.getD i default))[j]?:=by
  intro ys
  induction ys with
  |nil=>intro i j hi;simp at hi
  |cons y r G=>
   intro i j hi hj
   cases i with
   |zero=>
    simp only[YC,List.flatten_cons,Nat.zero_mul,Yg,YT];rw[Yy (by rw[hs];exact hj)]
   |succ i=>
    have:=G i j (by simpa using hi) hj;simp only[YC,List.flatten_cons,List.getD_cons_succ];rw[YX (by rw[hs,Yj];omega),hs,show(i+1)*sz+j-sz=i*sz+j by rw[Yj];omega];exact this
 refine⟨I,ht,?_,fun i j hi hj=>?_⟩
 ·have hl:∀ys:List α,((ys.map enc).flatten).length=ys.length*sz:=by
   intro ys
   induction ys with
   |nil=>simp
   |cons y r G=>simp only[YC,List.flatten_cons,Yk,Ye,hs,G,Yj];omega
  rw[Ya,hl]
 ·have h1:(enc (ys.getD i default))[j]? =some ((enc (ys.getD i default)).getD j .nil):=by
   rw[Y1 (l:=enc (ys.getD i default)),Y7 (by rw[hs];exact hj)];rfl
  refine⟨(enc (ys.getD i default)).getD j .nil,h1,?_⟩;rw[Yz,key ys i j hi hj,h1]
  rfl
theorem BR.arrBox {id:Nat} {t:TypeId} {sz n:Nat} {row:Nat->List D} {cs:List V} (h:BoxOk t sz n row cs) (hb:BR w ow ρ id (.arr t sz n row)):BR w ow ρ id (.box (bty n t) cs):=by
 cases hb with
 |arr0 _ _ _ J=>have:=h.pos;omega
 |arr C et h1 h2 h3 h4 h5 h6 Y h8=>
  have I:∀j,j<cs.length->∃d,cs[j]? =some (.d d)∧DR w ow d (C.getD ((ρ id).o+j) undef):=fun j hj=>by
   have O:0<sz:=by
    rcases X9 sz with J|J
    ·rw[h.len,J,Y0r] at hj;omega
    ·exact J
   have hi:j/sz<n:=Y02 (by rw[Xv,<-h.len];exact hj);have U:j%sz<sz:=Nat.mod_lt _ O;have e:j/sz*sz+j%sz=j:=Y0k j sz;have⟨d,h9,G⟩:=h.cells (j/sz) (j%sz) hi U;rw[e] at G;refine⟨d,G,?_⟩;have:=h8 (j/sz) (j%sz) d hi h9;rwa[Xi,e] at this
  have hle:n*sz<=(ρ id).cap*sz:=Yf _ h4;refine .box C h1 (Yt _) (by rw[h2,h3];exact h.len) ⟨by rw[Qgx h.pos h.small,h3];have:=h.pos;omega,by rw[h3];exact h4,fun J=>by rw[Qgx h.pos h.small] at J;have:=h.pos;omega⟩ h6 ⟨by rw[h.len];omega,by rw[h2];exact Y⟩ (fun j hj=>?_) fun j v hj=>?_
  ·have⟨d,_,G⟩:=I j hj;exact G.oneCell
  ·have⟨d,h9,G⟩:=I j (Y8.1 hj).1;rw[h9] at hj
   cases hj
   exact .d G
def tbV (id sz:Nat):V->V
 | .ref i r o=>match Nat.beq i id with
  |true=>.ref i 0 (r*sz+o)
  |false=>.ref i r o
 |v=>v
def tbT (id sz:Nat) (ts:List (Nat×V)):List (Nat×V):=ts.map fun p=>(p.1,tbV id sz p.2)
theorem VR.tbx {id sz:Nat} {v:V} {x:Value} (hs:(ρ id).ph=false->(ρ id).sz=sz) (h:VR w ow ρ v x):VR w ow ρ (tbV id sz v) x:=by
 cases v<;>try exact h
 rename_i i r o;simp only[tbV];split
 ·rename_i hb;have:=Y5 hb;subst this
  cases h with
  |ref h1 h2=>
   have:=VR.ref (w:=w) (own:=ow) (ρ:=ρ) (id:=i) (row:=0) (off:=r*sz+o) h1 (by omega);rw[Nat.zero_mul,X0,<-hs h1,<-Xi] at this;rw[<-hs h1];exact this
 ·exact h
theorem QxD {id:Nat} {t:TypeId} {sz n:Nat} {row:Nat->List D} {cs:List V} (hb:Qi S.blks id=some (.arr t sz n row)) (hk:BoxOk t sz n row cs) (h:Sim P B w0 F ρ S a w):
  Sim P B w0 F ρ ⟨S.base,S.nt,tbT id sz S.tmps,S.gds,QfQ S.blks id (.box (bty n t) cs),S.frames⟩ a w:=by
 have keep:Keep w (ZL B S.blks ρ) w (ZL B (QfQ S.blks id (.box (bty n t) cs)) ρ):=⟨Yi _,fun b _ ho=>⟨rfl,fun h=>ho (h.imp (Qkf hb) fun h=>h)⟩⟩;have Y:(ρ id).ph=false->(ρ id).sz=sz:=fun hp=>by
  have:=h.blks id _ hb
  cases this with
  |arr0 h1=>rw[h1] at hp;cases hp
  |arr C et h1 h2=>exact h2
 have I:∀i x,Qi (QfQ S.blks id (.box (bty n t) cs)) i=some x->∃U,Qi S.blks i=some U:=fun i x J=>by
  rcases JG J with ⟨rfl,_,b,hb⟩|⟨_,hb⟩
  ·exact⟨b,hb⟩
  ·exact⟨x,hb⟩
 refine⟨h.below,h.tab,h.hB,h.defers,h.nt,⟨fun t v hv=>?_,fun g hg=>(h.top.gds g hg).keep keep fun _ _=>rfl⟩,fun i b G=>?_,fun i j x y J hy=>?_,fun i x J hp=>?_,h.frames.1,fun i f tm hf ht=>(h.frames.2 i f tm hf ht).keep keep fun _ _=>rfl⟩
 ·simp only[tbT] at hv;rw[Qke (tbV id sz)] at hv;obtain⟨u,hu,rfl⟩:=Yc.1 hv;exact((h.top.tmps t u hu).tbx Y).keep keep fun _ _=>rfl
 ·rcases JG G with ⟨rfl,rfl,_⟩|⟨_,G⟩
  ·exact((h.blks i _ hb).arrBox hk).keep keep rfl (fun _=>rfl) fun _ _=>rfl
  ·exact(h.blks i b G).keep keep rfl (fun _=>rfl) fun _ _=>rfl
 ·have⟨U,a1⟩:=I i x J;have⟨y0,O⟩:=I j y hy;exact h.sep i j U y0 a1 O
 ·rcases JG J with ⟨rfl,rfl,_⟩|⟨_,G⟩
  ·have:=h.ge i _ hb hp;exact⟨this.blk,fun k hc=>by have:=(this.cel k hc).1;cases this⟩
  ·exact h.ge i x G hp
noncomputable def QAh (id:Nat):St->(St->Prop)->Prop
 |⟨base,nt,ts,gs,bs,fs⟩,K=>match Qi bs id with
  |some (.arr t sz n row)=>∃m cs,m=n∧BoxOk t sz n row cs∧QeW (tbT id sz ts) fun G=>Qaq cs fun I=>Qay (QfQ bs id (.box (bty m t) I)) fun bs'=>K ⟨base,nt,G,gs,bs',fs⟩
  | _ => Stuck "written out no such row"
structure CodeP (P:Program) (c:Code) (S:St) (Q:Exit→St→Prop):Prop where
 out:WP P c S Q
theorem Qw0 {x y:Code} {Q:Exit->St->Prop} (J:List Nat) (id:Nat) (h:stK (QnK J S) fun S=>QAh id S fun G=>SeqP P x y G Q):SeqP P x y S Q:=by
 rw[QfS] at h;generalize O:QnK J S=G at h;have I:LE S G:=O▸Qiy J;have⟨base,nt,ts,gs,bs,fs⟩:=G;simp only[QAh] at h;split at h
 ·rename_i t sz n row hb;obtain⟨m,cs,rfl,hk,h⟩:=h;rw[QbX,Za,ZV] at h;exact⟨Qw7 (I.trans ⟨fun B w0 F ρ a w hs=>⟨ρ,QxD (S:=⟨base,nt,ts,gs,bs,fs⟩) hb hk hs⟩⟩) h.out⟩
 ·exact h.no.elim
end Go.Ab
