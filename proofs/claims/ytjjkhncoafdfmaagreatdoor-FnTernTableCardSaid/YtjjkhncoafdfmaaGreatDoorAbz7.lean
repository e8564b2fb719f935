/-
  Two library functions whose own text is walked once, at elements of several cells: a part of the frame in which a given row's proof walks the program; no condition.
-/
import Derived.Test.YtjjkhncoafdfmaaGreatDoorAbz6
import Derived.Shelf.SlBodiesN
import Derived.Shelf.SlGeneric
import Derived.Shelf.RegionOpenPlain
import Derived.WalkKit
import Derived.Deep.LoopGhost
import Derived.Deep.RegionLaw
import Derived.Lib.Walk
import Derived.Sort.WalkB12
import Derived.Lib.SliceRun
import Derived.Shelf.Spec.SlicesInsert
import Derived.Lib.AppendZerosOnto
set_option linter.all false
namespace Go.Ab
set_option maxRecDepth 1000000
open Go.Shelf Go.RowKit Go.Lib Go.Proofs
variable {P:Program} {ρ:Ren}
structure LDel (P:Program) (ρ:Ren) (sz:Nat) (z:Value):Prop where
 mixed:P.follows .mixedOrders=true
 f45:Bears P (ρ.f 45) (SlBodyN.n45 ρ)
 t0:P.underlying (ρ.t 0)=some (TypeDesc.tuple #[])
 a0:∀w,(isAgg (ρ.t 0)).run P w=.ok false w
 z0:∀w,(Go.sizeOf (ρ.t 0)).run P w=.ok 1 w
 v0:∀w,(zeroValue (ρ.t 0)).run P w=.ok (Value.tuple #[]) w
 t3:P.underlying (ρ.t 3)=some (TypeDesc.int IntKind.i64)
 a3:∀w,(isAgg (ρ.t 3)).run P w=.ok false w
 z3:∀w,(Go.sizeOf (ρ.t 3)).run P w=.ok 1 w
 v3:∀w,(zeroValue (ρ.t 3)).run P w=.ok (Value.int IntKind.i64 0) w
 t4:P.underlying (ρ.t 4)=some (TypeDesc.bool)
 a4:∀w,(isAgg (ρ.t 4)).run P w=.ok false w
 z4:∀w,(Go.sizeOf (ρ.t 4)).run P w=.ok 1 w
 v4:∀w,(zeroValue (ρ.t 4)).run P w=.ok (Value.bool false) w
 t22:P.underlying (ρ.t 22)=some (TypeDesc.slice (ρ.t 23))
 a22:∀w,(isAgg (ρ.t 22)).run P w=.ok false w
 z22:∀w,(Go.sizeOf (ρ.t 22)).run P w=.ok 1 w
 v22:∀w,(zeroValue (ρ.t 22)).run P w=.ok (Value.slice none 0 0) w
 i23:∃i,P.info? (ρ.t 23)=some i∧i.size=sz
 z23:∀w,(Go.sizeOf (ρ.t 23)).run P w=.ok sz w
 v23:∀w,(zeroValue (ρ.t 23)).run P w=.ok z w
 c23:z.cells.size=sz
 o23:∀u∈z.cells.toList,u.oneCell'=true
theorem QfZ {c:Array Value} {n:Nat}:(Builtin.zeroCells c n).toList.length=n*c.size:=by
 simp[Builtin.zeroCells]
theorem QoH {c:Array Value} {n:Nat} (h:∀u∈c.toList,u.oneCell'=true):∀u∈(Builtin.zeroCells c n).toList,u.oneCell'=true:=by
 intro u J;simp only[Builtin.zeroCells,Array.toList_map,Yo] at J;obtain⟨i,hi,rfl⟩:=J;have hi:i<n*c.size:=by simpa using hi
 have hs:0<c.size:=by
  rcases Xn c.size with e|e
  ·rw[e,Y0z] at hi;omega
  ·exact e
 have I:i%c.size<c.size:=Y18 _ hs;rw[Y10 c (i%c.size) I];exact h _ (by simp)
theorem Qme (w:World) (t e ty:TypeId) (z:Value) (J:P.underlying t=some (.slice e)) (hv:∀w,(zeroValue e).run P w=.ok z w) (h1:∀u∈z.cells.toList,u.oneCell'=true) (b o n c:Nat) (hn:0<n)
  (hc:∀j,j<n*z.cells.size->(w.cell? ⟨b,o+j,none⟩).isSome=true) (N:∀j,j<n*z.cells.size->w.frozen? ⟨b,o+j,none⟩=false):
  (Builtin.clear_ #[t] ty #[.slice (some ⟨b,o,none⟩) n c]).run P w=.ok (.tuple #[]) (w.setCells b o (Builtin.zeroCells z.cells n).toList):=by
 have I:=run_storeCells_cells (P:=P) b o (Builtin.zeroCells z.cells n).toList 0 w (by rw[QfZ];simpa using hc) (by rw[QfZ];simpa using N) (QoH h1);simp only[X3] at I;obtain⟨m,rfl⟩:∃m,n=m+1:=⟨n-1,by omega⟩;simp[Builtin.clear_,run_underlying J,hv,I]
theorem Qxa {sz:Nat} {z:Value} (L:LDel P ρ sz z) (a:Option Addr) (n cap i:Nat) (w:World) (hi:i<=n) (hcap:n<=cap):
  Calls P (ρ.f 45) #[.slice a n cap,.int .i64 i,.int .i64 i] w fun e w'=>e=.returned (.slice a n cap)∧w'=w:=by
 have mixed:=L.mixed;have t0:=L.t0;have a0:=L.a0;have z0:=L.z0;have v0:=L.v0;have t3:=L.t3;have a3:=L.a3;have z3:=L.z3;have v3:=L.v3;have t4:=L.t4;have a4:=L.a4;have z4:=L.z4;have v4:=L.v4;have t22:=L.t22;have a22:=L.a22;have z22:=L.z22;have v22:=L.v22;have z23:=L.z23;have⟨_,_,I⟩:=L.f45
 go_enter I,SlBodyN.n45_ntmps ρ
 go_wp2
 all_goals (go_ret;exact⟨rfl,rfl⟩)
theorem Qzy {sz:Nat} {z:Value} (L:LDel P ρ sz z) (blk off n cap i j:Nat) (w:World) (news:List Value) (hlt:i<j) (hj:j<=n) (hcap:n<=cap)
  (O:news.length=(n-j)*sz) (N:∀t u,news[t]? =some u->w.cell? ⟨blk,off+j*sz+t,none⟩=some u) (h1:∀u∈news,u.oneCell'=true)
  (U:∀t,t<n*sz->(w.cell? ⟨blk,off+t,none⟩).isSome=true∧w.frozen? ⟨blk,off+t,none⟩=false):
  Calls P (ρ.f 45) #[.slice (some ⟨blk,off,none⟩) n cap,.int .i64 i,.int .i64 j] w fun e w'=>e=.returned (.slice (some ⟨blk,off,none⟩) (n-(j-i)) cap)∧
   w'=(w.drew.setCells blk (off+i*sz) news).setCells blk (off+(i+(n-j))*sz) (Builtin.zeroCells z.cells (n-(i+(n-j)))).toList:=by
 have mixed:=L.mixed;have t0:=L.t0;have a0:=L.a0;have z0:=L.z0;have v0:=L.v0;have t3:=L.t3;have a3:=L.a3;have z3:=L.z3;have v3:=L.v3;have t4:=L.t4;have a4:=L.a4;have z4:=L.z4;have v4:=L.v4;have t22:=L.t22;have a22:=L.a22;have z22:=L.z22;have v22:=L.v22;have z23:=L.z23;have⟨i0,a7,a9⟩:=L.i23;have I:∀ {a b:Nat},a<=b->a*sz<=b*sz:=fun h=>Yf sz h;obtain⟨A,hA,a2⟩:∃A:Addr,(if cap=j then(some ⟨blk,off,none⟩:Option Addr) else some ⟨blk,off+j*sz,none⟩)=some A∧Hid (∀t u,news[t]? =some u->w.drew.cell? (A.add t)=some u):=by
  by_cases h:cap=j
  ·refine⟨⟨blk,off,none⟩,by simp[h],fun t u hu=>?_⟩;have h0:news.length=0:=by rw[O,show n-j=0 by omega,Nat.zero_mul]
   rw[XR.1 h0] at hu;simp at hu
  ·refine⟨⟨blk,off+j*sz,none⟩,by simp[h],fun t u hu=>?_⟩;rw[Addr.add_lit];exact N t u hu
 have s1:Hid (news.length=(n-j)*sz):=O;have s2:Hid (∀u∈news,u.oneCell'=true):=h1;have a8:i*sz+(n-j)*sz<=n*sz:=by rw[<-Yk];exact I (by omega)
 have s3:Hid (∀t,t<news.length->(w.drew.cell? ⟨blk,off+i*sz+t,none⟩).isSome=true∧w.drew.frozen? ⟨blk,off+i*sz+t,none⟩=false):=by
  intro t ht;rw[O] at ht;rw[Xk];exact U (i*sz+t) (by omega)
 obtain⟨W1,Y⟩:∃W1,W1=w.drew.setCells blk (off+i*sz) news:=⟨_,rfl⟩;have J:∀k,k<n*sz->(W1.cell? ⟨blk,off+k,none⟩).isSome=true:=fun k hk=>by
  rw[Y]
  by_cases hin:off+i*sz<=off+k∧off+k<off+i*sz+news.length
  ·have:=World.cell?_setCells_in blk news (off+i*sz) w.drew (fun t ht=>(s3 t ht).1) (off+k-(off+i*sz)) (by omega);rw[show off+i*sz+(off+k-(off+i*sz))=off+k by omega] at this;rw[this];rfl
  ·rw[World.cell?_setCells_out blk news (off+i*sz) w.drew ⟨blk,off+k,none⟩ (fun _ _=>by show off+k<off+i*sz∨off+i*sz+news.length<=off+k;omega)];exact(U k hk).1
 have a1:∀k,k<n*sz->W1.frozen? ⟨blk,off+k,none⟩=false:=fun k hk=>by
  rw[Y,World.frozen?_setCells];exact(U k hk).2
 have a6:(i+(n-j))*sz+(n-(i+(n-j)))*sz<=n*sz:=by rw[<-Yk];exact I (by omega)
 have a5:∀ty,(Builtin.clear_ #[ρ.t 22] ty #[.slice (some ⟨blk,off+(i+(n-j))*sz,none⟩) (n-(i+(n-j))) (cap-(i+(n-j)))]).run P W1=.ok (.tuple #[]) (W1.setCells blk (off+(i+(n-j))*sz) (Builtin.zeroCells z.cells (n-(i+(n-j)))).toList):=
  fun ty=>Qme W1 _ _ ty z t22 L.v23 L.o23 blk (off+(i+(n-j))*sz) _ _ (by omega) (fun t ht=>by rw[L.c23] at ht;rw[Xk];exact J _ (by omega)) (fun t ht=>by rw[L.c23] at ht;rw[Xk];exact a1 _ (by omega))
 have hW:Hid (W1=w.drew.setCells blk (off+i*sz) news):=Y;have hic:i<=cap:=by omega
 have hjc:j<=cap:=by omega
 have hne:¬cap=i:=by omega
 have hne2:¬cap=i+(n-j):=by omega
 clear Y J a1 U N O a8 a6 I;generalize (Builtin.zeroCells z.cells (n-(i+(n-j)))).toList=Z at a5|-;have⟨_,_,FG⟩:=L.f45
 go_enter FG,SlBodyN.n45_ntmps ρ
 go_wp2_with fail
 go_region_law_o (refine step_append_room rfl (.tmp 22) (.tmp 25) (ρ.t 22) rfl (ρ.t 23) i0 sz t22 a7 a9 blk off i cap (by simp[Act.eval,Act.put]) A (n-j) (cap-j) news (by simp[Act.eval,Act.put]) s1.out a2.out s2.out (by omega) s3.out ?_;rw[<-hW.out])
 go_wp2
 go_ret
 exact⟨by rw[show n-(j-i)=i+(n-j) by omega];rfl,by rw[hW.out]⟩
theorem QBw {f : FuncId} {fn : Func} {c : Code} (J : P.funcs[f]? = some fn) (hb : fn.body = some c) (I : (fn.name == "runtime.NumGoroutine") = false) : Callable P f := ⟨fn, J, I, by simp [hb]⟩
theorem QgU (b:Nat):∀(vs:List Value) (o:Nat) (w:World) {C:Array Value} {et:TypeId} {I:Nat×Nat},w.heap[b]? =some (.cells C et I)->o+vs.length<=C.size->
  ∃J,(w.setCells b o vs).heap[b]? =some (.cells J et I)∧J.size=C.size∧∀k,J.getD k undef=if o<=k∧k<o+vs.length then vs.getD (k-o) undef else C.getD k undef
 |[],o,w,C,et,I,h,_=>⟨C,h,rfl,fun k=>by rw[Y3 (by simp<;>omega)]⟩
 |v::r,o,w,C,et,I,h,hl=>by
  simp only[Y8] at hl;have h1:(w.setCell ⟨b,o,none⟩ v).heap[b]? =some (.cells (C.setIfInBounds o v) et I):=by
   simp[World.setCell,Y0l,h]
  have⟨J,Y,g2,U⟩:=QgU b r (o+1) _ h1 (by simp;omega);refine⟨J,Y,by rw[g2];simp,fun k=>?_⟩;rw[U];simp only[Y8]
  by_cases N:o+1<=k∧k<o+1+r.length
  ·rw[Y4 N,Y4 (by omega),show k-o=(k-(o+1))+1 by omega];simp[Y0]
  ·rw[Y3 N]
   by_cases O:k=o
   ·subst O;rw[Y4 (by omega)];simp[Y7,Y0,show k<C.size by omega]
   ·rw[Y3 (by omega)];simp[Y7,YO,YY O]
theorem Qf0 (b:Nat):∀(vs:List Value) (o:Nat) (w:World),(∀k,k≠b->(w.setCells b o vs).heap[k]? =w.heap[k]?)∧(w.setCells b o vs).heap.size=w.heap.size∧(w.setCells b o vs).os=w.os∧(w.setCells b o vs).tape=w.tape∧(w.setCells b o vs).output=w.output
 |[],_,_=>⟨fun _ _=>rfl,rfl,rfl,rfl,rfl⟩
 |v::r,o,w=>by
  have⟨h1,h2,h3,h4,h5⟩:=Qf0 b r (o+1) (w.setCell ⟨b,o,none⟩ v);refine⟨fun k I=>(h1 k I).trans ?_,h2.trans ?_,h3,h4,h5⟩
  ·simp[World.setCell,Y0l,YY I]
  ·simp[World.setCell]
theorem QtK {w:World} {ow:Nat->Prop} {ρ:Env} {u:V} {a b:Int} {vals:Array Value} (h:Qhq w ow ρ [u,.d (.int .i64 a),.d (.int .i64 b)] vals):∃v,vals=#[v,.int .i64 a,.int .i64 b]∧VR w ow ρ u v:=by
 have⟨h1,h2⟩:=h;have h1:vals.size=3:=h1;have e1:=h2 1 _ rfl;have N:=h2 2 _ rfl;have J:vals.getD 1 undef=.int .i64 a:=by generalize vals.getD 1 undef=y at e1|-;cases e1 with|d e=>cases e;rfl
 have I:vals.getD 2 undef=.int .i64 b:=by generalize vals.getD 2 undef=y at N|-;cases N with|d e=>cases e;rfl
 refine⟨vals.getD 0 undef,?_,h2 0 u rfl⟩
 apply Y1d
 ·simp[h1]
 ·intro i hi _;have:i=0∨i=1∨i=2:=by omega
  rcases this with rfl|rfl|rfl
  ·simp[Y7,hi]
  ·rw[Y7,X8 hi] at J;exact J
  ·rw[Y7,X8 hi] at I;exact I
theorem Qbh {i k:Nat} {x b:Blk} (h:Qk [(k,b)] i=some x):i=k∧x=b:=by
 simp only[Qk] at h;split at h
 ·rename_i I;exact⟨(Y9 I).symm,(YC h).symm⟩
 ·cases h
def QmZ {α:Type} (xs:List α) (i j:Nat):List α:=xs.take i++xs.drop j
theorem Qxb {α:Type} {xs:List α} {i j:Nat} (hij:i<=j) (hj:j<=xs.length):(QmZ xs i j).length=xs.length-(j-i):=by simp[QmZ];omega
theorem Qxc {α:Type} [Inhabited α] {xs:List α} {i j q:Nat} (hij:i<=j) (hj:j<=xs.length) (hq:q<xs.length-(j-i)):(QmZ xs i j).getD q default=xs.getD (if q<i then q else j+(q-i)) default:=by
 have hl:(xs.take i).length=i:=by simp;omega
 unfold QmZ;split
 ·rename_i h;simp[Y0,YS (show q<(xs.take i).length by omega),YP,h]
 ·rename_i h;simp[Y0,YZ (show(xs.take i).length<=q by omega),hl,YQ]
theorem QwE {α:Type} [Inhabited α] {enc:α->List D} {t:TypeId} {sz:Nat} {z:Value} (L:LDel P ρ sz z) (can:Callable P (ρ.f 45)) (a6:∀x,(enc x).length=sz) {xs:List α} {i j:Nat} (b9:i<=j) (hj:j<=xs.length):
  EffC P (ρ.f 45) [.osl 9000 0 xs.length,.d (.int .i64 i),.d (.int .i64 j)] [(9000,.arr t sz xs.length (rows enc xs))] (.osl 5001 0 (QmZ xs i j).length) [(5001,.arr t sz (QmZ xs i j).length (rows enc (QmZ xs i j)))]:=by
 refine⟨can,rfl,rfl,fun Z w vals ρ0 hv b4 hsep hZ hlt htab=>?_⟩;obtain⟨v,rfl,c6⟩:=QtK hv;have hb:=b4 9000 _ rfl;obtain⟨ad,c,rfl,h1,h2⟩:=c6.osl_inv;have c5:=Qxb (xs:=xs) b9 hj;have hnz:(ρ0 9000).n=xs.length:=by
  cases hb with
  |arr0 _ _ h _=>exact h
  |arr _ _ _ _ h=>exact h
 have a5:∀ {l:Loc},l.ph=(ρ0 9000).ph->l.b=(ρ0 9000).b->∀ {y:Blk} {b:Nat},own [(5001,y)] (fun _=>l) b->own [(9000,Blk.arr t sz xs.length (rows enc xs))] ρ0 b:=fun {l} e1 e2 {y b} ⟨i,k,N,hp,hb⟩=>⟨9000,_,rfl,by rw[<-e1];exact hp,by rw[<-e2];exact hb⟩
 by_cases c2:i=j
 ·subst c2;have c4:QmZ xs i i=xs:=by simp[QmZ]
  refine Calls.mono (Qxa L ad xs.length c i w hj (by rcases h2 with ⟨h2,h3⟩|⟨_,h3,_,h4⟩<;>omega)) ?_;rintro e w' ⟨rfl,rfl⟩;rw[c4];refine⟨_,fun _=>ρ0 9000,rfl,Qi4 (fun i x I=>by rw[(Qbh I).2];rfl) (Kept.refl _ _),fun i x y I hy=>?_,?_,?_,fun i j x y I hy _ _ _=>(Qbh I).1.trans (Qbh hy).1.symm,fun i x I hp=>⟨.inr ⟨9000,_,rfl,hp,rfl⟩,fun k hc=>(Qk9 (fun i x I=>by rw[(Qbh I).2];rfl) hc).elim⟩⟩
  ·obtain⟨rfl,_⟩:=Qbh I;have⟨h,_⟩:=Qbh hy
   cases h
  ·rcases h2 with ⟨h2,rfl⟩|⟨hp,h3,rfl,rfl⟩
   ·rw[h2];exact .osl0 rfl (XW _)
   ·exact .osl hp (by omega) h3
  ·intro i b a9;obtain⟨rfl,rfl⟩:=Qbh a9;have keep:Keep w' (fun x=>own [(9000,Blk.arr t sz xs.length (rows enc xs))] ρ0 x∨Z x) w' (fun x=>own [(5001,Blk.arr t sz xs.length (rows enc xs))] (fun _=>ρ0 9000) x∨Z x):=⟨Yh _,fun b _ ho=>⟨rfl,fun h=>ho (h.imp (a5 rfl rfl) fun h=>h)⟩⟩
   cases hb with
   |arr0 g1 g2 g3 g4=>exact .arr0 g1 g2 g3 g4
   |arr C et g1 g2 g3 g4 g5 g6 g7 g8=>exact .arr C et g1 g2 g3 g4 g5 g6 g7 fun i j d hi hd=>(g8 i j d hi hd).keep keep
 ·have b8:i<j:=by omega
  rcases h2 with ⟨h2,_⟩|⟨hp,h3,rfl,rfl⟩
  ·omega
  cases hb with
  |arr0 h _ _ _=>rw[hp] at h;cases h
  |arr C et g1 g2 g3 g4 g5 g6 g7 g8=>
  have hcs:xs.length*sz<=(ρ0 9000).cap*sz:=Yf _ g4;have e0:(ρ0 9000).o+0*(ρ0 9000).sz=(ρ0 9000).o:=by omega
  rw[e0];generalize hO:(ρ0 9000).o=O at*;generalize hB:(ρ0 9000).b=J at*;have b0:∀q k,q<xs.length->k<sz->q*sz+k<xs.length*sz∧(C.getD (O+q*sz+k) undef).oneCell'=true:=fun q k hq N=>by
   have:(q+1)*sz<=xs.length*sz:=Yf _ (by omega);rw[Yk] at this;refine⟨by omega,(g8 q k ((rows enc xs q)[k]'(by rw[g5 q hq];exact N)) hq (Y5 _)).oneCell⟩
  have hjs:j*sz+(xs.length-j)*sz=xs.length*sz:=by rw[<-Yk];congr 1;omega
  obtain⟨news,U⟩:∃news,news=(List.range ((xs.length-j)*sz)).map fun k=>C.getD (O+j*sz+k) undef:=⟨_,rfl⟩;have b7:news.length=(xs.length-j)*sz:=by rw[U];simp
  have a7:∀k,k<(xs.length-j)*sz->news[k]? =some (C.getD (O+j*sz+k) undef):=fun k N=>by rw[U];simp[N]
  have b5:=Qzy L J O xs.length ((ρ0 9000).cap-0) i j w news b8 hj (by omega) b7 (fun k u hu=>by
    have N:k<(xs.length-j)*sz:=by have:=(Ya.1 hu).1;omega
    rw[a7 k N] at hu;rw[Qbr g6 (by omega)];exact hu) (fun u hu=>by
    obtain⟨k,N,rfl⟩:=Y0o.1 hu;have a8:k<(xs.length-j)*sz:=by omega
    have:=a7 k a8;rw[Y5 N] at this;rw[YC this];have c3:0<sz:=by
     rcases Xn sz with h|h
     ·rw[h,Y0z] at a8;omega
     ·exact h
    have hq:k/sz<xs.length-j:=Y05 (by rw[Xm];exact a8);have:=(b0 (j+k/sz) (k%sz) (by omega) (Y18 _ c3)).2;rw[Yk] at this;have e:=Y19 k sz;rw[show O+j*sz+k=O+(j*sz+k/sz*sz)+k%sz by omega];exact this) (fun k N=>⟨by rw[Qbr g6 (by omega)];rfl,frozen_of_row w _ _ C et g6⟩)
  refine Calls.mono b5 ?_;rintro e w' ⟨rfl,rfl⟩;have hin:i*sz+(xs.length-j)*sz<=xs.length*sz:=by rw[<-Yk];exact Yf _ (by omega)
  have hzl:(Builtin.zeroCells z.cells (xs.length-(i+(xs.length-j)))).toList.length=(xs.length-(i+(xs.length-j)))*sz:=by rw[QfZ,L.c23]
  have hin2:(i+(xs.length-j))*sz+(xs.length-(i+(xs.length-j)))*sz<=xs.length*sz:=by rw[<-Yk];exact Yf _ (by omega)
  have⟨C1,a1,a2,a3⟩:=QgU J news (O+i*sz) w.drew (show w.drew.heap[J]? =_ from g6) (by omega);have⟨C2,b1,b2,b3⟩:=QgU J (Builtin.zeroCells z.cells (xs.length-(i+(xs.length-j)))).toList (O+(i+(xs.length-j))*sz) _ a1 (by omega);have⟨r1,r2,r3,r4,r5⟩:=Qf0 J news (O+i*sz) w.drew;have⟨q1,q2,q3,q4,q5⟩:=Qf0 J (Builtin.zeroCells z.cells (xs.length-(i+(xs.length-j)))).toList (O+(i+(xs.length-j))*sz) (w.drew.setCells J (O+i*sz) news);have Y:own [(9000,Blk.arr t sz xs.length (rows enc xs))] ρ0 J:=⟨9000,_,rfl,hp,hB⟩;have keep:Keep w (fun x=>own [(9000,Blk.arr t sz xs.length (rows enc xs))] ρ0 x∨Z x) ((w.drew.setCells J (O+i*sz) news).setCells J (O+(i+(xs.length-j))*sz) (Builtin.zeroCells z.cells (xs.length-(i+(xs.length-j)))).toList) (fun x=>own [(5001,Blk.arr t sz (QmZ xs i j).length (rows enc (QmZ xs i j)))] (fun _=>{ρ0 9000 with n:=(QmZ xs i j).length}) x∨Z x):=
   ⟨by rw[q2,r2];exact Yh _,fun b _ ho=>⟨(q1 b fun e=>ho (.inl (e▸Y))).trans (r1 b fun e=>ho (.inl (e▸Y))),fun h=>ho (h.imp (a5 rfl hB) fun h=>h)⟩⟩
  refine⟨_,fun _=>{ρ0 9000 with n:=(QmZ xs i j).length},rfl,Qi4 (fun i x I=>by rw[(Qbh I).2];rfl) ⟨q3.trans r3,q4.trans r4,q5.trans r5,keep.size,fun k N=>(q1 k fun e=>N.2 (e▸Y)).trans (r1 k fun e=>N.2 (e▸Y))⟩,fun i x y I hy=>?_,?_,?_,fun i j x y I hy _ _ _=>(Qbh I).1.trans (Qbh hy).1.symm,fun i x I hp=>⟨.inr ⟨9000,_,rfl,hp,rfl⟩,fun k hc=>(Qk9 (fun i x I=>by rw[(Qbh I).2];rfl) hc).elim⟩⟩
  ·obtain⟨rfl,_⟩:=Qbh I;have⟨h,_⟩:=Qbh hy
   cases h
  ·have:=VR.osl (w:=(w.drew.setCells J (O+i*sz) news).setCells J (O+(i+(xs.length-j))*sz) (Builtin.zeroCells z.cells (xs.length-(i+(xs.length-j)))).toList) (own:=fun x=>own [(5001,Blk.arr t sz (QmZ xs i j).length (rows enc (QmZ xs i j)))] (fun _=>{ρ0 9000 with n:=(QmZ xs i j).length}) x∨Z x) (ρ:=fun _=>{ρ0 9000 with n:=(QmZ xs i j).length}) (id:=5001) (off:=0) (len:=(QmZ xs i j).length) hp (by simp) (by dsimp only;omega);dsimp only at this;have ev:(Value.slice (some ⟨(ρ0 9000).b,(ρ0 9000).o+0*(ρ0 9000).sz,none⟩) (QmZ xs i j).length ((ρ0 9000).cap-0))=.slice (some ⟨J,O,none⟩) (xs.length-(j-i)) ((ρ0 9000).cap-0):=by rw[hB,hO,c5,Nat.zero_mul,X3]
   rw[ev] at this;exact this
  ·intro i' b a9;obtain⟨rfl,rfl⟩:=Qbh a9;refine .arr C2 et hp g2 rfl (by dsimp only;omega) (fun q hq=>?_) (by dsimp only;rw[hB];exact b1) (by dsimp only;rw[hO,b2,a2];exact g7) fun q k d hq hd=>?_
   ·simp only[rows];exact a6 _
   ·dsimp only;rw[show(ρ0 9000).o+q*sz+k=O+q*sz+k by rw[hO]];have N:k<sz:=by
     have:=(Ya.1 hd).1;simp only[rows,a6] at this;exact this
    have hq2:q<i+(xs.length-j):=by omega
    have hm:(q+1)*sz<=(i+(xs.length-j))*sz:=Yf _ (by omega);rw[Yk] at hm;rw[b3,Y3 (by omega),a3,b7];have c0:rows enc (QmZ xs i j) q=rows enc xs (if q<i then q else j+(q-i)):=by
     simp only[rows];rw[Qxc b9 hj (by omega)]
    rw[c0] at hd
    by_cases c1:q<i
    ·rw[Y4 c1] at hd;have b6:(q+1)*sz<=i*sz:=Yf _ (by omega);rw[Yk] at b6;rw[Y3 (by omega)];exact(g8 q k d (by omega) hd).keep keep
    ·rw[Y3 c1] at hd;have b6:i*sz<=q*sz:=Yf _ (by omega);have hm3:(i+(xs.length-j))*sz=i*sz+(xs.length-j)*sz:=Yk _ _ _;have hm4:(q-i)*sz=q*sz-i*sz:=Nat.sub_mul _ _ _;rw[Y4 (by omega),show O+q*sz+k-(O+i*sz)=(q-i)*sz+k by omega,Y0,a7 _ (by omega)];have:=(g8 (j+(q-i)) k d (by omega) hd).keep keep;rw[show(j+(q-i))*sz=j*sz+(q-i)*sz from Yk _ _ _] at this;rw[show O+j*sz+((q-i)*sz+k)=O+(j*sz+(q-i)*sz)+k by omega];exact this
end Go.Ab
namespace Go.Ab
set_option maxHeartbeats 4000000
set_option maxRecDepth 100000
open Go.Shelf Go.RowKit Go.Lib Go.Proofs
variable {P:Program} {ρ:Ren}
structure LIns (P:Program) (ρ:Ren) (sz byt:Nat) (z:Value):Prop where
 mixed:P.follows .mixedOrders=true
 f22:Bears P (ρ.f 22) (Body2.n22 ρ)
 f29 : ∃ fn, P.funcs[ρ.f 29]? = some fn ∧ (fn.name == "runtime.NumGoroutine") = false ∧ fn.body.isNone = true ∧ Extern.findNext fn = none ∧ Extern.find fn = some (Extern.SlicesOverlaps.overlaps #[(ρ.t 24), (ρ.t 24)] #[(ρ.t 4)])
 t0:P.underlying (ρ.t 0)=some (TypeDesc.tuple #[])
 a0:∀w,(isAgg (ρ.t 0)).run P w=.ok false w
 z0:∀w,(Go.sizeOf (ρ.t 0)).run P w=.ok 1 w
 v0:∀w,(zeroValue (ρ.t 0)).run P w=.ok (Value.tuple #[]) w
 t3:P.underlying (ρ.t 3)=some (TypeDesc.int IntKind.i64)
 a3:∀w,(isAgg (ρ.t 3)).run P w=.ok false w
 z3:∀w,(Go.sizeOf (ρ.t 3)).run P w=.ok 1 w
 v3:∀w,(zeroValue (ρ.t 3)).run P w=.ok (Value.int IntKind.i64 0) w
 t4:P.underlying (ρ.t 4)=some (TypeDesc.bool)
 a4:∀w,(isAgg (ρ.t 4)).run P w=.ok false w
 z4:∀w,(Go.sizeOf (ρ.t 4)).run P w=.ok 1 w
 v4:∀w,(zeroValue (ρ.t 4)).run P w=.ok (Value.bool false) w
 t24:P.underlying (ρ.t 24)=some (TypeDesc.slice (ρ.t 9))
 a24:∀w,(isAgg (ρ.t 24)).run P w=.ok false w
 z24:∀w,(Go.sizeOf (ρ.t 24)).run P w=.ok 1 w
 v24:∀w,(zeroValue (ρ.t 24)).run P w=.ok (Value.slice none 0 0) w
 i9:∃i,P.info? (ρ.t 9)=some i∧i.size=sz∧i.bytes=byt∧i.zero=some z
 z9:∀w,(Go.sizeOf (ρ.t 9)).run P w=.ok sz w
 c9:z.cells.size=sz
 o9:∀u∈z.cells.toList,u.oneCell'=true
 pos:0<sz
def insL {α:Type} (xs:List α) (i:Nat) (ys:List α):List α:=xs.take i++ys++xs.drop i
theorem insL_len {α:Type} {xs ys:List α} {i:Nat} (h:i<=xs.length):(insL xs i ys).length=xs.length+ys.length:=by simp[insL];omega
end Go.Ab
