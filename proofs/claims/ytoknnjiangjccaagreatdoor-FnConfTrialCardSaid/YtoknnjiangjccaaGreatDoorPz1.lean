/-
  Plain Lean: what the models of functions compute; no condition.
-/
import Derived.Test.YtoknnjiangjccaaGreatDoorKz6
import Derived.Test.YtoknnjiangjccaaGreatDoorAbz8
set_option linter.all false
namespace Go.Proofs.YtoknnjiangjccaaGreatDoor
open Go Go.Ab
set_option maxHeartbeats 4000000
set_option maxRecDepth 100000
def Post {α:Type} (m:Option α) (Q:α->Prop):Prop:=∃x,m=some x∧Q x
theorem Post.ret {α:Type} {x:α} {Q:α->Prop} (h:Q x):Post (some x) Q:=⟨x,rfl,h⟩
theorem Post.bd {α β:Type} {m:Option α} {f:α->Option β} {Q:α->Prop} {R:β->Prop} (h:Post m Q) (k:∀x,Q x->Post (f x) R):Post (bd m f) R:=by
 have⟨x,e,G⟩:=h;rw[e,Qa];exact k x G
theorem Post.gd {α:Type} {c:Prop} [Decidable c] {m:Option α} {Q:α->Prop} (h:c) (k:Post m Q):Post (gd c m) Q:=by rwa[Qd h]
theorem Post.ite {α:Type} {c:Prop} [Decidable c] {a b:Option α} {Q:α->Prop} (G:c->Post a Q) (I:¬c->Post b Q):Post (if c then a else b) Q:=by
 by_cases h:c
 ·rw[Y2 h];exact G h
 ·rw[Y0 h];exact I h
theorem Post.gcall {α:Type} [Inhabited α] {c:Prop} [Decidable c] {m:Option α} {Q:α->Prop} (G:c->Post m Q) (I:¬c->Q default):Post (gcall c m) Q:=by
 by_cases h:c
 ·rw[Qe h];exact G h
 ·rw[QO h];exact⟨_,rfl,I h⟩
theorem Post.mono {α:Type} {m:Option α} {Q R:α->Prop} (h:Post m Q) (k:∀x,Q x->R x):Post m R:=by
 have⟨x,e,G⟩:=h;exact⟨x,e,k x G⟩
theorem Post.lp {σ β:Type} {step:σ->Option (σ⊕β)} {s0:σ} {Q:β->Prop} (I:σ->Prop) (G:σ->Nat) (O:I s0)
  (hs:∀s,I s->Post (step s) fun r=>match r with| .inl s'=>I s'∧G s'<G s| .inr b=>Q b):Post (lp step s0) Q:=by
 have key:∀n s,G s<=n->I s->Post (Go.Ab.lp step s) Q:=by
  intro n
  induction n with
  |zero=>
   intro s hm hi;have⟨r,e,J⟩:=hs s hi
   cases r with
   |inl s'=>exact absurd J.2 (by omega)
   |inr b=>exact⟨b,Z8 e,J⟩
  |succ n U=>
   intro s hm hi;have⟨r,e,J⟩:=hs s hi
   cases r with
   |inl s'=>
    rw[J2 e];exact U s' (by have:=J.2;omega) J.1
   |inr b=>exact⟨b,Z8 e,J⟩
 exact key (G s0) s0 (Yi _) O
theorem Qvp {α:Type} [Inhabited α] {p:α->Prop} {xs:List α} (h:∀x∈xs,p x) (G:p default) (i:Nat):p (xs.getD i default):=by
 rw[Y1];rcases hx:xs[i]? with _|x
 ·exact G
 ·exact h _ (X1 hx)
theorem Qsk {a b:Int} (ha:0<=a∧a<=4611686018427387904) (hb:0<=b∧b<=4611686018427387904):0<=bits .xor .i64 a b:=by
 unfold bits;have e1:IntKind.bits .i64=64:=rfl;have l:∀x:Int,0<=x∧x<=4611686018427387904->(BitVec.ofInt 64 x).toNat<2^63:=fun x hx=>by
  rw[BitVec.toNat_ofInt];omega
 have h:(BitVec.ofInt 64 a^^^BitVec.ofInt 64 b).toNat<2^63:=by
  rw[BitVec.toNat_xor];exact Nat.xor_lt_two_pow (l a ha) (l b hb)
 show 0<=IntKind.i64.wrap (((BitVec.ofInt 64 a^^^BitVec.ofInt 64 b).toNat:Nat):Int);rw[Qm (by omega) (by omega)];omega
structure RdOk5 (r:QAp) (k:Int):Prop where
 bytes:∀x∈r.b,Qmc x
 len:r.b.length≤2000
 p0:0≤r.p
 p1:r.p≤k
theorem Qsl {r:QAp} {n k:Int} (h:RdOk5 r k) (hk:k<=1099511627776) (hn:1<=n):Post (Ql r n) fun x=>(0<=x.1∧x.1<n)∧RdOk5 ⟨r.b,x.2.p⟩ (k+1):=by
 have⟨h1,h2,h3,h4⟩:=h;unfold Ql;have e1:IntKind.i64.wrap (r.p+1)=r.p+1:=Qm (by omega) (by omega);have e2:IntKind.i64.wrap (r.p+1-1)=r.p:=(Qm (n:=r.p+1-1) (by omega) (by omega)).trans (by omega);have e3:IntKind.i64.wrap (r.p*7)=r.p*7:=Qm (by omega) (by omega);have e4:IntKind.i64.wrap (r.p*7+3)=r.p*7+3:=Qm (by omega) (by omega);have e5:IntKind.i64.wrap (r.p*29)=r.p*29:=Qm (by omega) (by omega);rw[e1,e2,e3,e4,e5];have ok:RdOk5 ⟨r.b,r.p+1⟩ (k+1):=⟨h1,h2,by dsimp only;omega,by dsimp only;omega⟩;have G:∀i:Nat,0<=r.b.getD i default∧r.b.getD i default<=255:=fun i=>Qvp h1 ⟨X7 _,by decide⟩ i;have U:∀i:Nat,IntKind.i64.wrap (r.b.getD i default)=r.b.getD i default:=fun i=>by have:=G i;exact Qm (by omega) (by omega)
 have md:∀x:Int,0<=x->0<=x.tmod n∧x.tmod n<n:=fun x hx=>⟨Y0p _ hx,Y0a _ (by omega)⟩;refine .ite (fun _=>.ret ⟨⟨X7 _,by dsimp only;omega⟩,ok⟩) fun c1=>.ite (fun c2=>.gd ⟨h3,by simpa using c2⟩ (.gd (by omega) (.ret ⟨?_,ok⟩))) fun c2=>?_
 ·rw[U];exact md _ (G _).1
 ·have hl:(0:Int)<(r.b.length:Nat):=by
   have:r.b.length≠0:=fun e=>c1 (by rw[e];simp);omega
  have m1:0<=r.p.tmod (r.b.length:Nat)∧r.p.tmod (r.b.length:Nat)<(r.b.length:Nat):=⟨Y0p _ h3,Y0a _ hl⟩;have m2:0<=(r.p*7+3).tmod (r.b.length:Nat)∧(r.p*7+3).tmod (r.b.length:Nat)<(r.b.length:Nat):=⟨Y0p _ (by omega),Y0a _ hl⟩;refine .gd (by omega) (.gd m1 (.gd (by omega) (.gd m2 (.gd (by omega) (.gd (by decide) (.gd (by omega) (.ret ⟨?_,ok⟩)))))));have b1:=G (r.p.tmod (r.b.length:Nat)).toNat
  have b2:=G ((r.p*7+3).tmod (r.b.length:Nat)).toNat
  have d1:0<=r.p.tdiv (r.b.length:Nat)∧r.p.tdiv (r.b.length:Nat)<=r.p:=by
   refine⟨Int.tdiv_nonneg h3 (by omega),?_⟩;rw[Int.tdiv_eq_ediv_of_nonneg h3];exact Int.ediv_le_self _ h3
  rw[U,U];generalize r.b.getD (r.p.tmod (r.b.length:Nat)).toNat default=I at*;generalize r.b.getD ((r.p*7+3).tmod (r.b.length:Nat)).toNat default=O at*;generalize r.p.tdiv (r.b.length:Nat)=J at*;simp (disch:=omega) only[Qm];have Y:0<=I*131+O*1117+r.p*29+J*53∧I*131+O*1117+r.p*29+J*53<=4611686018427387904:=by omega
  generalize I*131+O*1117+r.p*29+J*53=X at*;have d2:0<=X.tdiv 64∧X.tdiv 64<=4611686018427387904:=by
   rw[Int.tdiv_eq_ediv_of_nonneg Y.1];omega
  rw[Qm (n:=X.tdiv 64) (by omega) (by omega)];exact md _ (Qsk Y d2)
abbrev Bs:=List UInt8
def tB (s:Bt):Bs:=s.data.toList
def tS (l:Bs):Bt:=⟨l.toArray⟩
@[simp] theorem Qf3 (l:Bs):tB (tS l)=l:=by simp [tB,tS]
@[simp] theorem QfF (s:Bt):tS (tB s)=s:=by cases s; simp [tB,tS]
@[simp] theorem Qiz (s:Bt):(tB s).length=s.size:=by cases s; simp [tB,ByteArray.size]
@[simp] theorem QaT (l:Bs):(tS l).size=l.length:=by simp [tS,ByteArray.size]
theorem Qra {s t:Bt} (h:tB s=tB t):s=t:=by rw[<-QfF s,h,QfF]
theorem QtG {s t:Bs} (h:tS s=tS t):s=t:=by rw[<-Qf3 s,h,Qf3]
theorem Qo3 {s t:Bt}:(s==t)=true↔s=t:=by
 constructor
 ·intro h;have h1:(s.data==t.data)=true:=h;have h2:s.data=t.data:=by simpa using h1
  cases s;cases t;simp_all
 ·intro h;subst h;show(s.data==s.data)=true;simp
instance:ReflBEq Bt:=⟨Qo3.2 rfl⟩
instance:LawfulBEq Bt:={eq_of_beq:=fun h=>Qo3.1 h}
theorem Ji (s t:Bs):(tS s==tS t)=(s==t):=by
 rw[YE];simp only[X4];exact⟨QtG,fun h=>h▸rfl⟩
theorem QmU (s:Bt) (i j:Nat):tB (s.extract i j)=((tB s).take j).drop i:=by
 simp[tB,ByteArray.data_extract,List.extract_eq_drop_take,List.drop_take]
theorem Qvq {l:Bs} {i:Nat} (h:i<l.length):Qaa (tS l) i=((l.getD i 0).toNat:Int):=by
 unfold Qaa;have hs:i<(tS l).size:=by simpa using h
 have:(tS l)[i]? =some (l.getD i 0):=by
  rw[getElem?_pos (tS l) i hs];show some (l.toArray[i]'(by simpa using h))=_;simp[Y1,h]
 rw[this]
theorem QgE {α:Type} {q:α->Bool}:∀ {l:List α} {i:Nat},i<l.length->(∀k x,k<i->l[k]? =some x->q x=true)->(∀x,l[i]? =some x->q x=false)->l.takeWhile q=l.take i
 |[],i,h,_,_=>by simp at h
 |a::r,0,_,_,h2=>by simp[Xz,h2 a rfl]
 |a::r,i+1,h,h1,h2=>by
  have:=h1 0 a (by omega) rfl;simp only[Xz,this,YG,List.take_succ_cons];rw[QgE (l:=r) (i:=i) (by simpa using h) (fun k x hk G=>h1 (k+1) x (by omega) (by simpa using G)) fun x G=>h2 x (by simpa using G)]
theorem Qd8 {α:Type} {q:α->Bool} {l:List α} (h:∀x∈l,q x=true):l.takeWhile q=l:=by
 induction l with
 |nil=>rfl
 |cons a r I=>simp[Xz,h a (by simp),I fun x G=>h x (by simp[G])]
theorem Qdw {α:Type} {q:α->Bool}:∀ {l:List α},l.take (l.takeWhile q).length=l.takeWhile q
 |[]=>rfl
 |a::r=>by
  by_cases h:q a=true
  ·simp[Xz,h,Qdw (l:=r)]
  ·simp[Xz,h]
theorem Qbi (c:UInt8):∀l:Bs,Lib.index l [c]=if c∈l then((l.takeWhile (· !=c)).length:Int) else-1
 |[]=>by simp[Lib.index]
 |b::r=>by
  have G:=Qbi c r;unfold Lib.index
  by_cases hb:b=c
  ·subst hb;simp[List.isPrefixOf]
  ·have h1:([c].isPrefixOf (b::r))=false:=by simp[List.isPrefixOf,YU hb]
   have h2:(b !=c)=true:=by simpa using hb
   rw[h1,G]
   by_cases hc:c∈r
   ·have:¬((((r.takeWhile (· !=c)).length:Int))== -1)=true:=by
     rw[X4];omega
    rw[Y2 hc,Y0 (by decide),Y0 this,Y2 (by simp[hc])];simp[h2,Xz]
   ·simp[hc,YU hb]
def Qcm (c:UInt8):Bs->List Bs
 |[]=>[[]]
 |b::r=>if b=c then []::Qcm c r else match Qcm c r with
  |[]=>[[b]]
  |w::ws=>(b::w)::ws
theorem QnL (c:UInt8):∀l,Qcm c l≠ []
 |[]=>by simp[Qcm]
 |b::r=>by
  unfold Qcm;split
  ·simp
  ·split<;>simp
theorem Qet {c:UInt8}:∀ {l:Bs},c∉l->Qcm c l=[l]
 |[],_=>rfl
 |b::r,h=>by
  have h1:b≠c:=fun e=>h (by simp[e]);have h2:c∉r:=fun e=>h (by simp[e]);simp[Qcm,h1,Qet h2]
theorem QfG {c:UInt8}:∀ {a r:Bs},c∉a->Qcm c (a++c::r)=a::Qcm c r
 |[],r,_=>by simp[Qcm]
 |b::a,r,h=>by
  have h1:b≠c:=fun e=>h (by simp[e]);have h2:c∉a:=fun e=>h (by simp[e]);simp[Qcm,h1,QfG h2]
theorem Qkp {c:UInt8} {l:Bs} (h:c∈l):l=l.takeWhile (· !=c)++c::l.drop ((l.takeWhile (· !=c)).length+1)∧c∉l.takeWhile (· !=c):=by
 induction l with
 |nil=>simp at h
 |cons b r I=>
  by_cases hb:b=c
  ·subst hb;simp
  ·have hc:c∈r:=by simpa[YU hb] using h
   have⟨h1,h2⟩:=I hc;have G:(b !=c)=true:=by simpa using hb
   simp only[Xz,G,YG,Ye,List.drop_succ_cons,XA];refine⟨by rw[<-h1],?_⟩;simp[YU hb,h2]
theorem Qo4 (c:UInt8):∀(n:Nat) (l:Bs),l.length<=n->Lib.splitK [c] 0 (Lib.count l [c]) l=Qcm c l
 |n,l,hn=>by
  by_cases hc:c∈l
  ·have⟨h1,h2⟩:=Qkp hc;have hi:Lib.index l [c]=((l.takeWhile (· !=c)).length:Int):=by rw[Qbi,Y2 hc]
   have hlen:(l.takeWhile (· !=c)).length+1<=l.length:=by
    have:=congrArg List.length h1;simp only[Yk,Ye] at this;omega
   rw[Lib.count_hit (by simp) hi,Y0g 1]
   cases n with
   |zero=>simp at hn;subst hn;simp at hc
   |succ n=>
    have I:=Qo4 c n (l.drop ((l.takeWhile (· !=c)).length+1)) (by simp;omega);unfold Lib.splitK;rw[hi];have G:¬((((l.takeWhile (· !=c)).length:Nat):Int)== -1)=true:=by rw[X4];omega
    rw[Y0 G];simp only[Y3,X0,Ye,Yx,Yg];rw[I];have ht:l.take (l.takeWhile (· !=c)).length=l.takeWhile (· !=c):=Qdw;rw[ht]
    conv=>rhs;rw[h1]
    rw[QfG h2]
  ·rw[Lib.count_miss (by rw[Qbi,Y0 hc]),Qet hc]
   rfl
theorem QnM (c:UInt8) (l:Bs):QlL (tS l) (tS [c])=(Qcm c l).map tS:=by
 have h:(QlL (tS l) (tS [c])).map tB=Qcm c l:=by
  have:=Lib.splitB_data (tS [c]) 0 (Lib.countB (tS l) (tS [c])) (tS l);unfold QlL;show(Lib.splitB (tS [c]) 0 (Lib.countB (tS l) (tS [c])) (tS l)).map (fun x=>x.data.toList)=_;rw[this];have e:Lib.countB (tS l) (tS [c])=Lib.count l [c]:=by
   show Lib.count (tB (tS l)) (tB (tS [c]))=_;rw[Qf3,Qf3]
  rw[e];show Lib.splitK (tB (tS [c])) 0 _ (tB (tS l))=_;rw[Qf3,Qf3];exact Qo4 c _ l (Yi _)
 rw[<-h,Xx];have:(tS∘tB)=id:=funext fun s=>QfF s;rw[this,List.map_id]
theorem Qqh (c:UInt8) (l:Bs):QsI (tS l) (tS [c])=if c∈l then(tS (l.takeWhile (· !=c)),tS (l.drop ((l.takeWhile (· !=c)).length+1)),true) else(tS l,tS [],false):=by
 have e1:(tS l).data.toList=l:=Qf3 l;have G:(tS [c]).data.toList=[c]:=Qf3 [c];unfold QsI;rw[e1,G];unfold Lib.cut;rw[Qbi]
 by_cases hc:c∈l
 ·have⟨h1,h2⟩:=Qkp hc;have ht:l.take (l.takeWhile (· !=c)).length=l.takeWhile (· !=c):=Qdw;simp[hc,ht,tS]
 ·simp[hc,tS]
section
variable {α:Type} [Inhabited α]
noncomputable def QyJ (pm:α->Option Bool) (a0:List α):Option Int:=
 bd (lp (σ:=Int) (β:=(Int⊕Unit)) (fun s1=>
(if(decide (s1<((a0.length:Nat):Int)))=true then
 gd ((0:Int)<=s1∧s1<((a0.length:Nat):Int))<|
 bd (pm (a0.getD s1.toNat default)) fun G=>
(if G=true then
 some (.inr (.inl s1))
else
 some (.inl (IntKind.i64.wrap (s1+1))))
else
 some (.inr (.inr ())))) 0) fun I=>
(match I with
| .inl J=>
 some J
| .inr d8=>
 some (-1))
noncomputable def Qwz (pm:α->Option Bool) (a0:List α):Option Bool:=
 bd (QyJ pm a0) fun G=>
 some (decide (G>=0))
noncomputable def QyK (pm:α->Option Bool) (a0:List α):Option (List α):=
 bd (QyJ pm a0) fun J=>
(if(J==(-1))=true then
 some a0
else
 bd (lp (σ:=List α×Int×Int) (β:=(Nat×Int×(List α))) (fun G=>
(if(decide (G.2.2<((G.1.length:Nat):Int)))=true then
 gd ((0:Int)<=G.2.2∧G.2.2<((G.1.length:Nat):Int))<|
 bd (pm (G.1.getD G.2.2.toNat default)) fun O=>
(if(!O)=true then
 gd ((0:Int)<=G.2.1∧G.2.1<((G.1.length:Nat):Int))<|
 some (.inl (G.1.set G.2.1.toNat (G.1.getD G.2.2.toNat default),IntKind.i64.wrap (G.2.1+1),IntKind.i64.wrap (G.2.2+1)))
else
 some (.inl (G.1,G.2.1,IntKind.i64.wrap (G.2.2+1))))
else
 some (.inr (G.1.length,G.2.1,G.1)))) (a0,J,IntKind.i64.wrap (J+1))) fun I=>
 gd ((0:Int)<=I.2.1∧I.2.1<=((I.1:Nat):Int)∧((I.1:Nat):Int)<=((I.1:Nat):Int))<|
 gd ((0:Int)<=(0:Int)∧(0:Int)<=I.2.1∧I.2.1<=((I.1:Nat):Int))<|
 some ((QpG I.2.2 I.2.1.toNat (QgL ((I.1:Nat):Int) I.2.1)).take I.2.1.toNat))
theorem Zb {xs:List α} {i:Nat} (h:i<xs.length):xs.getD i default∈xs:=by
 rw[Y1,Y7 h];exact Xk h
theorem QwA {pm:α->Option Bool} {p:α->Bool} {xs:List α} (hp:∀x∈xs,pm x=some (p x)) (h:xs.length<=1048576):
  QyJ pm xs=some (match ZQ (fun i=>p (xs.getD i default)) xs.length with|some i=>(i:Int)|none=>-1):=by
 unfold QyJ;rw[Jp xs.length (fun i=>p (xs.getD i default)) (fun i=>Sum.inl (i:Int)) (.inr ()) (fun i hi=>?_) (by rw[Y0 (by simp)]),Qa]
 ·cases ZQ (fun i=>p (xs.getD i default)) xs.length<;>rfl
 ·rw[Y2 (by simp;omega),Qd (by omega),Y3,Qj hi (by omega),hp _ (Zb hi),Qa];split<;>simp_all
theorem Qe7 {p:α->Bool} {xs:List α}:xs.any p=(ZQ (fun i=>p (xs.getD i default)) xs.length).isSome:=by
 cases h:ZQ (fun i=>p (xs.getD i default)) xs.length with
 |none=>
  have:=Qcg h;simp only[Option.isSome_none,XP];intro x G;have⟨i,hi,e⟩:=Xn G;have:=this i hi;rw[Y1,Y7 hi] at this;rw[<-e];simpa using this
 |some i=>
  have⟨h1,h2,_⟩:=Qcf h;simp only[Option.isSome_some,YN];exact⟨_,Zb h1,h2⟩
theorem QmV {pm:α->Option Bool} {p:α->Bool} {xs:List α} (hp:∀x∈xs,pm x=some (p x)) (h:xs.length<=1048576):Qwz pm xs=some (xs.any p):=by
 unfold Qwz;rw[QwA hp h,Qa,Qe7]
 cases ZQ (fun i=>p (xs.getD i default)) xs.length with
 |none=>simp
 |some i=>simp
structure DlW (xs0:List α) (k:α→Bool) (xs:List α) (i j:Nat):Prop where
 lt:i<j
 le:j≤xs0.length
 len:xs.length=xs0.length
 take:xs.take i=(xs0.take j).filter k
 drop:∀q,j≤q→xs.getD q default=xs0.getD q default
theorem DlW.keep {xs0:List α} {k:α->Bool} {xs:List α} {i j:Nat} (h:DlW xs0 k xs i j) (hj:j<xs0.length) (hk:k (xs.getD j default)=true):DlW xs0 k (xs.set i (xs.getD j default)) (i+1) (j+1):=by
 have G:=h.drop j (Yi _);have hlt:=h.lt;have hl:=h.len;refine⟨by omega,hj,by simp[h.len],?_,fun q hq=>?_⟩
 ·rw[Xt,List.take_set_of_le (Yi _),h.take,Xt (i:=j),Xb,G];rw[G] at hk;have e1:(xs.set i (xs0.getD j default))[i]? =some (xs0.getD j default):=by rw[Y0h,Y2 rfl,Y2 (by omega)]
  have I:xs0[j]? =some (xs0.getD j default):=by simp[Y1,hj]
  rw[e1,I];show _++[xs0.getD j default]=_++([xs0.getD j default]).filter k;rw[YW,Y2 hk]
  rfl
 ·have:(xs.set i (xs.getD j default)).getD q default=xs.getD q default:=by
   simp[Y1,Y0h,show i≠q by omega]
  rw[this];exact h.drop q (by omega)
theorem DlW.skip {xs0:List α} {k:α->Bool} {xs:List α} {i j:Nat} (h:DlW xs0 k xs i j) (hj:j<xs0.length) (hk:k (xs.getD j default)=false):DlW xs0 k xs i (j+1):=by
 have G:=h.drop j (Yi _);have hlt:=h.lt;rw[G] at hk;refine⟨by omega,hj,h.len,?_,fun q hq=>h.drop q (by omega)⟩;have I:xs0[j]? =some (xs0.getD j default):=by simp[Y1,hj]
 rw[Xt,Xb,<-h.take,I];show _=_++([xs0.getD j default]).filter k;rw[YW,Y0 (by rw[hk];decide)];simp
theorem QjI {k:α->Bool} {xs:List α} {n:Nat} (h:∀q,q<n->q<xs.length->k (xs.getD q default)=true):(xs.take n).filter k=xs.take n:=by
 refine List.filter_eq_self.2 fun x I=>?_;have⟨q,G,e⟩:=Xn I;rw[Yn] at G;have:=h q (by omega) (by omega);rw[Y1,Y7 (by omega)] at this;rw[<-e,List.getElem_take];exact this
theorem QtH {xs:List α} {i l:Nat}:(QpG xs i l).take i=xs.take i:=by
 apply Y0d
 intro q
 by_cases G:q<i
 ·by_cases I:q<xs.length
  ·simp[QpG,YQ,G,I,show ¬i<=q by omega,Y1]
  ·rw[Xd (by simp;omega),Xd (by simp;omega)]
 ·rw[Xd (by simp;omega),Xd (by simp;omega)]
theorem QtI {pm:α->Option Bool} {p:α->Bool} {xs:List α} (hp:∀x∈xs,pm x=some (p x)) (h:xs.length<=1048576):QyK pm xs=some (xs.filter fun x=>!p x):=by
 unfold QyK;rw[QwA hp h,Qa]
 cases U:ZQ (fun i=>p (xs.getD i default)) xs.length with
 |none=>
  have:=Qcg U;dsimp only;rw[Y2 (by decide)];have e:=QjI (k:=fun r=>!p r) (xs:=xs) (n:=xs.length) fun q J _=>by simpa using this q J
  rw[YZ] at e;rw[e]
 |some i=>
  have⟨h1,h2,h3⟩:=Qcf U;dsimp only;rw[Y0 (by simp<;>omega)];have start:DlW xs (fun r=>!p r) xs i (i+1):=by
   refine⟨Nat.lt_succ_self _,h1,rfl,?_,fun _ _=>rfl⟩;have e2:xs[i]? =some (xs.getD i default):=by simp[Y1,h1]
   rw[Xt,Xb,e2,QjI fun q J _=>by simpa using h3 q J];show _=_++([xs.getD i default]).filter (fun r=>!p r);rw[YW,Y0 (by rw[h2];decide)];simp
  have key:Post (lp (σ:=List α×Int×Int) (β:=(Nat×Int×(List α))) (fun G=>
    (if(decide (G.2.2<((G.1.length:Nat):Int)))=true then
    gd ((0:Int)<=G.2.2∧G.2.2<((G.1.length:Nat):Int))<|
    bd (pm (G.1.getD G.2.2.toNat default)) fun x7=>
    (if(!x7)=true then
    gd ((0:Int)<=G.2.1∧G.2.1<((G.1.length:Nat):Int))<|
    some (.inl (G.1.set G.2.1.toNat (G.1.getD G.2.2.toNat default),IntKind.i64.wrap (G.2.1+1),IntKind.i64.wrap (G.2.2+1)))
    else
    some (.inl (G.1,G.2.1,IntKind.i64.wrap (G.2.2+1))))
    else
    some (.inr (G.1.length,G.2.1,G.1)))) (xs,(i:Int),IntKind.i64.wrap ((i:Int)+1))) fun x=>∃q:Nat,x.2.1=(q:Int)∧q<=x.1∧x.2.2.take q=xs.filter (fun r=>!p r):=by
   rw[Qj h1 (by omega)];refine .lp (fun s=>∃q j:Nat,s.2.1=(q:Int)∧s.2.2=(j:Int)∧DlW xs (fun r=>!p r) s.1 q j) (fun s=>xs.length-s.2.2.toNat) ⟨i,i+1,rfl,rfl,start⟩ fun s ⟨q,j,O,Y,D⟩=>?_;have⟨ys,sp,sj⟩:=s;dsimp only at O Y D|-;subst O Y;have hlt:=D.lt;have hle:=D.le;have hlen:=D.len;refine .ite (fun c=>?_) fun c=>.ret ?_
   ·have c:=Yl c;have hj:j<xs.length:=by omega
    refine .gd (by omega) ?_;have I:pm (ys.getD j default)=some (p (ys.getD j default)):=by rw[D.drop j (Yi _)];exact hp _ (Zb hj)
    rw[Y3,I,Qa,Qj (n:=xs.length) hj (by omega)];refine .ite (fun k=>.gd (by omega) ?_) fun k=>.ret ⟨⟨q,j+1,rfl,rfl,D.skip hj (by simpa using k)⟩,by dsimp only;omega⟩;rw[Y3,Qj (n:=xs.length) (by omega) (by omega)];exact .ret ⟨⟨q+1,j+1,rfl,rfl,D.keep hj k⟩,by dsimp only;omega⟩
   ·have:j=xs.length:=by
     simp only[Ym] at c;omega
    refine⟨q,rfl,by dsimp only;omega,?_⟩;have t:=D.take;rw[this,YZ] at t;exact t
  have⟨x,e,q,e1,e2,e3⟩:=key;refine(congrArg (fun m=>bd m _) e).trans ?_;rw[Qa,e1,Qd (by omega),Qd (by omega),Y3,QtH,e3]
end
def iB (b:UInt8):Int:=(b.toNat:Int)
theorem Qvr (b:UInt8):0<=iB b∧iB b<=255:=by
 have:=b.toNat_lt;unfold iB;omega
theorem Qzi {a b:UInt8} (h:iB a=iB b):a=b:=by
 unfold iB at h;exact UInt8.toNat_inj.1 (by omega)
theorem QmW {a b:UInt8}:(iB a==iB b)=(a==b):=by
 rw[YE];simp only[X4];exact⟨Qzi,fun h=>h▸rfl⟩
theorem QfH {l:Bs} {i:Nat} (h:i<l.length):Qaa (tS l) i=iB (l.getD i 0):=Qvq h
theorem Qrb:∀(G:List Int) (s:Bt),G.foldl (fun r n=>r.push (UInt8.ofNat n.toNat)) s=tS (tB s++G.map fun n=>UInt8.ofNat n.toNat)
 |[],s=>by simp
 |n::r,s=>by
  rw[Y0o,Qrb r]
  congr 1
  simp[tB,ByteArray.push]
theorem Qvs (G:List Int):Qf8 G=tS (G.map fun n=>UInt8.ofNat n.toNat):=by
 unfold Qf8;rw[Qrb]
 rfl
theorem Qlo (w:Bs):Qf8 (QpE (w.map iB).length (rows Qt (w.map iB)))=tS w:=by
 rw[Qvs]
 congr 1
 apply Y0d
 intro i
 by_cases h:i<w.length
 ·simp[QpE,Qw2,h,iB,Y1]
 ·simp[QpE,h]
def QaB (l:Bs):List Bs:=(Qcm 32 l).filter fun w=>!w.isEmpty
def okB (b:UInt8):Bool:=decide (32<=b.toNat)&&decide (b.toNat<=126)
def stripL (l:Bs):Bs:=l.takeWhile (· !=35)
def Qzj (ws:List Bs):Bool:=decide (ws.length<=8)&&ws.all fun w=>decide (w.length<=24)
def Qe8 (l:Bs):Option (List Bs):=if(stripL l).all okB=true∧Qzj (QaB (stripL l))=true then some (QaB (stripL l)) else none
theorem Qsm {α:Type} (l:List α) (d:α) (p:α->Bool):(match ZQ (fun i=>p (l.getD i d)) l.length with|some i=>l.take i|none=>l)=l.takeWhile fun x=>!p x:=by
 cases h:ZQ (fun i=>p (l.getD i d)) l.length with
 |none=>
  have:=Qcg h;refine(Qd8 fun x G=>?_).symm;have⟨i,hi,e⟩:=Xn G;have:=this i hi;rw[Y1,Y7 hi,X3,e] at this;simp[this]
 |some i=>
  have⟨h1,h2,h3⟩:=Qcf h;refine(QgE h1 (fun k x hk G=>?_) fun x G=>?_).symm
  ·have:=h3 k hk;rw[Y1,G,X3] at this;simp[this]
  ·rw[Y1,G,X3] at h2;simp[h2]
theorem QxF {l:Bs} (h:l.length<=1073741824):Qco (tS l)=some (tS (stripL l)):=by
 unfold Qco;rw[Jp l.length (fun i=>l.getD i 0==35) (fun i=>Sum.inl ((tS l).extract 0 i)) (.inr ()) (fun i hi=>?_) (by rw[Y0 (by simp)]),Qa]
 ·have e:=Qsm l 0 (fun x=>x==35);have G:stripL l=l.takeWhile fun x=>!(x==35):=rfl;rw[G,<-e]
  cases hf:ZQ (fun i=>l.getD i 0==35) l.length with
  |none=>rfl
  |some i=>
   refine congrArg some (Qra ?_);rw[QmU,Qf3,Qf3,Y04]
 ·rw[Y2 (by simp;omega),Qd (by simp;omega),Y3,QfH hi,Qj hi (by omega)];have e:(iB (l.getD i 0)==35)=(l.getD i 0==35):=QmW (b:=35);rw[e,Qd (by simp;omega)];split<;>simp_all
def QtJ:Bs->List Bs->Bs->Option (List Bs)
 |w,out,[]=>if w.length=0 then some out else if out.length+1>8 then none else some (out++[w])
 |w,out,c::r=>if okB c=false then none else if c≠32 then(if w.length+1>24 then none else QtJ (w++[c]) out r)
   else if w.length=0 then QtJ w out r else if out.length+1>8 then none else QtJ [] (out++[w]) r
theorem QtK {c:UInt8} {a:Bs}:c∉a->∀r,Qcm c (a++r)=match Qcm c r with|[]=>[a]|x::xs=>(a++x)::xs:=by
 induction a with
 |nil=>
  intro _ r
  cases h:Qcm c r with
  |nil=>exact absurd h (QnL c r)
  |cons x xs=>simp[h]
 |cons b a G=>
  intro h r;have h1:b≠c:=fun e=>h (by simp[e]);have h2:c∉a:=fun e=>h (by simp[e]);rw[XA,Qcm,Y0 h1,G h2 r]
  cases h:Qcm c r with
  |nil=>exact absurd h (QnL c r)
  |cons x xs=>simp
theorem Qqi {w:Bs} (h:(32:UInt8)∉w):QaB w=if w.isEmpty then [] else [w]:=by
 unfold QaB;rw[Qet h]
 cases w<;>rfl
theorem Qo5 (r:Bs):QaB (32::r)=QaB r:=by
 unfold QaB;rw[Qcm,Y2 rfl]
 rfl
theorem Qsn {w:Bs} (h:(32:UInt8)∉w) (G:w.isEmpty=false) (r:Bs):QaB (w++32::r)=w::QaB r:=by
 unfold QaB;rw[QfG h,YW,Y2 (by simp[G])]
theorem Qqj {w:Bs} (h:(32:UInt8)∉w) (G:w.isEmpty=false) (r:Bs):∃x∈QaB (w++r),w.length<=x.length:=by
 unfold QaB;rw[QtK h]
 cases hs:Qcm 32 r with
 |nil=>exact absurd hs (QnL _ r)
 |cons x xs=>
  refine⟨w++x,YB.2 ⟨by simp,?_⟩,by simp⟩
  cases w with
  |nil=>simp at G
  |cons _ _=>rfl
theorem QnN:∀(r w:Bs) (out:List Bs),(32:UInt8)∉w->w.length<=24->out.length<=8->
  QtJ w out r=if r.all okB=true∧(out++QaB (w++r)).length<=8∧(QaB (w++r)).all (fun w=>decide (w.length<=24))=true then some (out++QaB (w++r)) else none
 |[],w,out,h,hw,ho=>by
  rw[QtJ,Xr,Qqi h]
  cases w with
  |nil=>simp[ho]
  |cons b w=>
   have hl:w.length+1<=24:=by simpa using hw
   by_cases U:out.length+1>8
   ·have:¬out.length+1<=8:=by omega
    simp[U,this]
   ·have:out.length+1<=8:=by omega
    simp[U,this,hl]
 |c::r,w,out,h,hw,ho=>by
  rw[QtJ]
  by_cases hc:okB c=false
  ·simp[hc]
  have I:okB c=true:=by simpa using hc
  rw[Y0 hc]
  by_cases G:c=32
  ·subst G;rw[Y0 (by simp)]
   cases J:w with
   |nil=>
    rw[Y2 (c:=([]:Bs).length=0) rfl,QnN r [] out (by simp) (by simp) ho,YA,YA,Qo5];simp[I]
   |cons b w'=>
    rw[<-J];have a2:w.isEmpty=false:=by rw[J];rfl
    rw[Y0 (by rw[J];simp),Qsn h a2]
    by_cases U:out.length+1>8
    ·rw[Y2 U,Y0];rintro⟨_,h2,_⟩;simp at h2;omega
    ·rw[Y0 U,QnN r [] (out++[w]) (by simp) (by simp) (by simp;omega),YA];have Y:decide (w.length<=24)=true:=Yd hw;simp only[XB,I,Y,Yq,Xu,List.singleton_append]
  ·rw[Y2 G];have a1:(32:UInt8)∉w++[c]:=by simp[h,YU G]
   have e:w++c::r=(w++[c])++r:=by simp
   by_cases O:w.length+1>24
   ·rw[Y2 O,Y0];rintro⟨_,_,h3⟩;have⟨x,hx,hl⟩:=Qqj a1 (by simp) r;rw[e] at h3;have:=Yb.1 h3 x hx;simp at this hl;omega
   ·rw[Y0 O,QnN r (w++[c]) out a1 (by simp;omega) ho,e];simp[I]
theorem Qkq {l:Bs} (h:l.length<=1073741824):Ja (tS l)=some (match Qe8 l with|some ws=>(ws.map tS,true)|none=>([],false)):=by
 unfold Ja;rw[QxF h,Qa];have a9:(stripL l).length<=1073741824:=Y05 (XK (Xy _)) h;have hc:Qe8 l=QtJ [] [] (stripL l):=by
  rw[QnN _ _ _ (by simp) (by simp) (by simp)];unfold Qe8 Qzj;simp only[YA,Y4,Ym]
 rw[hc];generalize stripL l=t at a9;have key:∀(k i:Nat) (w:Bs) (out:List Bs),i+k=t.length->w.length<=24->out.length<=8->
   lp (σ:=List Int×List Bt×Int) (β:=(Unit⊕(Nat×(List Bt)))) (fun G=>
(if(decide (G.2.2<=(((tS t).size:Nat):Int)))=true then
 gd ((decide (G.2.2<(((tS t).size:Nat):Int)))=true->((0:Int)<=G.2.2∧G.2.2<(((tS t).size:Nat):Int)))<|
 gd ((decide ((Qaa (tS t) G.2.2.toNat)<32))=false->((decide (G.2.2<(((tS t).size:Nat):Int)))=true->((0:Int)<=G.2.2∧G.2.2<(((tS t).size:Nat):Int))))<|
(if((decide (G.2.2<(((tS t).size:Nat):Int)))&&((decide ((Qaa (tS t) G.2.2.toNat)<32))||(decide ((Qaa (tS t) G.2.2.toNat)>126))))=true then
 some (.inr (.inl ()))
else
 gd ((decide (G.2.2<(((tS t).size:Nat):Int)))=true->((0:Int)<=G.2.2∧G.2.2<(((tS t).size:Nat):Int)))<|
(if((decide (G.2.2<(((tS t).size:Nat):Int)))&&((Qaa (tS t) G.2.2.toNat) !=32))=true then
 gd ((0:Int)<=G.2.2∧G.2.2<(((tS t).size:Nat):Int))<|
 gd (((G.1.length)+(([(Qaa (tS t) G.2.2.toNat)]:List Int).length))*(1+1)<=70368744177664)<|
(if(decide ((((G.1++([(Qaa (tS t) G.2.2.toNat)]:List Int)).length:Nat):Int)>24))=true then
 some (.inr (.inl ()))
else
 some (.inl ((G.1++([(Qaa (tS t) G.2.2.toNat)]:List Int)),G.2.1,IntKind.i64.wrap (G.2.2+1))))
else
(if(decide (((G.1.length:Nat):Int)>0))=true then
 gd (((G.2.1.length)+(([(Qf8 (QpE G.1.length (rows Qt G.1)))]:List Bt).length))*(16+1)<=70368744177664)<|
(if(decide ((((G.2.1++([(Qf8 (QpE G.1.length (rows Qt G.1)))]:List Bt)).length:Nat):Int)>8))=true then
 some (.inr (.inl ()))
else
 some (.inl (([]:List Int),(G.2.1++([(Qf8 (QpE G.1.length (rows Qt G.1)))]:List Bt)),IntKind.i64.wrap (G.2.2+1))))
else
 some (.inl (G.1,G.2.1,IntKind.i64.wrap (G.2.2+1))))))
else
 some (.inr (.inr (G.2.1.length,G.2.1))))) (w.map iB,out.map tS,(i:Int))=some (match QtJ w out (t.drop i) with|some o=>.inr (o.length,o.map tS)|none=>.inl ()):=by
  intro k
  induction k with
  |zero=>
   intro i w out hi hw ho;have hi:i=t.length:=by omega
   subst hi;have hd:t.drop t.length=[]:=by simp
   rw[hd,QtJ];have a3:∀(u:List Int) (v:List Bt),IntKind.i64.wrap ((t.length:Int)+1)=((t.length+1:Nat):Int):=fun _ _=>Qj (n:=t.length+1) (by omega) (by omega);have a2:decide ((t.length:Int)<(((tS t).size:Nat):Int))=false:=by simp
   have J:decide ((t.length:Int)<=(((tS t).size:Nat):Int))=true:=by simp
   by_cases O:w.length=0
   ·rw[Y2 O];have b4:w=[]:=Yv O;subst b4;rw[J2 (s':=(([]:Bs).map iB,out.map tS,((t.length+1:Nat):Int)))]
    ·refine Z8 ?_;have:decide (((t.length+1:Nat):Int)<=(((tS t).size:Nat):Int))=false:=by simp<;>omega
     simp only[this,Yu,X6,Ya]
    ·simp only[J,a2,YG,YM,Yu,X6];rw[Qd (by simp),Qd (by simp),Qd (by simp)];simp[a3 [] []]
   ·rw[Y0 O]
    by_cases h8:out.length+1>8
    ·rw[Y2 h8];refine Z8 ?_;simp only[J,a2,YG,YM,Yu,X6];rw[Qd (by simp),Qd (by simp),Qd (by simp),Y2 (by simp;omega),Qd (by simp;omega),Y2 (by simp;omega)]
    ·rw[Y0 h8,J2 (s':=(([]:List Int),(out++[w]).map tS,((t.length+1:Nat):Int)))]
     ·refine Z8 ?_;have:decide (((t.length+1:Nat):Int)<=(((tS t).size:Nat):Int))=false:=by simp<;>omega
      simp only[this,Yu,X6,Ya]
     ·simp only[J,a2,YG,YM,Yu,X6];rw[Qd (by simp),Qd (by simp),Qd (by simp),Y2 (by simp;omega),Qd (by simp;omega),Y0 (by simp;omega),Qlo,a3 [] []];simp
  |succ k ih=>
   intro i w out hi hw ho;have a6:i<t.length:=by omega
   have hd:t.drop i=t.getD i 0::t.drop (i+1):=by
    rw[Y08 a6,Y1,Y7 a6];rfl
   have U:decide ((i:Int)<(((tS t).size:Nat):Int))=true:=by simp;omega
   have J:decide ((i:Int)<=(((tS t).size:Nat):Int))=true:=by simp;omega
   have I:(0:Int)<=i∧(i:Int)<(((tS t).size:Nat):Int):=by simp;omega
   have a8:IntKind.i64.wrap ((i:Int)+1)=((i+1:Nat):Int):=Qj a6 (by omega);rw[hd,QtJ];generalize b3:t.getD i 0=c;have a1:Qaa (tS t) (i:Int).toNat=iB c:=by rw[Y3,QfH a6,b3]
   have Y:(decide (iB c<32)||decide (iB c>126))=!okB c:=by
    unfold okB iB
    by_cases h1:32<=c.toNat<;>by_cases h2:c.toNat<=126<;>simp[h1,h2]<;>omega
   have a4:(iB c !=32)=(c !=32):=by
    have:(iB c==32)=(c==32):=QmW (b:=32);simp only[bne,this]
   by_cases hc:okB c=false
   ·rw[Y2 hc];refine Z8 ?_;simp only[J,U,YG,a1,Yq,Y,hc];rw[Qd (fun _=>I),Qd (fun _ _=>I),Y2 (by simp)]
   have a5:okB c=true:=by simpa using hc
   rw[Y0 hc]
   by_cases a7:c=32
   ·rw[Y0 (by simp[a7])];have hb:(c !=32)=false:=by simp[a7]
    by_cases O:w.length=0
    ·rw[Y2 O,<-ih (i+1) w out (by omega) hw ho];refine J2 ?_;simp only[J,U,YG,a1,Yq,Y,a5,a4,hb];rw[Qd (fun _=>I),Qd (fun _ _=>I),Y0 (by simp),Qd (fun _=>I),Y0 (by simp),Y0 (by simp[O]),a8]
    ·rw[Y0 O]
     by_cases h8:out.length+1>8
     ·rw[Y2 h8];refine Z8 ?_;simp only[J,U,YG,a1,Yq,Y,a5,a4,hb];rw[Qd (fun _=>I),Qd (fun _ _=>I),Y0 (by simp),Qd (fun _=>I),Y0 (by simp),Y2 (by simp;omega),Qd (by simp;omega),Y2 (by simp;omega)]
     ·rw[Y0 h8,<-ih (i+1) [] (out++[w]) (by omega) (by simp) (by simp;omega)];refine J2 ?_;simp only[J,U,YG,a1,Yq,Y,a5,a4,hb];rw[Qd (fun _=>I),Qd (fun _ _=>I),Y0 (by simp),Qd (fun _=>I),Y0 (by simp),Y2 (by simp;omega),Qd (by simp;omega),Y0 (by simp;omega),Qlo,a8];simp
   ·rw[Y2 a7];have hb:(c !=32)=true:=by simp[a7]
    by_cases b2:w.length+1>24
    ·rw[Y2 b2];refine Z8 ?_;simp only[J,U,YG,a1,Yq,Y,a5,a4,hb];rw[Qd (fun _=>I),Qd (fun _ _=>I),Y0 (by simp),Qd (fun _=>I),Qd I,Qd (by simp;omega),Y2 (by simp;omega)]
    ·rw[Y0 b2,<-ih (i+1) (w++[c]) out (by omega) (by simp;omega) ho];refine J2 ?_;simp only[J,U,YG,a1,Yq,Y,a5,a4,hb];rw[Qd (fun _=>I),Qd (fun _ _=>I),Y0 (by simp),Qd (fun _=>I),Qd I,Qd (by simp;omega),Y0 (by simp;omega),a8];simp
 have k0:=key t.length 0 [] [] (by omega) (by simp) (by simp);rw[Y04] at k0;refine(congrArg (fun m=>bd m _) k0).trans ?_;rw[Qa]
 cases QtJ [] [] t<;>rfl
def Qkr (b:UInt8):Bool:=decide (48<=b.toNat)&&decide (b.toNat<=57)
def Qqk (n:Nat) (w:Bs):Nat:=w.foldl (fun n b=>n*10+(b.toNat-48)) n
def valL (w:Bs):Nat:=Qqk 0 w
def QlN (w:Bs):Bool:=!w.isEmpty&&w.all Qkr&&(decide (w.length=1)||w.getD 0 0 !=48)
def inI (a lo hi:Int):Bool:=decide (lo<=a)&&decide (a<=hi)
theorem QgF {a lo hi:Int}:inI a lo hi=true↔lo<=a∧a<=hi:=by simp[inI]
def QcY (w:Bs):Int:=if QlN w=true∧w.length<=6 then(valL w:Int) else-1
def Qmd (w:Bs):Int:=if QlN w=true∧valL w<9223372036854775808 then(valL w:Int) else-1
def isN (w:Bs) (lo hi:Int):Bool:=inI (QcY w) lo hi
theorem Qvt (n:Nat) (w:Bs) (b:UInt8):Qqk n (w++[b])=Qqk n w*10+(b.toNat-48):=by simp[Qqk]
theorem Qks (w:Bs) (b:UInt8):valL (w++[b])=valL w*10+(b.toNat-48):=Qvt 0 w b
theorem Qql:∀(w:Bs) (n:Nat),n<=Qqk n w
 |[],n=>Yi _
 |b::r,n=>by
  have:=Qql r (n*10+(b.toNat-48));show n<=Qqk (n*10+(b.toNat-48)) r;omega
theorem Qqm:∀(n:Nat) (w:Bs),w.length=n->w.all Qkr=true->valL w<10^n
 |0,w,h,_=>by
  have:w=[]:=Yv h;subst this;decide
 |n+1,w,h,hd=>by
  rcases List.eq_nil_or_concat w with rfl|⟨u,b,e⟩
  ·simp at h
  ·rw[List.concat_eq_append] at e;subst e;simp at h;simp only[List.all_append,Y4,XB,List.all_nil,Xj] at hd;have ih:=Qqm n u h hd.1;have hb:=hd.2;simp only[Qkr,Y4,Ym] at hb;rw[Qks,Y0s];omega
theorem QtL {b:UInt8} (h:48<=b.toNat∧b.toNat<=57):Qkr b=true:=by simp[Qkr,h]
theorem Qvu {n:Nat} (h:n<256):(UInt8.ofNat n).toNat=n:=by
 simp[UInt8.toNat_ofNat,Y0j h]
theorem QtM:∀(n:Nat),(Lib.decDigits n).all Qkr=true∧valL (Lib.decDigits n)=n∧Lib.decDigits n≠ []∧(0<n->(Lib.decDigits n).getD 0 0≠48)∧(n<10->(Lib.decDigits n).length=1)
 |n=>by
  unfold Lib.decDigits
  by_cases h:n<10
  ·rw[dif_pos h];have e:=Qvu (n:=48+n) (by omega);refine⟨?_,?_,by simp,fun h0 h1=>?_,fun _=>rfl⟩
   ·simp only[XB,List.all_nil,Xj];exact QtL (by rw[e];omega)
   ·show 0*10+((UInt8.ofNat (48+n)).toNat-48)=n;rw[e];omega
   ·have:=congrArg UInt8.toNat h1;rw[YT,e] at this;have h48:(48:UInt8).toNat=48:=rfl;omega
  ·rw[dif_neg h];have hlt:n/10<n:=by omega
   have⟨h1,h2,h3,h4,_⟩:=QtM (n/10);have e:=Qvu (n:=48+n%10) (by omega);refine⟨?_,?_,by simp,fun _=>?_,fun I=>absurd I h⟩
   ·rw[List.all_append,h1];simp only[XB,List.all_nil,Xj,Yq];exact QtL (by rw[e];omega)
   ·rw[Qks,h2,e];omega
   ·have:=h4 (by omega)
    cases G:Lib.decDigits (n/10) with
    |nil=>exact absurd G h3
    |cons x xs=>rw[G] at this;simpa using this
termination_by n=>n
theorem QxG (n:Nat):QlN (Lib.decDigits n)=true:=by
 have⟨h1,h2,h3,h4,h5⟩:=QtM n;unfold QlN;rw[h1];have e:(Lib.decDigits n).isEmpty=false:=by cases G:Lib.decDigits n with|nil=>exact absurd G h3|cons _ _=>rfl
 rw[e]
 by_cases h:n<10
 ·simp[h5 h]
 ·have hb:((Lib.decDigits n).getD 0 0 !=48)=true:=by rw[bne_iff_ne];exact h4 (by omega)
  rw[hb];simp
theorem QtN {u:Bs} {b:UInt8} (I:u≠ []) (h:QlN (u++[b])=true):QlN u=true∧Qkr b=true∧u.getD 0 0≠48:=by
 simp only[QlN,Y4,List.all_append,XB,List.all_nil,Xj] at h;have⟨⟨_,h1,h2⟩,h3⟩:=h;have G:¬(u++[b]).length=1:=by
  cases u with|nil=>exact absurd rfl I|cons _ _=>simp
 have J:(u++[b]).getD 0 0=u.getD 0 0:=by cases u with|nil=>exact absurd rfl I|cons _ _=>simp
 rw[J] at h3;have h4:u.getD 0 0≠48:=by
  simp only[YP G,YL] at h3;simpa using h3
 refine⟨?_,h2,h4⟩;unfold QlN;rw[h1]
 cases u with
 |nil=>exact absurd rfl I
 |cons x xs=>simp at h4|-;simp[h4]
theorem QtO {u:Bs} (I:u≠ []) (G:u.all Qkr=true) (h:u.getD 0 0≠48):1<=valL u:=by
 cases u with
 |nil=>exact absurd rfl I
 |cons x xs=>
  simp only[XB,Y4,Qkr,Ym] at G;have hx:x.toNat≠48:=fun e=>h (by simp;exact UInt8.toNat_inj.1 e);have:=Qql xs (0*10+(x.toNat-48));show 1<=Qqk (0*10+(x.toNat-48)) xs;omega
theorem Qcj {w:Bs} (h:QlN w=true):w.all Qkr=true∧w≠ []:=by
 simp only[QlN,Y4] at h;refine⟨h.1.2,fun e=>?_⟩;subst e;simp at h
theorem QmX:∀(n:Nat) (w:Bs),w.length=n->QlN w=true->Lib.decDigits (valL w)=w
 |n,w,hn,h=>by
  rcases List.eq_nil_or_concat w with rfl|⟨u,b,e⟩
  ·simp[QlN] at h
  ·rw[List.concat_eq_append] at e;subst e
   by_cases G:u=[]
   ·subst G;have J:=(Qcj h).1;simp only[YA,XB,List.all_nil,Xj,Qkr,Y4,Ym] at J;have e:valL ([]++[b])=b.toNat-48:=by simp[valL,Qqk]
    rw[e,Lib.decDigits,dif_pos (by omega)];show [_]=[b]
    congr 1
    apply UInt8.toNat_inj.1
    rw[Qvu (by have:=b.toNat_lt;omega)];omega
   ·have⟨h1,h2,h3⟩:=QtN G h;have hlen:u.length<n:=by simp at hn;omega
    have I:=QmX u.length u rfl h1;have hp:=QtO G (Qcj h1).1 h3;simp only[Qkr,Y4,Ym] at h2;rw[Qks,Lib.decDigits,dif_neg (by omega)];have e1:(valL u*10+(b.toNat-48))/10=valL u:=by omega
    have O:(valL u*10+(b.toNat-48))%10=b.toNat-48:=by omega
    rw[e1,O,I]
    congr 1
    show [_]=[b]
    congr 1
    apply UInt8.toNat_inj.1
    rw[Qvu (by have:=b.toNat_lt;omega)];omega
termination_by n=>n
theorem QxH {w:Bs} (h:QlN w=true) (h2:2<=w.length):10^(w.length-1)<=valL w:=by
 have key:∀(n:Nat) (w:Bs),w.length=n+1->w.all Qkr=true->w.getD 0 0≠48->10^n<=valL w:=by
  intro n
  induction n with
  |zero=>intro w I J G;have:=QtO (u:=w) (by intro e;subst e;simp at I) J G;simpa using this
  |succ n O=>
   intro w I J G;rcases List.eq_nil_or_concat w with rfl|⟨u,b,e⟩
   ·simp at I
   ·rw[List.concat_eq_append] at e;subst e;simp at I;simp only[List.all_append,Y4] at J;have U:u≠ []:=by intro e;subst e;simp at I
    have Y:(u++[b]).getD 0 0=u.getD 0 0:=by cases u with|nil=>exact absurd rfl U|cons _ _=>simp
    rw[Y] at G;have:=O u (by omega) J.1 G;rw[Qks,Y0s];omega
 have⟨h3,_⟩:=Qcj h;have G:w.getD 0 0≠48:=by
  simp only[QlN,Y4] at h;have:=h.2;rw[YP (by omega:¬w.length=1),YL] at this;simpa using this
 exact key (w.length-1) w (by omega) h3 G
theorem Qvv {w:Bs} (h:QlN w=true) (hv:valL w<1000000):w.length<=6:=by
 rcases YV w.length 7 with G|G
 ·omega
 ·have:=QxH h (by omega);have h6:10^6<=10^(w.length-1):=Xs (by omega) (by omega);omega
theorem Qrc:∀(w:Bs) (G:Nat),w.all Qkr=true->Qqk G w<9223372036854775808->Lib.parseUint10 G w=.ok (Qqk G w)
 |[],G,_,_=>rfl
 |c::r,G,hd,hv=>by
  simp only[XB,Y4] at hd;have hc:=hd.1;simp only[Qkr,Y4,Ym] at hc;have I:Qqk (G*10+(c.toNat-48)) r<9223372036854775808:=hv;have hle:=Qql r (G*10+(c.toNat-48));unfold Lib.parseUint10;rw[Y2 hc,Y0 (by omega),Y0 (by omega)];exact Qrc r _ hd.2 I
theorem QxI {w:Bs} (h:QlN w=true) (hv:valL w<9223372036854775808):Lib.atoiAll w=.ok (valL w:Int):=by
 have⟨G,I⟩:=Qcj h
 cases w with
 |nil=>exact absurd rfl I
 |cons c r=>
  have hc:Qkr c=true:=by simp only[XB,Y4] at G;exact G.1
  simp only[Qkr,Y4,Ym] at hc;unfold Lib.atoiAll;have h1:¬(c.toNat=43∨c.toNat=45):=by omega
  have h2:¬c.toNat=45:=by omega
  have hp:Lib.parseMag (c::r)=.ok (valL (c::r)):=by
   unfold Lib.parseMag;rw[Y0 (by simp)];exact Qrc _ _ G hv
  have h3:(if c.toNat=43∨c.toNat=45 then r else c::r)=c::r:=Y0 h1;simp only[h3];rw[hp];simp only[h2,not_false_iff,true_and,false_and,X6];rw[Y0 (by omega)]
theorem QxJ (w:Bs):QyD (tS w)=Qmd w:=by
 have e1:(tS w).data.toList=w:=Qf3 w;unfold QyD Qmd;rw[e1]
 by_cases hc:QlN w=true∧valL w<9223372036854775808
 ·rw[Y2 hc,QxI hc.1 hc.2];have:Qnh (valL w:Int)=tS w:=by
   unfold Qnh Lib.itoa;rw[Y0 (by omega),Y3,QmX _ w rfl hc.1]
   rfl
  dsimp only;rw[Y0];rintro(h|h)
  ·omega
  ·exact h this
 ·rw[Y0 hc]
  cases ha:Lib.atoiAll w with
  |ok v=>
   by_cases G:v<0∨Qnh v≠tS w
   ·simp only[Y2 G]
   ·exfalso;have hv:0<=v:=by have:=fun h=>G (.inl h);omega
    have J:Qnh v=tS w:=Decidable.byContradiction fun h=>G (.inr h);have I:w=Lib.decDigits v.toNat:=by
     have:tS (Lib.itoa v)=tS w:=J;have:=QtG this;rw[<-this];unfold Lib.itoa;rw[Y0 (by omega)]
    have hf:=Qoi ha;refine hc ⟨?_,?_⟩
    ·rw[I];exact QxG _
    ·rw[I,(QtM _).2.1];omega
  |_=>rfl
theorem Qrd {w:Bs} (h:w.length<=6):Qmd w=QcY w:=by
 unfold Qmd QcY
 by_cases hc:QlN w=true
 ·have:=Qqm w.length w rfl (Qcj hc).1;have h6:10^w.length<=10^6:=Xs (by omega) h;rw[Y2 ⟨hc,by omega⟩,Y2 ⟨hc,h⟩]
 ·rw[Y0 (fun h=>hc h.1),Y0 (fun h=>hc h.1)]
theorem Qqn {w:Bs} {lo hi:Int} (h0:0<=lo) (h1:hi<=999999):inI (Qmd w) lo hi=inI (QcY w) lo hi∧(inI (Qmd w) lo hi=true->Qmd w=QcY w):=by
 by_cases hc:QlN w=true
 ·by_cases hv:valL w<1000000
  ·have hs:=Qvv hc hv;rw[Qrd hs];exact⟨rfl,fun _=>rfl⟩
  ·have e1:inI (Qmd w) lo hi=false:=by
    unfold Qmd inI;split<;>simp<;>omega
   have G:inI (QcY w) lo hi=false:=by
    have:¬w.length<=6:=fun h=>by
     have:=Qqm w.length w rfl (Qcj hc).1;have h6:10^w.length<=10^6:=Xs (by omega) h;omega
    unfold QcY inI;rw[Y0 (fun h=>this h.2)];simp;omega
   rw[e1,G];exact⟨rfl,fun h=>by cases h⟩
 ·have e1:Qmd w=-1:=by unfold Qmd;rw[Y0 (fun h=>hc h.1)]
  have G:QcY w=-1:=by unfold QcY;rw[Y0 (fun h=>hc h.1)]
  rw[e1,G];exact⟨rfl,fun _=>rfl⟩
theorem QnO (b:UInt8):IntKind.i64.wrap (iB b)=iB b:=by
 have:=Qvr b;exact Qm (by omega) (by omega)
theorem Qvw (b:UInt8) {lo hi:Nat}:inI (iB b) lo hi=(decide (lo<=b.toNat)&&decide (b.toNat<=hi)):=by
 unfold inI iB;rw[YE];simp only[Y4,Ym];omega
theorem QfI (c:UInt8):∀l,(Qcm c l).length<=l.length+1
 |[]=>by simp[Qcm]
 |b::r=>by
  have G:=QfI c r;unfold Qcm;split
  ·simp;omega
  ·split
   ·simp
   ·rename_i h;rw[h] at G;simp at G|-;omega
theorem QxK (c:UInt8) (l:Bs):(QsI (tS l) (tS [c])).1=tS (l.takeWhile (· !=c)):=by
 rw[Qqh]
 by_cases h:c∈l
 ·rw[Y2 h]
 ·rw[Y0 h,Qd8];intro x G;simp only[bne_iff_ne];exact fun e=>h (e▸G)
theorem QtP {t:Bs} {p:UInt8->Bool}:t.all p=(ZQ (fun i=>!p (t.getD i 0)) t.length).isNone:=by
 have h:t.any (fun x=>!p x)=(ZQ (fun i=>!p (t.getD i 0)) t.length).isSome:=Qe7 (p:=fun x=>!p x) (xs:=t);rw[<-Option.not_isSome,<-h];simp[List.not_any_eq_all_not]
theorem QnP {β:Type} {step:Int->Option (Int⊕β)} {t:Bs} {p:UInt8->Bool} {e d:β} (h1:∀i:Nat,i<t.length->step i=some (if p (t.getD i 0)=true then .inl ((i+1:Nat):Int) else .inr e)) (h2:step t.length=some (.inr d)):lp step 0=some (if t.all p=true then d else e):=by
 rw[Jp t.length (fun i=>!p (t.getD i 0)) (fun _=>e) d (fun i hi=>?_) h2,QtP]
 ·cases ZQ (fun i=>!p (t.getD i 0)) t.length<;>simp
 ·rw[h1 i hi]
  cases p (t.getD i 0)<;>rfl
theorem QhO (w:Bs):(tS w==(⟨#[]⟩:Bt))=w.isEmpty:=by
 have:(tS w==tS [])=(w==[]):=Ji w [];refine this.trans ?_
 cases w<;>rfl
theorem Qvx {l:Bs} (h:l.length<=1000000):Qb6 (tS l)=some (match Qe8 l with|some ws=>(ws.map tS,true)|none=>([],false)):=by
 have G:(⟨#[35]⟩:Bt)=tS [35]:=rfl;have J:(⟨#[32]⟩:Bt)=tS [32]:=rfl;have hs:(stripL l).length<=1000000:=Y05 (XK (Xy _)) h;have Y:(QsI (tS l) (tS [35])).1=tS (stripL l):=QxK 35 l;unfold Qb6 Jm ZJ;rw[G,J,Qd (by simp;omega),Qa,Y];unfold Qe8;generalize stripL l=t at hs;rw[QnP (t:=t) (p:=okB) (e:=.inl ()) (d:=.inr ()) (fun i hi=>?_) (by rw[Y0 (by simp)]),Qa]
 ·by_cases ho:t.all okB=true
  ·rw[Y2 ho];dsimp only;have U:QJ ((Qcm 32 t).map tS)=some ((QaB t).map tS):=by
    have e:QJ=QyK Jy:=rfl;rw[e,QtI (pm:=Jy) (p:=fun x=>x==(⟨#[]⟩:Bt)) (fun x _=>rfl) (by have:=QfI 32 t;simp;omega),List.filter_map];refine congrArg (fun q=>some ((List.filter q (Qcm 32 t)).map tS)) (funext fun w=>?_);simp only[Function.comp,QhO]
   have hl:(QaB t).length<=1000001:=by
    have h1:=QfI 32 t;have h2:(QaB t).length<=(Qcm 32 t).length:=Xe _ _;omega
   have hc:QP ((QaB t).map tS)=some ((QaB t).any fun w=>decide (w.length>24)):=by
    have e:QP=Qwz Qaj:=rfl;rw[e,QmV (pm:=Qaj) (p:=fun x:Bt=>decide (((x.size:Nat):Int)>24)) (fun x _=>rfl) (by simp;omega),XV]
    congr 2
    funext w
    simp only[Function.comp,QaT];rw[Xl];omega
   rw[Qd (by simp;omega),Qa,QnM,U,Qa,hc];have O:Qzj (QaB t)=!(decide ((((QaB t).map tS).length:Int)>8)||(QaB t).any fun w=>decide (w.length>24)):=by
    unfold Qzj;rw[YE];simp only[Y4,Ym,Yb,YF,XD,decide_eq_false_iff_not,XP,Ya]
    constructor
    ·rintro⟨a,b⟩;exact⟨by omega,fun x I=>by have:=b x I;omega⟩
    ·rintro⟨a,b⟩;exact⟨by omega,fun x I=>by have:=b x I;omega⟩
   rw[O]
   cases h8:decide ((((QaB t).map tS).length:Int)>8)
   ·rw[Qe rfl,Qa,YL]
    cases (QaB t).any fun w=>decide (w.length>24)
    ·rw[Y0 (by decide),Y2 ⟨ho,rfl⟩]
    ·rw[Y2 rfl,Y0 (by simp)]
   ·rw[QO (by decide),Qa,Y2 (by simp),Y0 (by simp)]
  ·rw[Y0 ho,Y0 fun h=>ho h.1]
 ·have e:Qs (iB (t.getD i 0)) 32 126=some (okB (t.getD i 0)):=congrArg some (Qvw (lo:=32) (hi:=126) (t.getD i 0));rw[Y2 (by simp;omega),Qd (by simp;omega),Y3,QfH hi,QnO,Qj hi (by omega),e,Qa]
  cases okB (t.getD i 0)<;>rfl
def nmB (b:UInt8):Bool:=(decide (97<=b.toNat)&&decide (b.toNat<=122))||(decide (48<=b.toNat)&&decide (b.toNat<=57))||b==45
def Qc6 (w:Bs):Bool:=inI w.length 1 8&&w.all nmB
theorem QtQ {w:Bs} (h:w.length<=1000000):QbE (tS w)=some (Qc6 w):=by
 unfold QbE;rw[QnP (t:=w) (p:=nmB) (e:=.inl ()) (d:=.inr ()) (fun i hi=>?_) (by rw[Y0 (by simp)]),Qa]
 ·have e:Qs ((w.length:Nat):Int) 1 8=some (inI w.length 1 8):=rfl;unfold Qc6
  by_cases G:w.all nmB=true
  ·rw[Y2 G,G,Xj];dsimp only;rw[QaT,e,Qa]
  ·rw[Y0 G,Xf.2 G,XT]
 ·rw[Y2 (by simp;omega),Qd (by simp;omega),Y3,QfH hi,Qj hi (by omega)];have I:(iB (w.getD i 0) !=45)=!(w.getD i 0==45):=by
   have:(iB (w.getD i 0)==45)=(w.getD i 0==45):=QmW (b:=45);simp only[bne,this]
  have e:(((iB (w.getD i 0) !=45)&&(decide (iB (w.getD i 0)<97)||decide (iB (w.getD i 0)>122)))&&(decide (iB (w.getD i 0)<48)||decide (iB (w.getD i 0)>57)))=!nmB (w.getD i 0):=by
   rw[I];generalize w.getD i 0=b;unfold nmB iB
   cases b==45
   ·rw[YE];simp;omega
   ·simp
  rw[e]
  cases nmB (w.getD i 0)<;>rfl
theorem Qlp (a lo hi:Int):QT a lo hi=some (inI a lo hi):=rfl
theorem Qlq (a lo hi:Int):Qs a lo hi=some (inI a lo hi):=rfl
theorem Qjf {w:Bs} (h:w.length<=1000000):Zs (tS w)=some (Qc6 w):=by
 unfold Zs;rw[Qlp,Qa,QaT];unfold Qc6
 cases h1:inI (w.length:Int) 1 8
 ·rfl
 rw[Y0 (by decide)];rw[QnP (t:=w) (p:=nmB) (e:=.inl ()) (d:=.inr ()) (fun i hi=>?_) (by rw[Y0 (by simp)]),Qa]
 ·rw[Yq]
  cases w.all nmB<;>rfl
 ·rw[Y2 (by simp;omega),Qd (by omega),Y3,QfH hi,Qj hi (by omega),QnO,Qlp,Qlp,Qa,Qd (fun _=>by omega)];have G:(iB (w.getD i 0) !=45)=!(w.getD i 0==45):=by
   have:(iB (w.getD i 0)==45)=(w.getD i 0==45):=QmW (b:=45);simp only[bne,this]
  have e:(!inI (iB (w.getD i 0)) 97 122&& !inI (iB (w.getD i 0)) 48 57&&(iB (w.getD i 0) !=45))=!nmB (w.getD i 0):=by
   rw[G,show inI (iB (w.getD i 0)) 97 122=_ from Qvw (lo:=97) (hi:=122) _,show inI (iB (w.getD i 0)) 48 57=_ from Qvw (lo:=48) (hi:=57) _];unfold nmB;simp only[Bool.not_or]
  rw[QtC,Qa,Qd (fun _=>by omega)];have I:(!inI (iB (w.getD i 0)) 97 122&& !(!inI (iB (w.getD i 0)) 97 122&&inI (iB (w.getD i 0)) 48 57)&&(iB (w.getD i 0) !=45))=!nmB (w.getD i 0):=by
   rw[<-e];cases inI (iB (w.getD i 0)) 97 122<;>rfl
  rw[I]
  cases nmB (w.getD i 0)<;>rfl
theorem QtR {l:Bs} {i:Nat} (h:i<l.length):l.drop i=l.getD i 0::l.drop (i+1):=by
 rw[Y08 h,Y1,Y7 h];rfl
theorem QwB (l:Bs) (i j:Nat):(tS l).extract i j=tS ((l.take j).drop i):=Qra (by rw[QmU,Qf3,Qf3])
def Qo6 (c:UInt8):Bs->Bs->List Bs
 |w,[]=>[w]
 |w,b::r=>if b=c then w::Qo6 c [] r else Qo6 c (w++[b]) r
theorem QnQ (c:UInt8):∀(r w:Bs),c∉w->Qo6 c w r=Qcm c (w++r)
 |[],w,h=>by rw[Qo6,Xr,Qet h]
 |b::r,w,h=>by
  rw[Qo6]
  by_cases hb:b=c
  ·subst hb;rw[Y2 rfl,QfG h,QnQ b r [] (by simp),YA]
  ·rw[Y0 hb,QnQ c r (w++[b]) (by simp[h,YU hb])];simp
theorem Qre {l:Bs} (c:UInt8) (h:l.length<=1000000):JH (tS l) (iB c)=some ((Qcm c l).map tS):=by
 unfold JH;have key:∀(k i j:Nat) (out:List Bs),i+k=l.length->j<=i->out.length+k<=l.length->
   ∃x:Nat×Int×List Bt,lp (σ:=List Bt×Int×Int) (β:=(Nat×Int×(List Bt))) (fun s1=>
(if(decide (s1.2.2<(((tS l).size:Nat):Int)))=true then
 gd ((0:Int)<=s1.2.2∧s1.2.2<(((tS l).size:Nat):Int))<|
(if((Qaa (tS l) s1.2.2.toNat)==iB c)=true then
 gd ((0:Int)<=s1.2.1∧s1.2.1<=s1.2.2∧s1.2.2<=(((tS l).size:Nat):Int))<|
 gd (((s1.1.length)+(([((tS l).extract s1.2.1.toNat s1.2.2.toNat)]:List Bt).length))*(16+1)<=70368744177664)<|
 some (.inl ((s1.1++([((tS l).extract s1.2.1.toNat s1.2.2.toNat)]:List Bt)),IntKind.i64.wrap (s1.2.2+1),IntKind.i64.wrap (s1.2.2+1)))
else
 some (.inl (s1.1,s1.2.1,IntKind.i64.wrap (s1.2.2+1))))
else
 some (.inr (s1.1.length,s1.2.1,s1.1)))) (out.map tS,(j:Int),(i:Int))=some x∧x.1=x.2.2.length∧(x.1<=l.length)∧(∃q:Nat,x.2.1=(q:Int)∧q<=l.length∧x.2.2++[tS (l.drop q)]=(out++Qo6 c ((l.take i).drop j) (l.drop i)).map tS):=by
  intro k
  induction k with
  |zero=>
   intro i j out hi hj ho;have hi:i=l.length:=by omega
   subst hi;refine⟨(out.length,(j:Int),out.map tS),Z8 ?_,by simp,by dsimp only;omega,j,rfl,hj,?_⟩
   ·rw[Y0 (by simp)];simp
   ·rw[List.drop_length,Qo6,YZ];simp
  |succ k ih=>
   intro i j out hi hj ho;have G:i<l.length:=by omega
   have hb:(iB (l.getD i 0)==iB c)=(l.getD i 0==c):=QmW;have J:IntKind.i64.wrap ((i:Int)+1)=((i+1:Nat):Int):=Qj G (by omega);rw[QtR G,Qo6]
   by_cases hc:l.getD i 0=c
   ·rw[Y2 hc];have⟨x,h1,h2⟩:=ih (i+1) (i+1) (out++[(l.take i).drop j]) (by omega) (Yi _) (by simp;omega);refine⟨x,(J2 ?_).trans h1,h2.1,h2.2.1,?_⟩
    ·dsimp only;rw[Y2 (by simp;omega),Qd (by simp;omega),Y3,QfH G,hb,Y2 (X4.2 hc),Qd (by simp;omega),Qd (by simp;omega),Y3,QwB,J];simp
    ·have⟨q,O,U,I⟩:=h2.2.2;refine⟨q,O,U,?_⟩;rw[I];have:(l.take (i+1)).drop (i+1)=[]:=by simp
     rw[this];simp
   ·rw[Y0 hc];have⟨x,h1,h2⟩:=ih (i+1) j out (by omega) (by omega) (by omega);have Y:(l.getD i 0==c)=false:=by simpa using hc
    refine⟨x,(J2 ?_).trans h1,h2.1,h2.2.1,?_⟩
    ·dsimp only;rw[Y2 (by simp;omega),Qd (by simp;omega),Y3,QfH G,hb,Y,Y0 (by simp),J]
    ·have⟨q,O,U,I⟩:=h2.2.2;refine⟨q,O,U,?_⟩;rw[I];have:(l.take (i+1)).drop j=(l.take i).drop j++[l.getD i 0]:=by
      rw[Xt,List.drop_append_of_le_length (by simp;omega),Y1,Y7 G]
      rfl
     rw[this]
 have⟨x,e,h1,h2,q,O,U,I⟩:=key l.length 0 0 [] (by omega) (Yi _) (by simp);refine(congrArg (fun m=>bd m _) e).trans ?_;rw[Qa,O,Qd (by simp;omega),Qd (by simp;omega),Y3,Y3,QwB,QaT,YZ,I];rw[List.take_zero,Y04,YA,QnQ _ _ _ (by simp),YA]
 rfl
theorem Qrf {xs:List Bt} {a:Bt} (h:xs.length<=1048576):QaH xs a=some (xs.any (· ==a)):=by
 unfold QaH;rw[Jp xs.length (fun i=>xs.getD i default==a) (fun i=>.inl ()) (.inr ()) (fun i hi=>?_) (by rw[Y0 (by simp)]),Qa,Qe7]
 ·cases ZQ (fun i=>xs.getD i default==a) xs.length<;>rfl
 ·rw[Y2 (by simp;omega),Qd (by omega),Y3,Qj hi (by omega)]
  cases xs.getD i default==a<;>rfl
theorem QmY {xs:List Bt} {a:Bt} (h:xs.length<=1048576):Qv xs a=some (xs.any (· ==a)):=by
 unfold Qv JK;rw[Jp xs.length (fun i=>xs.getD i default==a) (fun i=>.inl (i:Int)) (.inr ()) (fun i hi=>?_) (by rw[Y0 (by simp)]),Qa,Qe7]
 ·cases ZQ (fun i=>xs.getD i default==a) xs.length
  ·rfl
  ·simp
 ·have e:(a==xs.getD i default)=(xs.getD i default==a):=by rw[YE];simp only[X4];exact eq_comm
  rw[Y2 (by simp;omega),Qd (by omega),Y3,Qj hi (by omega),e]
  cases xs.getD i default==a<;>rfl
def heads:List Bt:=[⟨#[100,111,111,114]⟩,⟨#[104,111,115,116]⟩,⟨#[110,97,116]⟩,⟨#[112,101,101,114]⟩,⟨#[112,111,114,116]⟩,⟨#[114,111,117,116,101]⟩,⟨#[114,117,108,101]⟩,⟨#[117,115,101,114]⟩]
def Qvy (G:List Bt) (i:Nat):Bool:=!(heads.any (· ==G.getD i default))||(decide (0<i)&& !(bsl (G.getD (i-1) default) (G.getD i default)))
def Qjg (G:List Bt):Bool:=(ZQ (Qvy G) G.length).isNone
def Qvz (w:Bs):Bool:=(tS w==⟨#[97,108,108]⟩)||(tS w==⟨#[110,111,110,101]⟩)
def QiA (w:Bs):Bool:=Qvz w||Qjg ((Qcm 44 w).map tS)
theorem QwC {G:List Bt} {i:Nat} (hi:i<G.length) (h:G.length<=1048576):(!(heads.any (· ==G.getD i default))||(decide ((i:Int)>0)&& !(bsl (G.getD ((IntKind.i64.wrap ((i:Int) -1)).toNat) default) (G.getD i default))))=Qvy G i:=by
 unfold Qvy
 cases i with
 |zero=>simp
 |succ i=>
  rw[QkN hi (by omega) (by omega),Y3];have:decide (((i+1:Nat):Int)>0)=decide (0<i+1):=by simp<;>omega
  rw[this]
theorem QtS {i:Nat} {n:Nat} {b:Bool} (hi:i<n) (h:n<=1048576):(decide ((i:Int)>0))=true->((!b)=false->((0:Int)<=IntKind.i64.wrap ((i:Int) -1)∧IntKind.i64.wrap ((i:Int) -1)<((n:Nat):Int))):=by
 intro G _;have G:=Yl G;rw[Qm (by omega) (by omega)];omega
theorem Qlr {w:Bs} (h:w.length<=1000000):Jr (tS w)=some (if Qvz w=true then([tS w],true) else if Qjg ((Qcm 44 w).map tS)=true then((Qcm 44 w).map tS,true) else([],false)):=by
 have I:(⟨#[44]⟩:Bt)=tS [44]:=rfl;unfold Jr ZJ;show(if Qvz w=true then _ else _)=_
 by_cases ha:Qvz w=true
 ·rw[Y2 ha,Y2 ha]
 rw[Y0 ha,Y0 ha,I,Qd (by simp;omega),Qa,QnM];have hl:((Qcm 44 w).map tS).length<=1048576:=by have:=QfI 44 w;simp;omega
 unfold Qjg;generalize (Qcm 44 w).map tS=G at hl;rw[Jp G.length (Qvy G) (fun _=>.inl ()) (.inr ()) (fun i hi=>?_) (by rw[Y0 (by simp)]),Qa]
 ·cases ZQ (Qvy G) G.length<;>rfl
 ·rw[Y2 (by simp;omega),Qd (by omega),Y3,Qj hi (by omega),show Qv [_,_,_,_,_,_,_,_] (G.getD i default)=_ from QmY (xs:=heads) (by decide),Qa,Qd (QtS hi hl),QwC hi hl]
  cases Qvy G i<;>rfl
theorem QtT {w:Bs} (h:w.length<=1000000):QcC (tS w)=some (QiA w):=by
 unfold QcC;rw[Qlr h,Qa];unfold QiA
 cases Qvz w
 ·cases Qjg ((Qcm 44 w).map tS)<;>rfl
 ·rfl
theorem QtU {w:Bs} (h:w.length<=1000000):Qb3 (tS w)=some (QiA w):=by
 unfold Qb3;show(if Qvz w=true then _ else _)=_;unfold QiA
 by_cases ha:Qvz w=true
 ·rw[Y2 ha,ha];rfl
 rw[Y0 ha,Xf.2 ha,YL];have hl:((Qcm 44 w).map tS).length<=1048576:=by have:=QfI 44 w;simp;omega
 rw[show JH (tS w) 44=_ from Qre 44 h,Qa];unfold Qjg;generalize (Qcm 44 w).map tS=G at hl;rw[Jp G.length (Qvy G) (fun _=>.inl ()) (.inr ()) (fun i hi=>?_) (by rw[Y0 (by simp)]),Qa]
 ·cases ZQ (Qvy G) G.length<;>rfl
 ·rw[Y2 (by simp;omega),show Qcp=some heads from rfl,Qa,Qd (by omega),Y3,Qrf (xs:=heads) (by decide),Qa,Qd (QtS hi hl),Qd (fun _ _=>by omega),Qj hi (by omega),QwC hi hl]
  cases Qvy G i<;>rfl
theorem QtV (n:Nat) (b:UInt8) (r:Bs):Qqk n (b::r)=Qqk (n*10+(b.toNat-48)) r:=by
 unfold Qqk;rw[Y0o]
theorem QwD {n:Int} (h1:0<=n) (h2:n<=255):IntKind.u8.wrap n=n:=by
 have e1:IntKind.bits .u8=8:=rfl;have G:IntKind.signed .u8=false:=rfl;unfold IntKind.wrap;simp only[e1,G,YM];rw[Int.emod_eq_of_lt h1 (by omega)]
 rfl
theorem QtW (b:UInt8):inI (iB b) 48 57=Qkr b:=Qvw (lo:=48) (hi:=57) b
theorem Qo7 (w:Bs) (h:w.length<=1000000):ZN (tS w)=some (QcY w):=by
 unfold ZN;rw[Qlp,Qa,QaT];unfold QcY;rcases XC (inI (w.length:Int) 1 6) with h1|h1
 ·have hr:=QgF.1 h1;have h0:Qaa (tS w) 0=iB (w.getD 0 0):=QfH (by omega);have a2:(iB (w.getD 0 0)==48)=(w.getD 0 0==48):=QmW (b:=48);rw[h1,Qd (fun _ _=>by omega),h0,a2,Y09,YL]
  by_cases O:(decide ((w.length:Int)>1)&&(w.getD 0 0==48))=true
  ·rw[Y2 O,Y0];rintro⟨hc,_⟩;simp only[QlN,Y4,YJ,Ym,bne_iff_ne,X4] at hc O;rcases hc.2 with h|h
   ·omega
   ·exact h O.2
  rw[Y0 O];have Y:QlN w=w.all Qkr:=by
   unfold QlN;have e1:w.isEmpty=false:=by cases w with|nil=>simp at hr|cons _ _=>rfl
   have e2:(decide (w.length=1)||w.getD 0 0 !=48)=true:=by
    rcases YV 1 w.length with hl|hl
    ·have:decide ((w.length:Int)>1)=true:=Yd (by omega);rw[this,Yq] at O;have:(w.getD 0 0 !=48)=true:=by simpa[bne] using O
     rw[this,Y0q]
    ·rw[Yd (by omega),XU]
   rw[e1,e2,Xj];rfl
  have key:∀(k i v:Nat),i+k=w.length->v<10^i->lp (σ:=Int×Int) (β:=(Unit⊕Int)) (fun G=>
 (if(decide (G.2<((w.length:Nat):Int)))=true then
 gd ((0:Int)<=G.2∧G.2<((w.length:Nat):Int))<|
 bd (QT (IntKind.i64.wrap (Qaa (tS w) G.2.toNat)) 48 57) fun x8=>
 (if(!x8)=true then
 some (.inr (.inl ()))
 else
 gd ((0:Int)<=G.2∧G.2<((w.length:Nat):Int))<|
 some (.inl (IntKind.i64.wrap ((IntKind.i64.wrap (G.1*10))+(IntKind.i64.wrap (IntKind.u8.wrap ((Qaa (tS w) G.2.toNat) -48)))),IntKind.i64.wrap (G.2+1))))
 else
 some (.inr (.inr G.1)))) ((v:Int),(i:Int))=some (if(w.drop i).all Qkr=true then .inr ((Qqk v (w.drop i):Nat):Int) else .inl ()):=by
   intro k
   induction k with
   |zero=>
    intro i v hi hv;have hi:i=w.length:=by omega
    subst hi;rw[Z8 (b:=.inr (v:Int)) (by rw[Y0 (by simp)])];rw[List.drop_length];rfl
   |succ k ih=>
    intro i v hi hv;have J:i<w.length:=by omega
    have hi6:10^i<=10^6:=Xs (by omega) (by omega);rw[QtR J,XB,QtV];generalize a1:w.getD i 0=c;have U:Qaa (tS w) ((i:Int)).toNat=iB c:=by rw[Y3,QfH J,a1]
    cases I:Qkr c
    ·rw[YM,Y0 (by decide)];refine Z8 ?_;dsimp only;rw[Y2 (by simp;omega),Qd (by omega),U,QnO,Qlp,Qa,QtW,I,Y2 (by rfl)]
    ·have a3:=I;simp only[Qkr,Y4,Ym] at a3;rw[Yq,<-ih (i+1) (v*10+(c.toNat-48)) (by omega) (by rw[Y0s];omega)];refine J2 ?_;dsimp only;rw[Y2 (by simp;omega),Qd (by omega),U,QnO,Qlp,Qa,QtW,I,Y0 (by decide),Qd (by omega),Qj J (by omega)];have e1:IntKind.u8.wrap (iB c-48)=((c.toNat-48:Nat):Int):=by
      unfold iB;rw[QwD (by omega) (by omega)];omega
     have e2:IntKind.i64.wrap ((v:Int)*10)=(v:Int)*10:=Qm (by omega) (by omega);rw[e1,e2,Qm (n:=((c.toNat-48:Nat):Int)) (by omega) (by omega),Qm (by omega) (by omega)];simp
  have k0:=key w.length 0 0 (by omega) (by decide);refine(congrArg (fun m=>bd m _) k0).trans ?_;rw[Qa,Y04,Y]
  by_cases I:w.all Qkr=true
  ·rw[Y2 I,Y2 ⟨I,by omega⟩];rfl
  ·rw[Y0 I,Y0 fun h=>I h.1]
 ·rw[h1,Qd (fun _ h=>by cases h),Y2 (by rfl),Y0];rintro⟨hc,hl⟩;have h1:=fun h=>Xf.1 h1 (QgF.2 h);refine h1 ?_;have⟨_,a4⟩:=Qcj hc;have:w.length≠0:=fun e=>a4 (Yv e);omega
theorem QhP {w:Bs} {lo hi:Int} (h:w.length<=1000000):Zh (tS w) lo hi=some (isN w lo hi):=by
 unfold Zh;rw[Qo7 w h,Qa,Qlp,Qa]
 rfl
theorem Qls {w:Bs} (h:w.length<=1000000):JQ (tS w)=some (Qmd w):=by
 unfold JQ;rw[Qd (by simp;omega),QxJ]
theorem Qrg {w:Bs} (h:w.length<=1000000):QaL (tS w)=some (QcY w):=by
 unfold QaL;rw[QaT]
 by_cases h6:w.length<=6
 ·rw[Y0 (by simp;omega),Qls h,Qa,Qrd h6]
 ·rw[Y2 (by simp;omega)];unfold QcY;rw[Y0 fun h=>h6 h.2]
theorem Qz4 {w:Bs} {lo hi:Int} (h:w.length<=1000000):Qb8 (tS w) lo hi=some (isN w lo hi):=by
 unfold Qb8;rw[Qrg h,Qa,Qlq,Qa]
 rfl
def QsL (c:UInt8) (w:Bs):Option (Bs×Bs):=match Qcm c w with
 |[a,b]=>some (a,b)
 |_=>none
def ZP (w:Bs):Int:=match QsL 46 w with
 |some (a,b)=>if isN a 0 255=true∧isN b 0 255=true then 256*QcY a+QcY b else-1
 |none=>-1
theorem Qlt {c:UInt8} {w a b:Bs} (h:QsL c w=some (a,b)):Qcm c w=[a,b]:=by
 unfold QsL at h;split at h
 ·rename_i e;simp only[Y9,YY] at h;rw[e,h.1,h.2]
 ·cases h
theorem Qe9 (c:UInt8):∀(l x:Bs),x∈Qcm c l->x.length<=l.length
 |[],x,h=>by simp[Qcm] at h;simp[h]
 |b::r,x,h=>by
  unfold Qcm at h;split at h
  ·rcases Yh.1 h with rfl|h
   ·simp
   ·have:=Qe9 c r x h;simp;omega
  ·split at h
   ·simp at h;subst h;simp
   ·rename_i w ws e;rcases Yh.1 h with rfl|h
    ·have:=Qe9 c r w (by rw[e];simp);simp;omega
    ·have:=Qe9 c r x (by rw[e];simp[h]);simp;omega
theorem Qrh {c:UInt8} {w a b:Bs} (h:QsL c w=some (a,b)):a.length<=w.length∧b.length<=w.length:=by
 have e:=Qlt h;exact⟨Qe9 c w a (by rw[e];simp),Qe9 c w b (by rw[e];simp)⟩
theorem Qri {c:UInt8} {l:Bs}:QsL c l=if c∈l∧c∉l.drop ((l.takeWhile (· !=c)).length+1) then some (l.takeWhile (· !=c),l.drop ((l.takeWhile (· !=c)).length+1)) else none:=by
 by_cases hc:c∈l
 ·have⟨h1,h2⟩:=Qkp hc;generalize l.takeWhile (· !=c)=a at h1 h2;generalize l.drop (a.length+1)=r at h1;subst h1;unfold QsL;rw[QfG h2]
  by_cases G:c∈r
  ·rw[Y0 (fun h=>h.2 G)];have⟨h3,h4⟩:=Qkp G;rw[h3,QfG h4]
   cases hs:Qcm c (List.drop ((List.takeWhile (fun x=>x !=c) r).length+1) r) with
   |nil=>exact absurd hs (QnL _ _)
   |cons x xs=>rfl
  ·rw[Y2 ⟨hc,G⟩,Qet G]
 ·rw[Y0 fun h=>hc h.1];unfold QsL;rw[Qet hc]
theorem Qfa {w:Bs} {lo hi:Int} (h:isN w lo hi=true):lo<=QcY w∧QcY w<=hi:=QgF.1 h
theorem Qlu (w:Bs):-1<=ZP w∧ZP w<=65535:=by
 unfold ZP;split
 ·split
  ·rename_i h;have h1:=Qfa h.1;have h2:=Qfa h.2;omega
  ·omega
 ·omega
theorem QtX {c:UInt8} {w:Bs} (h:QsL c w=none):(Qcm c w).length≠2:=by
 unfold QsL at h;split at h
 ·cases h
 ·rename_i G;intro hl
  match hs:Qcm c w,hl with
  |[a,b],_=>exact G a b hs
theorem Qjh {w:Bs} (h:w.length<=1000000):Zf (tS w)=some (ZP w):=by
 unfold Zf;rw[show JH (tS w) 46=_ from Qre 46 h,Qa];unfold ZP
 cases hc:QsL 46 w with
 |none=>
  have hn:=QtX hc;have e:((((Qcm 46 w).map tS).length:Int) !=2)=true:=by simp;omega
  rw[e,Qd (fun h=>by cases h),QO (by decide),Qa];simp only[XU];rw[Qd (fun h=>by cases h),QO (by decide),Qa,Y2 (by simp)]
 |some p=>
  have⟨a,b⟩:=p;have e:=Qlt hc;have⟨l1,l2⟩:=Qrh hc;rw[e];have J:((([a,b].map tS).length:Int) !=2)=false:=by rfl
  have G:([a,b].map tS).getD 0 default=tS a:=rfl;have I:([a,b].map tS).getD 1 default=tS b:=rfl;have hl:(([a,b].map tS).length:Int)=2:=rfl;rw[J,G,I,Qd (fun _=>by rw[hl];decide),Qe rfl,QhP (by omega),Qa,YL,QhP (by omega),Qd (fun _=>by rw[hl];decide),Qko,Qa];dsimp only
  cases ha:isN a 0 255
  ·simp
  ·cases hb:isN b 0 255
   ·simp
   ·have h1:=Qfa ha;have h2:=Qfa hb;have e1:IntKind.i64.wrap (256*QcY a)=256*QcY a:=Qm (by omega) (by omega);rw[Y0 (by decide),Qd (by rw[hl];decide),Qo7 a (by omega),Qa,Qd (by rw[hl];decide),Qo7 b (by omega),Qa,e1,Qm (by omega) (by omega),Y2 ⟨rfl,rfl⟩]
theorem Qo8 {w:Bs} {c:UInt8} (hc:c∈w) (G:Qkr c=false):Qmd w=-1:=by
 unfold Qmd;rw[Y0];rintro⟨h,_⟩;have:=Yb.1 (Qcj h).1 c hc;rw[G] at this;cases this
theorem Qji {w:Bs} (h:w.length<=1000000):JR (tS w)=some (ZP w):=by
 have J:(⟨#[46]⟩:Bt)=tS [46]:=rfl;unfold JR Jm;rw[J,Qd (by simp;omega),Qa,Qqh];unfold ZP;rw[Qri]
 by_cases hc:(46:UInt8)∈w
 ·rw[Y2 hc];have I:(w.takeWhile (· !=46)).length<=w.length:=XK (Xy _);generalize w.takeWhile (· !=46)=a at I;have G:(w.drop (a.length+1)).length<=w.length:=by rw[Y07];omega
  generalize w.drop (a.length+1)=b at G;dsimp only;rw[Qls (by omega),Qa,Qls (by omega),Qa,Qlq,Qlq,Qe (by rfl),Qa,Y09,YL,Qko,Qa];have⟨p1,U⟩:=Qqn (w:=a) (lo:=0) (hi:=255) (by decide) (by decide);have⟨Y,O⟩:=Qqn (w:=b) (lo:=0) (hi:=255) (by decide) (by decide)
  by_cases hb:(46:UInt8)∈b
  ·rw[Y0 (show ¬((46:UInt8)∈w∧(46:UInt8)∉b) from fun h=>h.2 hb)];have:inI (Qmd b) 0 255=false:=by rw[Qo8 hb (by decide)];decide
   rw[this,XT,Y2 (by simp)]
  ·rw[Y2 (show(46:UInt8)∈w∧(46:UInt8)∉b from⟨hc,hb⟩)];dsimp only;unfold isN;rw[<-p1,<-Y]
   cases ha:inI (Qmd a) 0 255
   ·simp
   ·cases hb:inI (Qmd b) 0 255
    ·simp
    ·have h1:=QgF.1 ha;have h2:=QgF.1 hb;have e1:IntKind.i64.wrap (256*Qmd a)=256*Qmd a:=Qm (by omega) (by omega);rw[Y0 (by decide),Y2 ⟨rfl,rfl⟩,<-U ha,<-O hb,e1,Qm (by omega) (by omega)]
 ·rw[Y0 hc,Y0 fun h=>hc h.1];dsimp only;rw[Qls h,Qa,Qls (by simp),Qa,QO (by decide),Qa,XM,XU,QO (by decide),Qa,XU,Y2 rfl]
def Qew (w:Bs):Option (Int×Nat):=match QsL 47 w with
 |some (a,b)=>if 0<=ZP a∧isN b 0 16=true∧(ZP a).toNat%2^(16-(QcY b).toNat)=0 then some (ZP a,(QcY b).toNat) else none
 |none=>none
theorem QhQ {w:Bs} {a:Int} {n:Nat} (h:Qew w=some (a,n)):0<=a∧a<=65535∧n<=16∧a.toNat%2^(16-n)=0:=by
 unfold Qew at h;split at h
 ·split at h
  ·rename_i h1;simp only[Y9,YY] at h;obtain⟨rfl,rfl⟩:=h;have:=Qfa h1.2.1;exact⟨h1.1,(Qlu _).2,by omega,h1.2.2⟩
  ·cases h
 ·cases h
theorem QxL {n:Nat} (h:n<=16):Qda (n:Int)=some ((2^(16-n):Nat):Int):=by
 unfold Qda;have key:∀(k m v:Nat),m+k=16->v*2^k<=65536->lp (σ:=Int×Int) (β:=(Int)) (fun s1=>
(if(decide (s1.2<16))=true then
 some (.inl (IntKind.i64.wrap (s1.1*2),IntKind.i64.wrap (s1.2+1)))
else
 some (.inr s1.1))) ((v:Int),(m:Int))=some ((v*2^k:Nat):Int):=by
  intro k
  induction k with
  |zero=>
   intro m v hm hv;refine Z8 ?_;dsimp only;rw[Y0 (by simp;omega)];simp
  |succ k I=>
   intro m v hm hv;rw[Y0s] at hv;have e:v*2^(k+1)=(v*2)*2^k:=by rw[Y0s,Xv (2^k),Nat.mul_assoc]
   have hle:v*2<=(v*2)*2^k:=Nat.le_mul_of_pos_right _ (Nat.pow_pos (by decide));have G:(v*2)*2^k<=65536:=by rw[Nat.mul_assoc,Xv 2];exact hv
   rw[e,<-I (m+1) (v*2) (by omega) G];refine J2 ?_;dsimp only;rw[Y2 (by simp;omega),Qm (by omega) (by omega),Qm (by omega) (by omega)];simp
 have:=key (16-n) n 1 (by omega) (by rw[Y0b];exact Xs (n:=2) (j:=16) (by decide) (by omega));refine(congrArg (fun m=>bd m _) this).trans ?_;rw[Qa,Y0b]
theorem Qrj (a b:Nat):((a:Int).tmod (b:Int) !=0)=!decide (a%b=0):=by
 have:(a:Int).tmod (b:Int)=((a%b:Nat):Int):=rfl;rw[this]
 by_cases h:a%b=0
 ·rw[h];rfl
 ·rw[YP h];simp;omega
theorem Qrk (k:Nat):((2^k:Nat):Int)≠0:=by
 have:0<2^k:=Nat.pow_pos (by decide);omega
theorem Qo9 {w:Bs} (h:w.length<=1000000):Zt (tS w)=some (match Qew w with|some (a,n)=>(a,((2^(16-n):Nat):Int))|none=>(-1,0)):=by
 unfold Zt;rw[show JH (tS w) 47=_ from Qre 47 h,Qa];unfold Qew
 cases hc:QsL 47 w with
 |none=>
  have I:=QtX hc;have e:((((Qcm 47 w).map tS).length:Int) !=2)=true:=by simp;omega
  rw[e,Qd (fun h=>by cases h),QO (by decide),Qa];simp only[XU];rw[Qd (fun h=>by cases h),QO (by decide),Qa,Y2 (by simp)]
 |some p=>
  have⟨a,b⟩:=p;have e:=Qlt hc;have⟨l1,l2⟩:=Qrh hc;rw[e];have Y:((([a,b].map tS).length:Int) !=2)=false:=by rfl
  have J:([a,b].map tS).getD 0 default=tS a:=rfl;have O:([a,b].map tS).getD 1 default=tS b:=rfl;have hl:(([a,b].map tS).length:Int)=2:=rfl;rw[Y,J,O,Qd (fun _=>by rw[hl];decide),Qe rfl,Qjh (by omega),Qa,YL,QhP (by omega),Qd (fun _=>by rw[hl];decide),Qko,Qa];dsimp only
  by_cases ha:0<=ZP a
  ·rw[YP (by omega)]
   cases hb:isN b 0 16
   ·simp
   ·have h2:=Qfa hb;have U:QcY b=((QcY b).toNat:Int):=by omega
    have G:ZP a=((ZP a).toNat:Int):=by omega
    rw[Y0 (by decide),Qd (by rw[hl];decide),Qa,Qd (by rw[hl];decide),Qo7 b (by omega),Qa,U,QxL (by omega),Qa,Qd (Qrk _),G,Qrj];simp only[Y3]
    by_cases hm:(ZP a).toNat%2^(16-(QcY b).toNat)=0
    ·rw[Yd hm,Y0 (by decide),Y2 ⟨by omega,trivial,hm⟩]
    ·rw[YP hm,Y2 (by rfl),Y0 fun h=>hm h.2.2]
  ·have I:¬(0<=ZP a∧isN b 0 16=true∧(ZP a).toNat%2^(16-(QcY b).toNat)=0):=fun h=>ha h.1;rw[Yd (by omega),Y0 I,Y2 (by simp)]
theorem Qc7 {w:Bs} (h:w.length<=1000000):ZE (tS w)=some (Qew w).isSome:=by
 unfold ZE;rw[Qo9 h,Qa]
 cases hp:Qew w with
 |none=>rfl
 |some p=>
  have⟨a,n⟩:=p;have:=QhQ hp;exact congrArg some (Yd this.1)
def mkP (a:Int) (n:Nat):QAx:=⟨a,(n:Int)⟩
theorem Qrl {a:Int} {n:Nat} (h:n<=16):ZT (mkP a n)=some ((2^(16-n):Nat):Int):=by
 unfold ZT mkP;dsimp only;have e:IntKind.i64.wrap (16-(n:Int))=((16-n:Nat):Int):=by rw[Qm (by omega) (by omega)];omega
 have hp:2^(16-n)<=2^16:=Xs (by decide) (by omega);rw[e,Qd (by omega),Y3,Xh (by show 16-n<=64;omega)];have I:(1:Int)*2^(16-n)=((2^(16-n):Nat):Int):=by rw[Int.one_mul,Int.natCast_pow];rfl
 have G:2^(16-n)<=65536:=hp;rw[I];generalize 2^(16-n)=z at G;rw[Qm (by omega) (by omega)]
theorem Qpa {w:Bs} (h:w.length<=1000000):JX (tS w)=some (match Qew w with|some (a,n)=>(mkP a n,true)|none=>(mkP 0 0,false)):=by
 have U:(⟨#[47]⟩:Bt)=tS [47]:=rfl;unfold JX Jm;rw[U,Qd (by simp;omega),Qa,Qqh];unfold Qew;rw[Qri]
 by_cases hc:(47:UInt8)∈w
 ·rw[Y2 hc];have I:(w.takeWhile (· !=47)).length<=w.length:=XK (Xy _);generalize w.takeWhile (· !=47)=a at I;have G:(w.drop (a.length+1)).length<=w.length:=by rw[Y07];omega
  generalize w.drop (a.length+1)=b at G;dsimp only;rw[Qji (by omega),Qa,Qls (by omega),Qa,Qe (by rfl)];unfold Qgc;dsimp only;rw[Qlq,Qa,Qlq];have hr:=Qlu a;have⟨q1,q2⟩:=Qqn (w:=b) (lo:=0) (hi:=16) (by decide) (by decide)
  cases hl:inI (Qmd b) 0 16
  ·simp only[gcall,Qa,YM,Yu,X6,gd];rw[Y2 (by simp)];have:isN b 0 16=false:=by unfold isN;rw[<-q1];exact hl
   have J:¬(0<=ZP a∧isN b 0 16=true∧(ZP a).toNat%2^(16-(QcY b).toNat)=0):=fun h=>by rw[this] at h;exact absurd h.2.1 (by decide)
   by_cases hq:(47:UInt8)∈w∧(47:UInt8)∉b
   ·rw[Y2 hq];dsimp only;rw[Y0 J]
    rfl
   ·rw[Y0 hq]
    rfl
  ·have hi:=QgF.1 hl;have hN:isN b 0 16=true:=by unfold isN;rw[<-q1];exact hl
   have Y:(47:UInt8)∉b:=fun hm=>by rw[Qo8 hm (by decide)] at hi;omega
   rw[Y2 (show(47:UInt8)∈w∧(47:UInt8)∉b from⟨hc,Y⟩)];dsimp only
   by_cases ha:0<=ZP a
   ·have hA:inI (ZP a) 0 65535=true:=QgF.2 ⟨ha,hr.2⟩;have hz:Qmd b=((QcY b).toNat:Int):=by rw[<-q2 hl];omega
    have O:ZP a=((ZP a).toNat:Int):=by omega
    rw[hA,Qe (by rfl),Qa,Qe (by rfl),hz,show ZT ⟨ZP a,(((QcY b).toNat:Nat):Int)⟩=_ from Qrl (a:=ZP a) (n:=(QcY b).toNat) (by omega),Qa,Qd (fun _=>Qrk _),Qa];have ht:((ZP a).tmod ((2^(16-(QcY b).toNat):Nat):Int)==0)=decide ((ZP a).toNat%2^(16-(QcY b).toNat)=0):=by
     rw[O];have:=Qrj (ZP a).toNat (2^(16-(QcY b).toNat));simp only[bne,Y3] at this|-;simpa using this
    rw[ht]
    by_cases hm:(ZP a).toNat%2^(16-(QcY b).toNat)=0
    ·rw[Yd hm,Y0 (by decide),Y2 ⟨ha,hN,hm⟩];rfl
    ·rw[YP hm,Y2 (by decide),Y0 fun h=>hm h.2.2];rfl
   ·have hA:inI (ZP a) 0 65535=false:=Xf.2 fun h=>ha (QgF.1 h).1;have J:¬(0<=ZP a∧isN b 0 16=true∧(ZP a).toNat%2^(16-(QcY b).toNat)=0):=fun h=>ha h.1;rw[hA,Y0 J];simp only[gcall,Qa,XT,YM,Yu,X6,YG,gd];rw[Y2 (by simp)]
    rfl
 ·rw[Y0 hc,Y0 fun h=>hc h.1];dsimp only;rw[Qji h,Qa,Qls (by simp),Qa,QO (by decide),Qa,Y2 (by simp)]
  rfl
theorem Qqo {w:Bs} (h:w.length<=1000000):QcD (tS w)=some (Qew w).isSome:=by
 unfold QcD;rw[Qpa h,Qa]
 cases Qew w<;>rfl
theorem QtY {w:Bs} (h:w.length<=1000000):Qb7 (tS w)=some (decide (0<=ZP w)):=by
 unfold Qb7;rw[Qji h,Qa]
def QfJ:Bs:=[104,111,115,116]
def wUser:Bs:=[117,115,101,114]
def Q6:Bs:=[112,111,114,116]
def QaF:Bs:=[114,117,108,101]
def QaG:Bs:=[114,111,117,116,101]
def QbK:Bs:=[112,101,101,114]
def QiM:Bs:=[110,97,116]
def wDoor:Bs:=[100,111,111,114]
def wIn:Bs:=[105,110]
def QhR:Bs:=[112,101,114,109,105,116]
def Qqp:Bs:=[100,101,110,121]
def QyL:Bs:=[97,108,108]
def ckP (w:Bs):Bool:=(Qew w).isSome
def ckA (w:Bs):Bool:=decide (0<=ZP w)
def ckV (w:Bs):Bool:=w==QhR||w==Qqp
def QgG:List Bs->Bool
 |[]=>false
 |a::t=>if a=QfJ then(match t with|[b]=>Qc6 b|_=>false)
  else if a=wUser then(match t with|[b,c]=>Qc6 b&&QiA c|_=>false)
  else if a=Q6 then(match t with|[b,c]=>isN b 0 7&&ckP c|[b,c,d,e]=>isN b 0 7&&ckP c&&d==wIn&&Qc6 e|_=>false)
  else if a=QaF then(match t with|[b,c,d,e,f,g]=>Qc6 b&&isN c 0 99&&ckV d&&ckP e&&ckP f&&isN g 0 7|_=>false)
  else if a=QaG then(match t with|[b,c]=>ckP b&&ckA c|_=>false)
  else if a=QbK then(match t with|[b,c,d]=>ckA b&&isN c 1 9&&isN d 1 999999|_=>false)
  else if a=QiM then(match t with|[b,c,d,e]=>ckP b&&ckA c&&isN d 1 65535&&isN e 1 65535|_=>false)
  else if a=wDoor then(match t with|[b,c,d,e]=>isN b 1 7&&isN c 1 65535&&ckA d&&isN e 1 65535|_=>false)
  else false
def keyN (a:Bs):Nat:=if a=QfJ∨a=QiM then 1 else if a=wUser∨a=Q6∨a=QbK then 2 else 3
theorem Qz5 (a c:Bs):(tS a==tS c)=decide (a=c):=by
 rw[Ji]
 by_cases h:a=c
 ·rw[Yd h,h];simp
 ·rw[YP h];simpa using h
theorem QvA {t:List Bs} {a:Bs} {n:Nat} (h:t.length≠n):(((((a::t).map tS).length:Nat):Int)==((n+1:Nat):Int))=false:=by
 simp only[Ya,Ye];rw[beq_eq_false_iff_ne];omega
theorem QAi {t:List Bs} (h:t.length=1):∃b,t=[b]:=by
 match t,h with
 |[b],_=>exact⟨b,rfl⟩
theorem QyM {t:List Bs} (h:t.length=2):∃b c,t=[b,c]:=by
 match t,h with
 |[b,c],_=>exact⟨b,c,rfl⟩
theorem QAj {t:List Bs} (h:t.length=3):∃b c d,t=[b,c,d]:=by
 match t,h with
 |[b,c,d],_=>exact⟨b,c,d,rfl⟩
theorem QyN {t:List Bs} (h:t.length=4):∃b c d e,t=[b,c,d,e]:=by
 match t,h with
 |[b,c,d,e],_=>exact⟨b,c,d,e,rfl⟩
theorem QAk {t:List Bs} (h:t.length=6):∃b c d e f g,t=[b,c,d,e,f,g]:=by
 match t,h with
 |[b,c,d,e,f,g],_=>exact⟨b,c,d,e,f,g,rfl⟩
theorem m1 (P:Bs->Bool):∀ {t:List Bs},t.length≠1->(match t with|[b]=>P b|_=>false)=false:=by
 intro t h;split
 ·rename_i h;simp at h
 ·rfl
theorem m2 (P:Bs->Bs->Bool):∀ {t:List Bs},t.length≠2->(match t with|[b,c]=>P b c|_=>false)=false:=by
 intro t h;split
 ·rename_i h;simp at h
 ·rfl
theorem m3 (P:Bs->Bs->Bs->Bool):∀ {t:List Bs},t.length≠3->(match t with|[b,c,d]=>P b c d|_=>false)=false:=by
 intro t h;split
 ·rename_i h;simp at h
 ·rfl
theorem m4 (P:Bs->Bs->Bs->Bs->Bool):∀ {t:List Bs},t.length≠4->(match t with|[b,c,d,e]=>P b c d e|_=>false)=false:=by
 intro t h;split
 ·rename_i h;simp at h
 ·rfl
theorem m6 (P:Bs->Bs->Bs->Bs->Bs->Bs->Bool):∀ {t:List Bs},t.length≠6->(match t with|[b,c,d,e,f,g]=>P b c d e f g|_=>false)=false:=by
 intro t h;split
 ·rename_i h;simp at h
 ·rfl
theorem m24 (P:Bs->Bs->Bool) (Q:Bs->Bs->Bs->Bs->Bool):∀ {t:List Bs},t.length≠2->t.length≠4->(match t with|[b,c]=>P b c|[b,c,d,e]=>Q b c d e|_=>false)=false:=by
 intro t h G;split
 ·rename_i h _;simp at h
 ·rename_i G;simp at G
 ·rfl
theorem QxM {ws:List Bs} (h:∀w∈ws,w.length<=1000000):Qdb (ws.map tS)=some (QgG ws):=by
 unfold Qdb
 cases ws with
 |nil=>rfl
 |cons a t=>
  have g0:((a::t).map tS).getD 0 default=tS a:=rfl;have hl:(((((a::t).map tS).length:Nat):Int)==0)=false:=by rw[beq_eq_false_iff_ne];simp only[Ya,Ye];omega
  have hb:∀w∈t,w.length<=1000000:=fun w hw=>h w (by simp[hw]);rw[hl,Y0 (by decide),Qd (by simp),g0];rw[show(⟨#[104,111,115,116]⟩:Bt)=tS QfJ from rfl,show(⟨#[117,115,101,114]⟩:Bt)=tS wUser from rfl,show(⟨#[112,111,114,116]⟩:Bt)=tS Q6 from rfl,show(⟨#[114,117,108,101]⟩:Bt)=tS QaF from rfl,show(⟨#[114,111,117,116,101]⟩:Bt)=tS QaG from rfl,show(⟨#[112,101,101,114]⟩:Bt)=tS QbK from rfl,show(⟨#[110,97,116]⟩:Bt)=tS QiM from rfl,show(⟨#[100,111,111,114]⟩:Bt)=tS wDoor from rfl];simp only[Qz5 a,Ym];dsimp only[QgG]
  by_cases c1:a=QfJ
  ·rw[Y2 c1,Y2 c1]
   by_cases G:t.length=1
   ·obtain⟨b,rfl⟩:=QAi G;have e1:=Qjf (hb b (by simp));simp[gd,gcall,bd,e1]
   ·have e:=QvA (a:=a) G;rw[m1 _ G];simp only[show(2:Int)=((1+1:Nat):Int) from rfl,e,gd,gcall,bd];simp
  rw[Y0 c1,Y0 c1]
  by_cases c2:a=wUser
  ·rw[Y2 c2,Y2 c2]
   by_cases G:t.length=2
   ·obtain⟨b,c,rfl⟩:=QyM G;have e1:=Qjf (hb b (by simp));have I:=QtU (hb c (by simp));simp[gd,gcall,bd,e1,I]
    cases Qc6 b<;>simp
   ·have e:=QvA (a:=a) G;rw[m2 _ G];simp only[show(3:Int)=((2+1:Nat):Int) from rfl,e,gd,gcall,bd];simp
  rw[Y0 c2,Y0 c2]
  by_cases c3:a=Q6
  ·rw[Y2 c3,Y2 c3]
   by_cases G:t.length=2
   ·obtain⟨b,c,rfl⟩:=QyM G;have e1:=QhP (lo:=0) (hi:=7) (hb b (by simp));have I:=Qc7 (hb c (by simp));simp[gd,gcall,bd,e1,I,ckP]
    cases isN b 0 7<;>simp
   ·by_cases Y:t.length=4
    ·obtain⟨b,c,d,e,rfl⟩:=QyN Y;have e1:=QhP (lo:=0) (hi:=7) (hb b (by simp));have I:=Qc7 (hb c (by simp));have J:=Qjf (hb e (by simp));have U:(tS d==(⟨#[105,110]⟩:Bt))=(d==wIn):=Ji d wIn;simp[gd,gcall,bd,e1,I,J,U,ckP]
     by_cases hd:d=wIn<;>simp[hd]
     cases Qc6 e<;>cases isN b 0 7<;>simp
    ·have e:=QvA (a:=a) G;have e5:=QvA (a:=a) Y;rw[m24 _ _ G Y];simp only[show(3:Int)=((2+1:Nat):Int) from rfl,show(5:Int)=((4+1:Nat):Int) from rfl,e,e5,gd,gcall,bd];simp
  rw[Y0 c3,Y0 c3]
  by_cases c4:a=QaF
  ·rw[Y2 c4,Y2 c4]
   by_cases G:t.length=6
   ·obtain⟨b,c,d,e,f,g,rfl⟩:=QAk G;have e1:=Qjf (hb b (by simp));have I:=QhP (lo:=0) (hi:=99) (hb c (by simp));have J:(tS d==(⟨#[112,101,114,109,105,116]⟩:Bt))=(d==QhR):=Ji d QhR;have U:(tS d==(⟨#[100,101,110,121]⟩:Bt))=(d==Qqp):=Ji d Qqp;have e5:=Qc7 (hb e (by simp));have e6:=Qc7 (hb f (by simp));have e7:=QhP (lo:=0) (hi:=7) (hb g (by simp));simp[gd,gcall,bd,e1,I,J,U,e5,e6,e7,ckP,ckV]
    cases Qc6 b<;>simp
    cases isN c 0 99<;>simp
    by_cases hd:d=QhR∨d=Qqp
    ·simp[hd]
     cases Qew e<;>simp
     cases Qew f<;>simp
    ·simp[hd]
   ·have e:=QvA (a:=a) G;rw[m6 _ G];simp only[show(7:Int)=((6+1:Nat):Int) from rfl,e,gd,gcall,bd];simp
  rw[Y0 c4,Y0 c4]
  by_cases c5:a=QaG
  ·rw[Y2 c5,Y2 c5]
   by_cases G:t.length=2
   ·obtain⟨b,c,rfl⟩:=QyM G;have e1:=Qc7 (hb b (by simp));have I:=Qjh (hb c (by simp));simp[gd,gcall,bd,e1,I,ckP,ckA]
    cases Qew b<;>simp
   ·have e:=QvA (a:=a) G;rw[m2 _ G];simp only[show(3:Int)=((2+1:Nat):Int) from rfl,e,gd,gcall,bd];simp
  rw[Y0 c5,Y0 c5]
  by_cases c6:a=QbK
  ·rw[Y2 c6,Y2 c6]
   by_cases G:t.length=3
   ·obtain⟨b,c,d,rfl⟩:=QAj G;have e1:=Qjh (hb b (by simp));have I:=QhP (lo:=1) (hi:=9) (hb c (by simp));have J:=QhP (lo:=1) (hi:=999999) (hb d (by simp));simp[gd,gcall,bd,e1,I,J,ckA]
    by_cases O:0<=ZP b
    ·simp[O];cases isN c 1 9<;>simp
    ·simp[O]
   ·have e:=QvA (a:=a) G;rw[m3 _ G];simp only[show(4:Int)=((3+1:Nat):Int) from rfl,e,gd,gcall,bd];simp
  rw[Y0 c6,Y0 c6]
  by_cases c7:a=QiM
  ·rw[Y2 c7,Y2 c7]
   by_cases G:t.length=4
   ·obtain⟨b,c,d,e,rfl⟩:=QyN G;have e1:=Qc7 (hb b (by simp));have I:=Qjh (hb c (by simp));have J:=QhP (lo:=1) (hi:=65535) (hb d (by simp));have U:=QhP (lo:=1) (hi:=65535) (hb e (by simp));simp[gd,gcall,bd,e1,I,J,U,ckA,ckP]
    cases Qew b<;>simp
    by_cases O:0<=ZP c
    ·simp[O];cases isN d 1 65535<;>simp
    ·simp[O]
   ·have e:=QvA (a:=a) G;rw[m4 _ G];simp only[show(5:Int)=((4+1:Nat):Int) from rfl,e,gd,gcall,bd];simp
  rw[Y0 c7,Y0 c7]
  by_cases c8:a=wDoor
  ·rw[Y2 c8,Y2 c8]
   by_cases G:t.length=4
   ·obtain⟨b,c,d,e,rfl⟩:=QyN G;have e1:=QhP (lo:=1) (hi:=7) (hb b (by simp));have I:=QhP (lo:=1) (hi:=65535) (hb c (by simp));have J:=Qjh (hb d (by simp));have U:=QhP (lo:=1) (hi:=65535) (hb e (by simp));simp[gd,gcall,bd,e1,I,J,U,ckA]
    cases isN b 1 7<;>simp
    cases isN c 1 65535<;>simp
    by_cases O:0<=ZP d
    ·simp[O]
    ·simp[O]
   ·have e:=QvA (a:=a) G;rw[m4 _ G];simp only[show(5:Int)=((4+1:Nat):Int) from rfl,e,gd,gcall,bd];simp
  rw[Y0 c8,Y0 c8]
def ckF:Fnv->Bs->Bool
 | .k f,w=>if f=82 then Qc6 w else if f=220 then QiA w else if f=221 then ckP w else ckA w
 | .r _ lo hi,w=>isN w lo hi
 | .w _ ws,w=>ws.any (· ==tS w)
def okF:Fnv->Prop
 | .k f=>f=82∨f=220∨f=221∨f=223
 | .r f _ _=>f=248
 | .w f ws=>f=249∧ws.length<=100
theorem Qzk {c:Fnv} {w:Bs} (hc:okF c) (h:w.length<=1000000):Qho c (tS w)=some (ckF c w):=by
 unfold Qho ckF
 cases c with
 |k f=>
  rcases hc with rfl|rfl|rfl|rfl
  ·exact QtQ h
  ·exact QtT h
  ·exact Qqo h
  ·exact QtY h
 |r f lo hi=>
  have hc:f=248:=hc;subst hc;exact Qz4 h
 |w f ws=>
  have⟨G,hl⟩:=hc;subst G;show QcE (tS w) ws=_;unfold QcE;rw[QmY (by omega),Qa]
def QiB (f:form) (ws:List Bs):Bool:=decide (ws.length=f.checks.length+1)&&QaM f.checks.length fun i=>ckF (f.checks.getD i default) (ws.getD (i+1) [])
theorem ZM {xs:List Bs} {i:Nat} (h:i<xs.length):(xs.map tS).getD i default=tS (xs.getD i []):=by
 simp[Y1,h]
theorem QaC {xs:List Bs} {i:Nat} (h:i<xs.length):xs.getD i []∈xs:=by
 rw[Y1,Y7 h];exact Xk h
theorem QxN {f:form} {ws:List Bs} (J:∀c∈f.checks,okF c) (hl:f.checks.length<=100) (h:∀w∈ws,w.length<=1000000):Qb9 f (ws.map tS)=some (QiB f ws):=by
 unfold Qb9 QiB;rw[Qm (by omega) (by omega)]
 by_cases I:ws.length=f.checks.length+1
 ·rw[Y0 (by simp;omega),Yd I,Yq];rw[Qhi f.checks.length (fun i=>ckF (f.checks.getD i default) (ws.getD (i+1) [])) (.inl ()) (.inr ()) (fun i hi _=>?_) (fun _=>by rw[Y0 (by simp)]),Qa]
  ·cases QaM f.checks.length fun i=>ckF (f.checks.getD i default) (ws.getD (i+1) [])<;>rfl
  ·have G:i+1<ws.length:=by omega
   rw[Y2 (by simp;omega),Qd (by omega),Qj hi (by omega),Qd (by simp;omega),Y3,Y3,ZM G,Qzk (J _ (Zb hi)) (h _ (QaC G)),Qa]
   cases ckF (f.checks.getD i default) (ws.getD (i+1) [])<;>rfl
 ·rw[Y2 (by simp;omega),YP I,YM]
def fHost:form:=⟨tS QfJ,1,[.k 82]⟩
def fUser:form:=⟨tS wUser,2,[.k 82,.k 220]⟩
def Qqq:form:=⟨tS Q6,2,[.r 248 0 7,.k 221]⟩
def QiC:form:=⟨tS Q6,2,[.r 248 0 7,.k 221,.w 249 [tS wIn],.k 82]⟩
def fRule:form:=⟨tS QaF,3,[.k 82,.r 248 0 99,.w 249 [tS QhR,tS Qqp],.k 221,.k 221,.r 248 0 7]⟩
def fRoute:form:=⟨tS QaG,3,[.k 221,.k 223]⟩
def fPeer:form:=⟨tS QbK,2,[.k 223,.r 248 1 9,.r 248 1 999999]⟩
def fNat:form:=⟨tS QiM,1,[.k 221,.k 223,.r 248 1 65535,.r 248 1 65535]⟩
def fDoor:form:=⟨tS wDoor,3,[.r 248 1 7,.r 248 1 65535,.k 223,.r 248 1 65535]⟩
def allF:List form:=[fHost,fUser,Qqq,QiC,fRule,fRoute,fPeer,fNat,fDoor]
theorem QxO:∀f∈allF,(∀c∈f.checks,okF c)∧f.checks.length<=100:=by
 intro f G;simp only[allF,Yh,List.mem_nil_iff,or_false] at G;rcases G with rfl|rfl|rfl|rfl|rfl|rfl|rfl|rfl|rfl<;>refine⟨?_,by decide⟩<;>intro c hc<;>
  simp only[fHost,fUser,Qqq,QiC,fRule,fRoute,fPeer,fNat,fDoor,Yh,List.mem_nil_iff,or_false] at hc<;>
  rcases hc with rfl|rfl|rfl|rfl|rfl|rfl<;>simp[okF]
theorem QvB (s:Bt):Qdm s=some (allF.filter fun f=>f.word==s):=by
 have e:Qdm s=QyK (fun f=>Qaf f s) allF:=rfl;rw[e,QtI (pm:=fun f=>Qaf f s) (p:=fun f=>!(f.word==s)) (fun x _=>rfl) (by decide)];simp
def QnR:List Bs->Option form
 |[]=>none
 |a::t=>(allF.filter fun f=>f.word==tS a).find? fun f=>QiB f (a::t)
theorem Qjj {α:Type} [Inhabited α] {p:α->Bool} {xs:List α}:xs.find? p=(ZQ (fun i=>p (xs.getD i default)) xs.length).map fun i=>xs.getD i default:=by
 cases h:ZQ (fun i=>p (xs.getD i default)) xs.length with
 |none=>
  have:=Qcg h;rw[Option.map_none,List.find?_eq_none];intro x G;have⟨i,hi,e⟩:=Xn G;have:=this i hi;rw[Y1,Y7 hi] at this;rw[<-e];simpa using this
 |some i=>
  have⟨h1,h2,h3⟩:=Qcf h;rw[Xq,List.find?_eq_some_iff_getElem];refine⟨h2,i,h1,?_,fun j hj=>?_⟩
  ·rw[Y1,Y7 h1];rfl
  ·have:=h3 j hj;rw[Y1,Y7 (by omega)] at this;simpa using this
theorem Qpb {ws:List Bs} (h:∀w∈ws,w.length<=1000000):QcF (ws.map tS)=some (match QnR ws with|some f=>(f,true)|none=>(⟨ByteArray.empty,0,[]⟩,false)):=by
 unfold QcF
 cases ws with
 |nil=>rfl
 |cons a t=>
  have O:((a::t).map tS).getD 0 default=tS a:=rfl;have hl:(((((a::t).map tS).length:Nat):Int)==0)=false:=by rw[beq_eq_false_iff_ne];simp only[Ya,Ye];omega
  rw[hl,Y0 (by decide),Qd (by simp),O,QvB,Qa];dsimp only[QnR];have I:∀f∈allF.filter (fun f=>f.word==tS a),f∈allF:=fun f J=>(YB.1 J).1;have G:(allF.filter (fun f=>f.word==tS a)).length<=9:=Xe _ _;generalize allF.filter (fun f=>f.word==tS a)=xs at I G;rw[Qjj];rw[Jp xs.length (fun i=>QiB (xs.getD i default) (a::t)) (fun i=>.inl ((xs.getD i default).word,(xs.getD i default).key,(xs.getD i default).checks)) (.inr ()) (fun i hi=>?_) (by rw[Y0 (by simp)]),Qa]
  ·cases ZQ (fun i=>QiB (xs.getD i default) (a::t)) xs.length<;>rfl
  ·have ho:=QxO _ (I _ (Zb hi));rw[Y2 (by simp;omega),Qd (by omega),Y3,QxN ho.1 ho.2 h,Qa,Qj hi (by omega)]
   cases QiB (xs.getD i default) (a::t)<;>rfl
theorem Qz6 (a:Bs):(allF.filter fun f=>f.word==tS a)=if a=QfJ then [fHost] else if a=wUser then [fUser] else if a=Q6 then [Qqq,QiC] else if a=QaF then [fRule] else if a=QaG then [fRoute] else if a=QbK then [fPeer] else if a=QiM then [fNat] else if a=wDoor then [fDoor] else []:=by
 have e:∀c:Bs,(tS c==tS a)=decide (a=c):=fun c=>by
  rw[Qz5];rw[Xl];exact eq_comm
 simp only[allF,fHost,fUser,Qqq,QiC,fRule,fRoute,fPeer,fNat,fDoor,YW,List.filter_nil,e,Ym]
 by_cases O:a=QfJ
 ·subst O;rfl
 rw[Y0 O,Y0 O]
 by_cases U:a=wUser
 ·subst U;rfl
 rw[Y0 U,Y0 U]
 by_cases G:a=Q6
 ·subst G;rfl
 rw[Y0 G,Y0 G,Y0 G]
 by_cases c4:a=QaF
 ·subst c4;rfl
 rw[Y0 c4,Y0 c4]
 by_cases I:a=QaG
 ·subst I;rfl
 rw[Y0 I,Y0 I]
 by_cases J:a=QbK
 ·subst J;rfl
 rw[Y0 J,Y0 J]
 by_cases Y:a=QiM
 ·subst Y;rfl
 rw[Y0 Y,Y0 Y]
theorem Qhj {f:form} {a:Bs} {t:List Bs} (h:t.length≠f.checks.length):QiB f (a::t)=false:=by
 unfold QiB;rw[YP (by simp only[Ye];omega),YM]
theorem QiD {f:form} {p:form->Bool} {b:Bool} (h:p f=b):([f].find? p).map (·.key)=bif b then some f.key else none:=by
 subst h;simp only[List.find?_cons,List.find?_nil]
 cases p f<;>rfl
theorem inB (d:Bs):ckF (.w 249 [tS wIn]) d=(d==wIn):=by
 show(tS wIn==tS d||false)=_;rw[Ji,Y0m,YE];simp only[X4];exact eq_comm
theorem inV (d:Bs):ckF (.w 249 [tS QhR,tS Qqp]) d=ckV d:=by
 show(tS QhR==tS d||(tS Qqp==tS d||false))=_;rw[Ji,Ji,Y0m,YE];unfold ckV;simp only[X4,YJ]
 constructor<;>rintro(h|h)<;>simp[h]
theorem Qpc (ws:List Bs):(QnR ws).map (·.key)=bif QgG ws then some ((keyN (ws.getD 0 []):Nat):Int) else none:=by
 cases ws with
 |nil=>rfl
 |cons a t=>
  dsimp only[QnR,QgG];rw[Qz6];have hk:(a::t).getD 0 []=a:=rfl;rw[hk]
  by_cases Y:a=QfJ
  ·rw[Y2 Y,Y2 Y];have I:keyN a=fHost.key.toNat:=by rw[Y];rfl
   by_cases G:t.length=1
   ·obtain⟨b,rfl⟩:=QAi G;rw[I];refine QiD ?_;simp[QiB,fHost,QaM,X2,ckF,inV,<-inV,XF]
   ·rw[m1 _ G];exact QiD (p:=fun f=>QiB f (a::t)) (Qhj (f:=fHost) G)
  rw[Y0 Y,Y0 Y]
  by_cases U:a=wUser
  ·rw[Y2 U,Y2 U];have I:keyN a=fUser.key.toNat:=by rw[U];rfl
   by_cases G:t.length=2
   ·obtain⟨b,c,rfl⟩:=QyM G;rw[I];refine QiD ?_;simp[QiB,fUser,QaM,X2,ckF,inV,<-inV,XF]
   ·rw[m2 _ G];exact QiD (p:=fun f=>QiB f (a::t)) (Qhj (f:=fUser) G)
  rw[Y0 U,Y0 U]
  by_cases c3:a=Q6
  ·rw[Y2 c3,Y2 c3];have I:keyN a=2:=by rw[c3];rfl
   rw[I]
   by_cases G:t.length=2
   ·obtain⟨b,c,rfl⟩:=QyM G;have e1:QiB Qqq [a,b,c]=(isN b 0 7&&ckP c):=by simp[QiB,Qqq,QaM,X2,ckF]
    have e2:QiB QiC [a,b,c]=false:=Qhj (by simp[QiC]);simp only[List.find?_cons,List.find?_nil,e1,e2]
    cases isN b 0 7&&ckP c<;>rfl
   ·have e1:QiB Qqq (a::t)=false:=Qhj G
    by_cases J:t.length=4
    ·obtain⟨b,c,d,e,rfl⟩:=QyN J;have e2:QiB QiC [a,b,c,d,e]=(isN b 0 7&&ckP c&&d==wIn&&Qc6 e):=by
      rw[<-inB d];simp[QiB,QiC,QaM,X2,ckF,XF]
     simp only[List.find?_cons,List.find?_nil,e1,e2]
     cases isN b 0 7&&ckP c&&d==wIn&&Qc6 e<;>rfl
    ·have e2:QiB QiC (a::t)=false:=Qhj J;simp only[List.find?_cons,List.find?_nil,e1,e2,m24 _ _ G J]
     rfl
  rw[Y0 c3,Y0 c3]
  by_cases c4:a=QaF
  ·rw[Y2 c4,Y2 c4];have I:keyN a=fRule.key.toNat:=by rw[c4];rfl
   by_cases G:t.length=6
   ·obtain⟨b,c,d,e,f,g,rfl⟩:=QAk G;rw[I];refine QiD ?_;simp[QiB,fRule,QaM,X2,ckF,inV,<-inV,XF]
   ·rw[m6 _ G];exact QiD (p:=fun f=>QiB f (a::t)) (Qhj (f:=fRule) G)
  rw[Y0 c4,Y0 c4]
  by_cases O:a=QaG
  ·rw[Y2 O,Y2 O];have I:keyN a=fRoute.key.toNat:=by rw[O];rfl
   by_cases G:t.length=2
   ·obtain⟨b,c,rfl⟩:=QyM G;rw[I];refine QiD ?_;simp[QiB,fRoute,QaM,X2,ckF,inV,<-inV,XF]
   ·rw[m2 _ G];exact QiD (p:=fun f=>QiB f (a::t)) (Qhj (f:=fRoute) G)
  rw[Y0 O,Y0 O]
  by_cases c6:a=QbK
  ·rw[Y2 c6,Y2 c6];have I:keyN a=fPeer.key.toNat:=by rw[c6];rfl
   by_cases G:t.length=3
   ·obtain⟨b,c,d,rfl⟩:=QAj G;rw[I];refine QiD ?_;simp[QiB,fPeer,QaM,X2,ckF,inV,<-inV,XF]
   ·rw[m3 _ G];exact QiD (p:=fun f=>QiB f (a::t)) (Qhj (f:=fPeer) G)
  rw[Y0 c6,Y0 c6]
  by_cases c7:a=QiM
  ·rw[Y2 c7,Y2 c7];have I:keyN a=fNat.key.toNat:=by rw[c7];rfl
   by_cases G:t.length=4
   ·obtain⟨b,c,d,e,rfl⟩:=QyN G;rw[I];refine QiD ?_;simp[QiB,fNat,QaM,X2,ckF,inV,<-inV,XF]
   ·rw[m4 _ G];exact QiD (p:=fun f=>QiB f (a::t)) (Qhj (f:=fNat) G)
  rw[Y0 c7,Y0 c7]
  by_cases c8:a=wDoor
  ·rw[Y2 c8,Y2 c8];have I:keyN a=fDoor.key.toNat:=by rw[c8];rfl
   by_cases G:t.length=4
   ·obtain⟨b,c,d,e,rfl⟩:=QyN G;rw[I];refine QiD ?_;simp[QiB,fDoor,QaM,X2,ckF,inV,<-inV,XF]
   ·rw[m4 _ G];exact QiD (p:=fun f=>QiB f (a::t)) (Qhj (f:=fDoor) G)
  rw[Y0 c8,Y0 c8]
  rfl
theorem QmZ {ws:List Bs} {f:form} (h:QnR ws=some f):QgG ws=true∧f.key=((keyN (ws.getD 0 []):Nat):Int):=by
 have:=Qpc ws;rw[h,Xq] at this
 cases hb:QgG ws
 ·rw[hb] at this;cases this
 ·rw[hb,XO,Y9] at this;exact⟨rfl,this⟩
theorem Qm0 {ws:List Bs} (h:QnR ws=none):QgG ws=false:=by
 have:=Qpc ws;rw[h,Option.map_none] at this
 cases hb:QgG ws
 ·rfl
 ·rw[hb] at this;cases this
def Qb0:List Bs->Bs
 |[]=>[]
 |a::t=>a++t.flatMap fun w=>32::w
theorem Qhk (a b:Bs):tS a++tS b=tS (a++b):=by
 apply Qra
 rw[Qf3];show(ByteArray.append (tS a) (tS b)).data.toList=_;simp[tS]
theorem QxP (ws:List Bs):QjW (ws.map tS) (tS [32])=tS (Qb0 ws):=by
 have e1:(ws.map tS).map (fun x=>x.data.toList)=ws:=by
  rw[Xx];have:((fun x:Bt=>x.data.toList)∘tS)=id:=funext fun x=>Qf3 x;rw[this,List.map_id]
 have G:(tS [32]).data.toList=[32]:=rfl;unfold QjW;rw[e1,G];show tS _=_
 cases ws with
 |nil=>rfl
 |cons a t=>
  rw[Lib.join_cons];unfold Lib.joinTail Qb0
  congr 2
def QhS (ws:List Bs) (i:Nat):Bs:=if i=0 then Qb0 ws else(ws.drop i).flatMap fun w=>32::w
theorem QxQ {ws:List Bs} (h:(Qb0 ws).length<=1000000000) (hw:ws.length<=1000000):QbN (ws.map tS) (tS [32])=some (tS (Qb0 ws)):=by
 unfold QbN;have key:∀(k i:Nat) (s:Bs),i+k=ws.length->(i=0->s=[])->(s++QhS ws i).length<=1000000000->lp (σ:=Bt×Int) (β:=(Bt)) (fun s1=>
(if(decide (s1.2<(((ws.map tS).length:Nat):Int)))=true then
(if(decide (s1.2>0))=true then
 gd (s1.1.size+(tS [32]).size<=9223372036854775807)<|
 gd ((0:Int)<=s1.2∧s1.2<(((ws.map tS).length:Nat):Int))<|
 gd ((s1.1++(tS [32])).size+((ws.map tS).getD s1.2.toNat default).size<=9223372036854775807)<|
 some (.inl (((s1.1++(tS [32]))++((ws.map tS).getD s1.2.toNat default)),IntKind.i64.wrap (s1.2+1)))
else
 gd ((0:Int)<=s1.2∧s1.2<(((ws.map tS).length:Nat):Int))<|
 gd (s1.1.size+((ws.map tS).getD s1.2.toNat default).size<=9223372036854775807)<|
 some (.inl ((s1.1++((ws.map tS).getD s1.2.toNat default)),IntKind.i64.wrap (s1.2+1))))
else
 some (.inr s1.1))) (tS s,(i:Int))=some (tS (s++QhS ws i)):=by
  intro k
  induction k with
  |zero=>
   intro i s hi h0 hl;have hi:i=ws.length:=by omega
   subst hi;refine Z8 ?_;dsimp only;rw[Y0 (by simp)];have:QhS ws ws.length=[]:=by
    unfold QhS;split
    ·rename_i h;rw[Yv h];rfl
    ·simp
   rw[this,Xr]
  |succ k ih=>
   intro i s hi h0 hl;have G:i<ws.length:=by omega
   have Y:ws.drop i=ws.getD i []::ws.drop (i+1):=by
    rw[Y08 G,Y1,Y7 G];rfl
   have O:QhS ws (i+1)=(ws.drop (i+1)).flatMap fun w=>32::w:=Y0 (by omega)
   by_cases hz:i=0
   ·subst hz;have hs:=h0 rfl;subst hs;have U:QhS ws 0=ws.getD 0 []++QhS ws 1:=by
     rw[O];unfold QhS;rw[Y2 rfl];rw[Y04] at Y
     conv=>lhs;rw[Y]
     rfl
    have e:([]:Bs)++QhS ws 0=ws.getD 0 []++QhS ws (0+1):=U;have J:=hl;rw[e] at J|-;have I:=J;rw[Yk] at I;rw[<-ih 1 (ws.getD 0 []) (by omega) (by omega) J];refine J2 ?_;dsimp only;rw[Y2 (by simp;omega),Y0 (by simp),Qd (by simp;omega),Y3,ZM G,Qd (by simp only[QaT,Yx];omega),Qhk,Qj G (by omega)]
    rfl
   ·have U:QhS ws i=32::ws.getD i []++QhS ws (i+1):=by
     rw[O];unfold QhS;rw[Y0 hz,Y]
     rfl
    have e:s++QhS ws i=(s++[32]++ws.getD i [])++QhS ws (i+1):=by rw[U];simp
    rw[e] at hl|-;have I:=hl;simp only[Yk,Ye,Yx] at I;rw[<-ih (i+1) (s++[32]++ws.getD i []) (by omega) (by omega) hl];refine J2 ?_;dsimp only;rw[Y2 (by simp;omega),Y2 (by simp;omega),Qd (by simp;omega),Qd (by simp;omega),Y3,ZM G,Qhk,Qd (by simp only[QaT,Yk,Ye,Yx];omega),Qhk,Qj G (by omega)]
 have k0:=key ws.length 0 [] (by omega) (fun _=>rfl) (by rw[YA];exact h);refine(congrArg (fun m=>bd m _) k0).trans ?_;rw[Qa]
 rfl
theorem QnS {c:UInt8}:∀ {l w:Bs},w∈Qcm c l->c∉w
 |[],w,h=>by simp[Qcm] at h;simp[h]
 |b::r,w,h=>by
  unfold Qcm at h;split at h
  ·rcases Yh.1 h with rfl|h
   ·simp
   ·exact QnS h
  ·rename_i hb;split at h
   ·simp at h;subst h;simp[YU hb]
   ·rename_i x xs e;rcases Yh.1 h with rfl|h
    ·have:c∉x:=QnS (l:=r) (by rw[e];simp);simp[YU hb,this]
    ·exact QnS (l:=r) (by rw[e];simp[h])
structure WordsOk (ws:List Bs):Prop where
 few:ws.length≤8
 short:∀w∈ws,w.length≤24
 no:∀w∈ws,(32:UInt8)∉w
 ne:∀w∈ws,w≠ []
theorem QcU {l:Bs} {ws:List Bs} (h:Qe8 l=some ws):WordsOk ws:=by
 unfold Qe8 at h;split at h
 ·rename_i hc;simp only[Y9] at h;subst h;have I:=hc.2;simp only[Qzj,Y4,Ym,Yb] at I;refine⟨I.1,I.2,fun w G=>?_,fun w G=>?_⟩
  ·exact QnS (YB.1 G).1
  ·have:=(YB.1 G).2;intro e;subst e;simp at this
 ·cases h
theorem WordsOk.long {ws:List Bs} (h:WordsOk ws):∀w∈ws,w.length<=1000000:=fun w G=>by have:=h.short w G;omega
theorem Qrm:∀ {t:List Bs},(∀w∈t,w.length<=24)->(t.flatMap fun w=>32::w).length<=25*t.length
 |[],_=>by simp
 |b::r,h=>by
  have:=Qrm (t:=r) fun w G=>h w (by simp[G]);have:=h b (by simp);rw[List.flatMap_cons,Yk,Ye,Ye];omega
theorem WordsOk.joins {ws:List Bs} (h:WordsOk ws):(Qb0 ws).length<=200:=by
 cases ws with
 |nil=>simp[Qb0]
 |cons a t=>
  have h1:=Qrm (t:=t) fun w G=>h.short w (by simp[G]);have h2:=h.short a (by simp);have h3:=h.few;show(a++t.flatMap fun w=>32::w).length<=200;rw[Yk];simp at h3;omega
theorem Qjk:∀ {ws:List Bs},ws≠ []->(∀w∈ws,(32:UInt8)∉w)->Qcm 32 (Qb0 ws)=ws
 |[],h,_=>absurd rfl h
 |[a],_,h=>by
  have:Qb0 [a]=a:=by simp[Qb0]
  rw[this,Qet (h a (by simp))]
 |a::b::t,_,h=>by
  have e:Qb0 (a::b::t)=a++32::Qb0 (b::t):=by simp[Qb0]
  rw[e,QfG (h a (by simp)),Qjk (by simp) fun w G=>h w (by simp[G])]
def QhT (l:Bs):Option Bs:=match Qe8 l with
 |some ws=>bif QgG ws then some (Qb0 ws) else none
 |none=>none
def QaD (l:Bs):Bool:=QhT l==some l
def wsL (l:Bs):List Bs:=(Qe8 l).getD []
def Qc8 (l:Bs):Bs:=bif QaD l then Qb0 ((wsL l).take (keyN ((wsL l).getD 0 []))) else []
theorem QtZ {l:Bs} (h:l.length<=1000000):JU (tS l)=some (match QhT l with|some x=>(tS x,true)|none=>(tS [],false)):=by
 unfold JU QhT;rw[Qkq (by omega)]
 cases hc:Qe8 l with
 |none=>
  dsimp only;rw[Qa];dsimp only;rw[QO (by decide),Qa,Y2 (by rfl)]
  rfl
 |some ws=>
  have W:=QcU hc;dsimp only;rw[Qa];dsimp only;rw[Qe (by rfl),QxM W.long,Qa]
  cases QgG ws
  ·rfl
  ·have:=W.joins;rw[Y0 (by decide),show QbN (ws.map tS) ⟨#[32]⟩=_ from QxQ (by omega) (by have:=W.few;omega),Qa]
   rfl
theorem Qt0 {ws:List Bs} (h:(Qb0 ws).length<=1000000) (hw:ws.length<=1000000):Qba (ws.map tS) ⟨#[32]⟩=some (tS (Qb0 ws)):=by
 unfold Qba;rw[show QjW (ws.map tS) ⟨#[32]⟩=_ from QxP ws,Qd (by simp;omega)]
theorem QxR {l:Bs} (h:l.length<=1000000):QcG (tS l)=some (match QhT l with|some x=>(tS x,true)|none=>(tS [],false)):=by
 unfold QcG QhT;rw[Qvx h]
 cases hc:Qe8 l with
 |none=>
  dsimp only;rw[Qa,Y2 (by rfl)]
  rfl
 |some ws=>
  have W:=QcU hc;have hj:=W.joins;have hf:=W.few;dsimp only;rw[Qa,Y0 (by simp),Qpb W.long,Qa]
  cases G:QnR ws with
  |none=>rw[Qm0 G];rfl
  |some f=>
   rw[(QmZ G).1];dsimp only;rw[Y0 (by decide),Qt0 (by omega) (by omega),Qa]
   rfl
theorem QxS (l:Bs) (o:Option Bs):((match o with|some x=>(tS x,true)|none=>(tS [],false)):Bt×Bool).2=true∧(((match o with|some x=>(tS x,true)|none=>(tS [],false)):Bt×Bool).1==tS l)=true↔(o==some l)=true:=by
 cases o with
 |none=>simp
 |some x=>simp[Ji]
theorem QwE (l:Bs) (o:Option Bs):(((match o with|some x=>(tS x,true)|none=>(tS [],false)):Bt×Bool).2&&(((match o with|some x=>(tS x,true)|none=>(tS [],false)):Bt×Bool).1==tS l))=(o==some l):=by
 rw[YE,Y4];exact QxS l o
theorem QxT {l:Bs} (h:l.length<=1000000):Qdc (tS l)=some (QaD l):=by
 unfold Qdc;rw[QtZ h,Qa,QwE]
 rfl
theorem Qt1 {l:Bs} (h:l.length<=1000000):QcH (tS l)=some (QaD l):=by
 unfold QcH;rw[QxR h,Qa,QwE]
 rfl
theorem Qb1 {l:Bs} (h:QaD l=true):∃ws,Qe8 l=some ws∧QgG ws=true∧Qb0 ws=l∧wsL l=ws:=by
 unfold QaD QhT at h
 cases hc:Qe8 l with
 |none=>rw[hc] at h;simp at h
 |some ws=>
  rw[hc] at h;dsimp only at h
  cases G:QgG ws
  ·rw[G] at h;simp at h
  ·rw[G] at h;simp at h;exact⟨ws,rfl,G,h,by simp[wsL,hc]⟩
inductive LineF:List Bs→Prop
 |host {b:Bs} (h1:Qc6 b=true):LineF [QfJ,b]
 |user {b c:Bs} (h1:Qc6 b=true) (h2:QiA c=true):LineF [wUser,b,c]
 |port {b c:Bs} (h1:isN b 0 7=true) (h2:ckP c=true):LineF [Q6,b,c]
 |port2 {b c e:Bs} (h1:isN b 0 7=true) (h2:ckP c=true) (h3:Qc6 e=true):LineF [Q6,b,c,wIn,e]
 |rule {b c d e f g:Bs} (h1:Qc6 b=true) (h2:isN c 0 99=true) (h3:ckV d=true) (h4:ckP e=true) (h5:ckP f=true) (h6:isN g 0 7=true):LineF [QaF,b,c,d,e,f,g]
 |route {b c:Bs} (h1:ckP b=true) (h2:ckA c=true):LineF [QaG,b,c]
 |peer {b c d:Bs} (h1:ckA b=true) (h2:isN c 1 9=true) (h3:isN d 1 999999=true):LineF [QbK,b,c,d]
 |nat {b c d e:Bs} (h1:ckP b=true) (h2:ckA c=true) (h3:isN d 1 65535=true) (h4:isN e 1 65535=true):LineF [QiM,b,c,d,e]
 |door {b c d e:Bs} (h1:isN b 1 7=true) (h2:isN c 1 65535=true) (h3:ckA d=true) (h4:isN e 1 65535=true):LineF [wDoor,b,c,d,e]
theorem Qso {ws:List Bs} (h:QgG ws=true):LineF ws:=by
 cases ws with
 |nil=>cases h
 |cons a t=>
  dsimp only[QgG] at h
  by_cases J:a=QfJ
  ·rw[Y2 J] at h;subst J;split at h
   ·exact .host h
   ·cases h
  rw[Y0 J] at h
  by_cases O:a=wUser
  ·rw[Y2 O] at h;subst O;split at h
   ·simp only[Y4] at h;exact .user h.1 h.2
   ·cases h
  rw[Y0 O] at h
  by_cases Y:a=Q6
  ·rw[Y2 Y] at h;subst Y;split at h
   ·simp only[Y4] at h;exact .port h.1 h.2
   ·simp only[Y4,X4] at h;have⟨⟨⟨h1,h2⟩,h3⟩,h4⟩:=h;subst h3;exact .port2 h1 h2 h4
   ·cases h
  rw[Y0 Y] at h
  by_cases c4:a=QaF
  ·rw[Y2 c4] at h;subst c4;split at h
   ·simp only[Y4] at h;obtain⟨⟨⟨⟨⟨h1,h2⟩,h3⟩,h4⟩,h5⟩,h6⟩:=h;exact .rule h1 h2 h3 h4 h5 h6
   ·cases h
  rw[Y0 c4] at h
  by_cases G:a=QaG
  ·rw[Y2 G] at h;subst G;split at h
   ·simp only[Y4] at h;exact .route h.1 h.2
   ·cases h
  rw[Y0 G] at h
  by_cases I:a=QbK
  ·rw[Y2 I] at h;subst I;split at h
   ·simp only[Y4] at h;exact .peer h.1.1 h.1.2 h.2
   ·cases h
  rw[Y0 I] at h
  by_cases U:a=QiM
  ·rw[Y2 U] at h;subst U;split at h
   ·simp only[Y4] at h;exact .nat h.1.1.1 h.1.1.2 h.1.2 h.2
   ·cases h
  rw[Y0 U] at h
  by_cases c8:a=wDoor
  ·rw[Y2 c8] at h;subst c8;split at h
   ·simp only[Y4] at h;exact .door h.1.1.1 h.1.1.2 h.1.2 h.2
   ·cases h
  rw[Y0 c8] at h;cases h
theorem QnT {ws:List Bs} (h:LineF ws):keyN (ws.getD 0 [])<=ws.length∧1<=keyN (ws.getD 0 []):=by
 cases h<;>(simp only[YT,Ye,Yx];decide)
theorem QnU {ws:List Bs} (h:QgG ws=true):ws≠ []:=by
 intro e;subst e;cases h
theorem QvC {ws:List Bs} (h:QgG ws=true):∃f,QnR ws=some f:=by
 cases G:QnR ws with
 |none=>rw[Qm0 G] at h;cases h
 |some f=>exact⟨f,rfl⟩
theorem QnV (ws:List Bs) (k:Nat):(ws.map tS).take k=(ws.take k).map tS:=List.map_take.symm
theorem Qm1 {ws:List Bs} (h:WordsOk ws) (k:Nat):(Qb0 (ws.take k)).length<=200:=by
 refine WordsOk.joins ⟨?_,fun w G=>h.short w (Xg G),fun w G=>h.no w (Xg G),fun w G=>h.ne w (Xg G)⟩;have:=h.few;rw[Yn];omega
theorem Qm2 {l:Bs} (h:QaD l=true):Qcm 32 l=wsL l:=by
 have⟨ws,hc,hb,hj,G⟩:=Qb1 h;rw[G,<-hj];exact Qjk (QnU hb) (QcU hc).no
theorem Qkt {l:Bs} (h:QaD l=true):l.length<=200:=by
 have⟨ws,hc,hb,hj,hw⟩:=Qb1 h;rw[<-hj];exact(QcU hc).joins
theorem Qzl {l:Bs} (h:l.length<=1000000):Qbb (tS l)=some (tS (Qc8 l)):=by
 unfold Qbb Qc8;rw[Qt1 h,Qa]
 cases hk:QaD l
 ·rfl
 have⟨ws,hc,hb,hj,G⟩:=Qb1 hk;have⟨f,I⟩:=QvC hb;have W:=QcU hc;have hkn:=QnT (Qso hb);have hs:Qcm 32 l=ws:=by rw[Qm2 hk,G]
 rw[Y0 (by decide),ZJ,Qd ⟨by rw[QaT];omega,by decide⟩,Qa,show QlL (tS l) ⟨#[32]⟩=_ from QnM 32 l,hs,Qpb W.long,Qa,I];dsimp only;rw[(QmZ I).2,Qd (by rw[Ya];omega),Y3,QnV,Qt0 (by have:=Qm1 W (keyN (ws.getD 0 []));omega) (by have:=W.few;rw[Yn];omega),Qa,G]
 rfl
theorem Qt2 {l:Bs} (h:l.length<=1000000):ZH (tS l)=some (tS (Qc8 l)):=by
 unfold ZH Qc8;rw[QxT h,Qa]
 cases hk:QaD l
 ·rfl
 have⟨ws,hc,hb,hj,hw⟩:=Qb1 hk;have W:=QcU hc;have F:=Qso hb;rw[Y0 (by decide),Qkq (by omega),hc,Qa,hw];dsimp only;have a1:(⟨#[32]⟩:Bt)=tS [32]:=rfl;have J:∀i,i<ws.length->(ws.getD i []).length<=24:=fun i hi=>W.short _ (QaC hi);have G:0<ws.length:=by cases F<;>simp
 generalize a2:((ws.map tS).length:Nat)=n;have hn:n=ws.length:=by rw[<-a2,Ya]
 have g0:(ws.map tS).getD 0 default=tS (ws.getD 0 []):=ZM G;rw[g0];generalize ha:ws.getD 0 []=a;rw[show(⟨#[104,111,115,116]⟩:Bt)=tS QfJ from rfl,show(⟨#[117,115,101,114]⟩:Bt)=tS wUser from rfl,show(⟨#[112,111,114,116]⟩:Bt)=tS Q6 from rfl,show(⟨#[114,117,108,101]⟩:Bt)=tS QaF from rfl,show(⟨#[112,101,101,114]⟩:Bt)=tS QbK from rfl,show(⟨#[110,97,116]⟩:Bt)=tS QiM from rfl,show(⟨#[100,111,111,114]⟩:Bt)=tS wDoor from rfl,a1];simp only[Qz5 a,Ym];have hal:a.length<=24:=by rw[<-ha];exact J 0 G
 have b1:(bd (α:=Bool) (β:=Bt) (if a=QfJ then some (decide (a=QfJ)) else some (decide (a=QiM))))=fun f=>f (decide (a=QfJ)||decide (a=QiM)):=by
  funext f
  by_cases c:a=QfJ<;>simp[c,bd]
 have b2:(bd (α:=Bool) (β:=Bt) (if a=wUser then some (decide (a=wUser)) else if a=Q6 then some (decide (a=Q6)) else some (decide (a=QbK))))=fun f=>f (decide (a=wUser)||decide (a=Q6)||decide (a=QbK)):=by
  funext f
  by_cases c:a=wUser
  ·simp[c,bd]
  ·by_cases c':a=Q6
   ·rw[Y0 c,Y2 c',Qa,Yd c',YP c];rfl
   ·rw[Y0 c,Y0 c',Qa,YP c,YP c'];rfl
 have b3:(bd (α:=Bool) (β:=Bt) (if a=QaF then some (decide (a=QaF)) else some (decide (a=wDoor))))=fun f=>f (decide (a=QaF)||decide (a=wDoor)):=by
  funext f
  by_cases c:a=QaF<;>simp[c,bd]
 rw[Qd (by omega),b1];dsimp only
 by_cases O:a=QfJ∨a=QiM
 ·have e:(decide (a=QfJ)||decide (a=QiM))=true:=by simpa using O
  have U:keyN a=1:=by unfold keyN;rw[Y2 O]
  rw[e,Y2 rfl,Qd (by omega),U];have:Qb0 (ws.take 1)=a:=by
   rw[<-ha]
   cases ws with
   |nil=>simp at G
   |cons x t=>simp[Qb0]
  rw[this]
  rfl
 have e:(decide (a=QfJ)||decide (a=QiM))=false:=by simpa using O
 rw[e,Y0 (by decide),b2];dsimp only
 by_cases I:a=wUser∨a=Q6∨a=QbK
 ·have e:(decide (a=wUser)||decide (a=Q6)||decide (a=QbK))=true:=by
   rcases I with c|c|c<;>simp[c]
  have U:keyN a=2:=by unfold keyN;rw[Y0 O,Y2 I]
  have h2:2<=ws.length:=by rw[<-U,<-ha];exact(QnT F).1
  have g1:(ws.map tS).getD 1 default=tS (ws.getD 1 []):=ZM (by omega);have l1:=J 1 (by omega);rw[e,Y2 rfl,Qd (by omega),Qd (by simp only[QaT,Ye,Yx];omega),Qd (by omega),Qhk,g1,Qd (by simp only[QaT,Yk,Ye,Yx];omega),Qhk,U];have:Qb0 (ws.take 2)=a++[32]++ws.getD 1 []:=by
   rw[<-ha]
   match ws,h2 with
   |x::y::t,_=>simp[Qb0]
  rw[this]
  rfl
 have e:(decide (a=wUser)||decide (a=Q6)||decide (a=QbK))=false:=by
  simp only[not_or] at I;simp[I]
 rw[e,Y0 (by decide),b3];dsimp only;have U:keyN a=3:=by unfold keyN;rw[Y0 O,Y0 I]
 have h3:3<=ws.length:=by rw[<-U,<-ha];exact(QnT F).1
 by_cases Y:a=QaF∨a=wDoor
 ·have e:(decide (a=QaF)||decide (a=wDoor))=true:=by simpa using Y
  have g1:(ws.map tS).getD 1 default=tS (ws.getD 1 []):=ZM (by omega);have g2:(ws.map tS).getD 2 default=tS (ws.getD 2 []):=ZM (by omega);have l1:=J 1 (by omega);have l2:=J 2 (by omega);rw[e,Y2 rfl,Qd (by omega),Qd (by simp only[QaT,Ye,Yx];omega),Qd (by omega),Qhk,g1,Qd (by simp only[QaT,Yk,Ye,Yx];omega),Qhk,Qd (by simp only[QaT,Yk,Ye,Yx];omega),Qd (by omega),Qhk,g2,Qd (by simp only[QaT,Yk,Ye,Yx];omega),Qhk,U];have:Qb0 (ws.take 3)=a++[32]++ws.getD 1 []++[32]++ws.getD 2 []:=by
   rw[<-ha]
   match ws,h3 with
   |x::y::z::t,_=>simp[Qb0]
  rw[this]
  rfl
 have e:(decide (a=QaF)||decide (a=wDoor))=false:=by simpa using Y
 rw[e,Y0 (by decide),U];have:ws.length=3:=by
  simp only[not_or] at O I Y
  cases F with
  |route _ _=>rfl
  |host=>exact absurd ha.symm O.1
  |user=>exact absurd ha.symm I.1
  |port=>exact absurd ha.symm I.2.1
  |port2=>exact absurd ha.symm I.2.1
  |rule=>exact absurd ha.symm Y.1
  |peer=>exact absurd ha.symm I.2.2
  |nat=>exact absurd ha.symm O.2
  |door=>exact absurd ha.symm Y.2
 rw[<-this,YZ,hj]
 rfl
theorem QdH {α β:Type} [Inhabited α] (xs:List α) (f:α->β):(List.range xs.length).map (fun i=>f (xs.getD i default))=xs.map f:=by
 apply Y0d
 intro i
 by_cases h:i<xs.length
 ·simp[h,Y1]
 ·simp[h]
theorem Qpd {β:Type} (g:Nat->β):∀n,(List.range n).foldl (fun a i=>a++[g i]) []=(List.range n).map g
 |0=>rfl
 |n+1=>by rw[X2,List.foldl_append,Qpd g n,List.map_append];rfl
theorem QhU {α β:Type} {step:List α×Int->Option ((List α×Int)⊕β)} (n:Nat) (g:Nat->α) (d:List α->β) (h1:∀(i:Nat) (a:List α),i<n->a.length=i->step (a,(i:Int))=some (.inl (a++[g i],((i+1:Nat):Int)))) (h2:∀a,a.length=n->step (a,(n:Int))=some (.inr (d a))):lp step ([],0)=some (d ((List.range n).map g)):=by
 have:=(Qqe n (fun a i=>a++[g i]) d [] (fun i a=>a.length=i) rfl (fun i a _ h=>by simp[h]) h1 h2).1;rwa[Qpd] at this
theorem Qsp {α β:Type} [Inhabited α] (p:α->Bool) (g:α->β) (xs:List α):(List.range xs.length).foldl (fun a i=>if p (xs.getD i default)=true then a++[g (xs.getD i default)] else a) []=(xs.filter p).map g:=by
 have key:∀n,n<=xs.length->(List.range n).foldl (fun a i=>if p (xs.getD i default)=true then a++[g (xs.getD i default)] else a) []=((xs.take n).filter p).map g:=by
  intro n
  induction n with
  |zero=>intro _;rfl
  |succ n G=>
   intro h;rw[X2,List.foldl_append,G (by omega),Xt];have e:xs[n]? =some (xs.getD n default):=by simp[Y1,show n<xs.length by omega]
   rw[e,Xb,List.map_append];show(if p (xs.getD n default)=true then _ else _)=_++(List.filter p [xs.getD n default]).map g
   by_cases hp:p (xs.getD n default)=true
   ·rw[Y2 hp,YW,Y2 hp];rfl
   ·rw[Y0 hp,YW,Y0 hp];simp
 have:=key xs.length (Yi _);rwa[YZ] at this
theorem Qt3 {α β γ:Type} [Inhabited α] {step:List β×Int->Option ((List β×Int)⊕γ)} (xs:List α) (p:α->Bool) (g:α->β) (d:List β->γ) (h1:∀(i:Nat) (a:List β),i<xs.length->a.length<=i->step (a,(i:Int))=some (.inl (if p (xs.getD i default)=true then a++[g (xs.getD i default)] else a,((i+1:Nat):Int)))) (h2:∀a,a.length<=xs.length->step (a,(xs.length:Int))=some (.inr (d a))):lp step ([],0)=some (d ((xs.filter p).map g)):=by
 have:=(Qqe xs.length (fun a i=>if p (xs.getD i default)=true then a++[g (xs.getD i default)] else a) d [] (fun i a=>a.length<=i) (Yi _) (fun i a _ h=>by split<;>(try simp)<;>omega) h1 h2).1;rwa[Qsp] at this
theorem QxU {β:Type} {step:Int->Option (Int⊕β)} {s0:Int} (n s:Nat) (J:s0=(s:Int)) (p:Nat->Bool) (e d:β) (h1:∀i:Nat,s<=i->i<n->step i=some (if p i=true then .inl ((i+1:Nat):Int) else .inr e)) (h2:∀i:Nat,n<=i->step i=some (.inr d)):
  lp step s0=some (bif QaM n (fun i=>decide (i<s)||p i) then d else e):=by
 subst J;have key:∀k i:Nat,i+k=n->s<=i->(∀j,j<i->(decide (j<s)||p j)=true)->lp step (i:Int)=some (bif QaM n (fun i=>decide (i<s)||p i) then d else e):=by
  intro k
  induction k with
  |zero=>
   intro i hi hs hp;have:i=n:=by omega
   subst this;rw[Z8 (h2 i (Yi _)),Qfj hp];rfl
  |succ k O=>
   intro i hi I hp;have hs:=h1 i I (by omega)
   by_cases G:p i=true
   ·rw[Y2 G] at hs;rw[J2 hs];refine O (i+1) (by omega) (by omega) fun j hj=>?_;rcases YV j i with h|h
    ·exact hp j h
    ·have:j=i:=by omega
     subst this;simp[G]
   ·rw[Y0 G] at hs;rw[Z8 hs,QiQ (i:=i) (by omega) (by simp[G];omega)];rfl
 rcases YV n s with h|h
 ·rw[Z8 (h2 s (by omega)),Qfj fun i hi=>by simp;omega];rfl
 ·exact key (n-s) s (by omega) (Yi _) fun j hj=>by simp[hj]
theorem QxV {ls:List Bs} (h:∀l∈ls,l.length<=1000000) (hn:ls.length<=1000000):Qdd (ls.map tS)=some ((ls.map Qc8).map tS):=by
 unfold Qdd;rw[QhU ls.length (fun i=>tS (Qc8 (ls.getD i []))) (fun a=>(a.length,a)) (fun i a hi ha=>?_) (fun a ha=>?_),Qa]
 ·have:=QdH ls (fun l=>tS (Qc8 l));rw[Xx];exact congrArg some this
 ·dsimp only;rw[Y2 (by simp;omega),Qd (by simp;omega),Y3,ZM hi,Qt2 (h _ (QaC hi)),Qa,Qd (by simp;omega),Qj hi (by omega)]
 ·dsimp only;rw[Y0 (by simp)]
def Qme (ls:List Bs):Bool:=QaM ls.length fun i=>decide (i<1)||bsl (tS (ls.getD (i-1) [])) (tS (ls.getD i []))
def QvD (G:List Bs):Bool:=!(QaM G.length fun i=>!((G.take i).any fun k=>k==G.getD i []))
def Qcn (ls:List Bs):Int:=if ls.length>16 then 1 else bif ls.any (fun l=>!QaD l) then 2 else bif !Qme ls then 3 else bif QvD (ls.map Qc8) then 4 else 0
theorem QxW {l:Bs} (h:QaD l=true):Qc8 l≠ []:=by
 have⟨ws,hc,hb,hj,G⟩:=Qb1 h;have W:=QcU hc;have hk:=QnT (Qso hb);unfold Qc8;rw[h,XO,G]
 cases ws with
 |nil=>exact absurd rfl (QnU hb)
 |cons a t=>
  have ha:a≠ []:=W.ne a (by simp);generalize keyN ((a::t).getD 0 [])=k at hk
  cases k with
  |zero=>omega
  |succ k=>
   intro e;have:a++(t.take k).flatMap (fun w=>32::w)=[]:=e;exact ha (List.append_eq_nil_iff.1 this).1
theorem QvE (l:Bs):(tS (Qc8 l)==(⟨#[]⟩:Bt))=!QaD l:=by
 rw[QhO]
 cases h:QaD l
 ·unfold Qc8;rw[h];rfl
 ·have:=QxW h
  cases hk:Qc8 l with
  |nil=>exact absurd hk this
  |cons _ _=>rfl
theorem QAl {xs:List Bs} {a:Bs}:(xs.map tS).any (· ==tS a)=xs.any fun k=>k==a:=by
 rw[XV]
 congr 1
 funext k
 exact Ji k a
theorem Qqr {α:Type} (xs:List α) (d:α) (p:α->Bool):xs.any p=!QaM xs.length fun i=>!p (xs.getD i d):=by
 rw[YE,YN,YF,<-Bool.not_eq_true,Qdv]
 constructor
 ·rintro⟨x,G,hp⟩ h;have⟨i,hi,e⟩:=Xn G;have:=h i hi;rw[Y1,Y7 hi,X3,e,hp] at this
  cases this
 ·intro h;refine Decidable.byContradiction fun hc=>h fun i hi=>?_;have hm:xs.getD i d∈xs:=by rw[Y1,Y7 hi];exact Xk hi
  cases hp:p (xs.getD i d)
  ·rfl
  ·exact absurd ⟨_,hm,hp⟩ hc
theorem Qt4 {ls:List Bs} (h:∀l∈ls,l.length≤1000000) (hn:ls.length≤1000000):Q7 (ls.map tS)=some (Qcn ls):=by
 unfold Q7 Qcn;rw[QxV h hn];simp only[List.length_map]
 by_cases h16:ls.length>16
 ·rw[if_pos (by simp;omega),if_pos h16]
 rw[if_neg (by simp;omega),if_neg h16,Qa];rw[Qhi ls.length (fun i=>QaD (ls.getD i [])) (.inl ()) (.inr ()) (fun i hi _=>?_) (fun _=>by rw[if_neg (by simp)]),Qa]
 ·have e1:ls.any (fun l=>!QaD l)=!QaM ls.length fun i=>QaD (ls.getD i []):=by
   rw[Qqr ls []];simp only[Bool.not_not]
  rw[e1]
  cases hk:QaM ls.length fun i=>QaD (ls.getD i [])
  ·rfl
  rw[if_pos rfl];dsimp only;rw[QxU (s0:=1) ls.length 1 rfl (fun i=>bsl (tS (ls.getD (i-1) [])) (tS (ls.getD i []))) (.inl ()) (.inr ()) (fun i h1 hi=>?_) (fun i hi=>by rw[if_neg (by simp;omega)]),Qa]
  ·rw[show(QaM ls.length fun i=>decide (i<1)||bsl (tS (ls.getD (i-1) [])) (tS (ls.getD i [])))=Qme ls from rfl]
   cases hs:Qme ls
   ·rfl
   dsimp only[cond_true];rw[Qhi ls.length (fun i=>!(((ls.map Qc8).take i).any fun k=>k==(ls.map Qc8).getD i [])) (.inl ()) (.inr ()) (fun i hi _=>?_) (fun _=>by rw[if_neg (by simp)]),Qa]
   ·unfold QvD;rw[List.length_map]
    cases QaM ls.length fun i=>!(((ls.map Qc8).take i).any fun k=>k==(ls.map Qc8).getD i [])<;>rfl
   ·have hik:i<(ls.map Qc8).length:=by rw[List.length_map];exact hi
    rw[if_pos (by simp;omega),Qd (by simp only[List.length_map];omega),Qd (by simp only[List.length_map];omega),Int.toNat_natCast,QnV,ZM hik,Qrf (by rw[List.length_map,List.length_take];omega),Qa,QAl,Qj hi (by omega)]
    cases ((ls.map Qc8).take i).any fun k=>k==(ls.map Qc8).getD i []<;>rfl
  ·have e:=QkN hi (by omega) (by omega);rw[if_pos (by simp;omega),e,Qd (by omega),Qd (by omega),Int.toNat_natCast,Int.toNat_natCast,ZM (by omega),ZM hi,Qj hi (by omega)]
   cases bsl (tS (ls.getD (i-1) [])) (tS (ls.getD i []))<;>rfl
 ·have hik:i<(ls.map Qc8).length:=by rw[List.length_map];exact hi
  have ek:(ls.map Qc8).getD i []=Qc8 (ls.getD i []):=by
   simp[List.getD_eq_getElem?_getD,hi]
  rw[if_pos (by simp;omega),Qd (by simp only[List.length_map];omega),Int.toNat_natCast,ZM hik,ek,QvE,Qj hi (by omega)]
  cases QaD (ls.getD i [])<;>rfl
end Go.Proofs.YtoknnjiangjccaaGreatDoor
