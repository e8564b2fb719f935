/-
  Plain Lean: what the models of functions compute; no condition.
-/
import Derived.Test.YtoknnjiangjccaaGreatDoorKz6
import Derived.Test.YtoknnjiangjccaaGreatDoorAbz8
set_option linter.all false
namespace Go.Proofs.YtoknnjiangjccaaGreatDoor
open Go Go.Ab
set_option maxHeartbeats 4000000
set_option maxRecDepth 100000
def Post {α:Type} (m:Option α) (Q:α->Prop):Prop:=∃x,m=some x∧Q x
theorem Post.ret {α:Type} {x:α} {Q:α->Prop} (h:Q x):Post (some x) Q:=⟨x,rfl,h⟩
theorem Post.bd {α β:Type} {m:Option α} {f:α->Option β} {Q:α->Prop} {R:β->Prop} (h:Post m Q) (k:∀x,Q x->Post (f x) R):Post (bd m f) R:=by
 have⟨x,e,G⟩:=h;rw[e,Qa];exact k x G
theorem Post.gd {α:Type} {c:Prop} [Decidable c] {m:Option α} {Q:α->Prop} (h:c) (k:Post m Q):Post (gd c m) Q:=by rwa[Qd h]
theorem Post.ite {α:Type} {c:Prop} [Decidable c] {a b:Option α} {Q:α->Prop} (I:c->Post a Q) (G:¬c->Post b Q):Post (if c then a else b) Q:=by
 by_cases h:c
 ·rw[Y2 h];exact I h
 ·rw[Y1 h];exact G h
theorem Post.gcall {α:Type} [Inhabited α] {c:Prop} [Decidable c] {m:Option α} {Q:α->Prop} (I:c->Post m Q) (G:¬c->Q default):Post (gcall c m) Q:=by
 by_cases h:c
 ·rw[Qe h];exact I h
 ·rw[QL h];exact⟨_,rfl,G h⟩
theorem Post.mono {α:Type} {m:Option α} {Q R:α->Prop} (h:Post m Q) (k:∀x,Q x->R x):Post m R:=by
 have⟨x,e,G⟩:=h;exact⟨x,e,k x G⟩
theorem Post.lp {σ β:Type} {step:σ->Option (σ⊕β)} {s0:σ} {Q:β->Prop} (I:σ->Prop) (G:σ->Nat) (O:I s0)
  (hs:∀s,I s->Post (step s) fun r=>match r with| .inl s'=>I s'∧G s'<G s| .inr b=>Q b):Post (lp step s0) Q:=by
 have key:∀n s,G s<=n->I s->Post (Go.Ab.lp step s) Q:=by
  intro n
  induction n with
  |zero=>
   intro s hm hi;have⟨r,e,J⟩:=hs s hi
   cases r with
   |inl s'=>exact absurd J.2 (by omega)
   |inr b=>exact⟨b,Jj e,J⟩
  |succ n U=>
   intro s hm hi;have⟨r,e,J⟩:=hs s hi
   cases r with
   |inl s'=>
    rw[Qac e];exact U s' (by have:=J.2;omega) J.1
   |inr b=>exact⟨b,Jj e,J⟩
 exact key (G s0) s0 (Yf _) O
theorem Qvj {α:Type} [Inhabited α] {p:α->Prop} {xs:List α} (h:∀x∈xs,p x) (G:p default) (i:Nat):p (xs.getD i default):=by
 rw[Y0];rcases hx:xs[i]? with _|x
 ·exact G
 ·exact h _ (X4 hx)
theorem Qr9 {a b:Int} (ha:0<=a∧a<=4611686018427387904) (hb:0<=b∧b<=4611686018427387904):0<=bits .xor .i64 a b:=by
 unfold bits;have e1:IntKind.bits .i64=64:=rfl;have l:∀x:Int,0<=x∧x<=4611686018427387904->(BitVec.ofInt 64 x).toNat<2^63:=fun x hx=>by
  rw[BitVec.toNat_ofInt];omega
 have h:(BitVec.ofInt 64 a^^^BitVec.ofInt 64 b).toNat<2^63:=by
  rw[BitVec.toNat_xor];exact Nat.xor_lt_two_pow (l a ha) (l b hb)
 show 0<=IntKind.i64.wrap (((BitVec.ofInt 64 a^^^BitVec.ofInt 64 b).toNat:Nat):Int);rw[Qo (by omega) (by omega)];omega
structure RdOk5 (r:QAe) (k:Int):Prop where
 bytes:∀x∈r.b,QnE x
 len:r.b.length≤2000
 p0:0≤r.p
 p1:r.p≤k
theorem Qsa {r:QAe} {n k:Int} (h:RdOk5 r k) (hk:k<=1099511627776) (hn:1<=n):Post (Ql r n) fun x=>(0<=x.1∧x.1<n)∧RdOk5 ⟨r.b,x.2.p⟩ (k+1):=by
 have⟨h1,h2,h3,h4⟩:=h;unfold Ql;have e1:IntKind.i64.wrap (r.p+1)=r.p+1:=Qo (by omega) (by omega);have e2:IntKind.i64.wrap (r.p+1-1)=r.p:=(Qo (n:=r.p+1-1) (by omega) (by omega)).trans (by omega);have e3:IntKind.i64.wrap (r.p*7)=r.p*7:=Qo (by omega) (by omega);have e4:IntKind.i64.wrap (r.p*7+3)=r.p*7+3:=Qo (by omega) (by omega);have e5:IntKind.i64.wrap (r.p*29)=r.p*29:=Qo (by omega) (by omega);rw[e1,e2,e3,e4,e5];have ok:RdOk5 ⟨r.b,r.p+1⟩ (k+1):=⟨h1,h2,by dsimp only;omega,by dsimp only;omega⟩;have G:∀i:Nat,0<=r.b.getD i default∧r.b.getD i default<=255:=fun i=>Qvj h1 ⟨Xe _,by decide⟩ i;have J:∀i:Nat,IntKind.i64.wrap (r.b.getD i default)=r.b.getD i default:=fun i=>by have:=G i;exact Qo (by omega) (by omega)
 have md:∀x:Int,0<=x->0<=x.tmod n∧x.tmod n<n:=fun x hx=>⟨Y0e _ hx,XZ _ (by omega)⟩;refine .ite (fun _=>.ret ⟨⟨Xe _,by dsimp only;omega⟩,ok⟩) fun c1=>.ite (fun c2=>.gd ⟨h3,by simpa using c2⟩ (.gd (by omega) (.ret ⟨?_,ok⟩))) fun c2=>?_
 ·rw[J];exact md _ (G _).1
 ·have hl:(0:Int)<(r.b.length:Nat):=by
   have:r.b.length≠0:=fun e=>c1 (by rw[e];simp);omega
  have m1:0<=r.p.tmod (r.b.length:Nat)∧r.p.tmod (r.b.length:Nat)<(r.b.length:Nat):=⟨Y0e _ h3,XZ _ hl⟩;have m2:0<=(r.p*7+3).tmod (r.b.length:Nat)∧(r.p*7+3).tmod (r.b.length:Nat)<(r.b.length:Nat):=⟨Y0e _ (by omega),XZ _ hl⟩;refine .gd (by omega) (.gd m1 (.gd (by omega) (.gd m2 (.gd (by omega) (.gd (by decide) (.gd (by omega) (.ret ⟨?_,ok⟩)))))));have b1:=G (r.p.tmod (r.b.length:Nat)).toNat
  have b2:=G ((r.p*7+3).tmod (r.b.length:Nat)).toNat
  have d1:0<=r.p.tdiv (r.b.length:Nat)∧r.p.tdiv (r.b.length:Nat)<=r.p:=by
   refine⟨Int.tdiv_nonneg h3 (by omega),?_⟩;rw[Int.tdiv_eq_ediv_of_nonneg h3];exact Int.ediv_le_self _ h3
  rw[J,J];generalize r.b.getD (r.p.tmod (r.b.length:Nat)).toNat default=O at*;generalize r.b.getD ((r.p*7+3).tmod (r.b.length:Nat)).toNat default=U at*;generalize r.p.tdiv (r.b.length:Nat)=I at*;simp (disch:=omega) only[Qo];have Y:0<=O*131+U*1117+r.p*29+I*53∧O*131+U*1117+r.p*29+I*53<=4611686018427387904:=by omega
  generalize O*131+U*1117+r.p*29+I*53=X at*;have d2:0<=X.tdiv 64∧X.tdiv 64<=4611686018427387904:=by
   rw[Int.tdiv_eq_ediv_of_nonneg Y.1];omega
  rw[Qo (n:=X.tdiv 64) (by omega) (by omega)];exact md _ (Qr9 Y d2)
abbrev Bs:=List UInt8
def tB (s:Bt):Bs:=s.data.toList
def tS (l:Bs):Bt:=⟨l.toArray⟩
@[simp] theorem QfY (l:Bs):tB (tS l)=l:=by simp [tB,tS]
@[simp] theorem Qgx (s:Bt):tS (tB s)=s:=by cases s; simp [tB,tS]
@[simp] theorem Qiy (s:Bt):(tB s).length=s.size:=by cases s; simp [tB,ByteArray.size]
@[simp] theorem QaQ (l:Bs):(tS l).size=l.length:=by simp [tS,ByteArray.size]
theorem QqZ {s t:Bt} (h:tB s=tB t):s=t:=by rw[<-Qgx s,h,Qgx]
theorem QtC {s t:Bs} (h:tS s=tS t):s=t:=by rw[<-QfY s,h,QfY]
theorem QoW {s t:Bt}:(s==t)=true↔s=t:=by
 constructor
 ·intro h;have h1:(s.data==t.data)=true:=h;have h2:s.data=t.data:=by simpa using h1
  cases s;cases t;simp_all
 ·intro h;subst h;show(s.data==s.data)=true;simp
instance:ReflBEq Bt:=⟨QoW.2 rfl⟩
instance:LawfulBEq Bt:={eq_of_beq:=fun h=>QoW.1 h}
theorem Jk (s t:Bs):(tS s==tS t)=(s==t):=by
 rw[YI];simp only[X7];exact⟨QtC,fun h=>h▸rfl⟩
theorem QmW (s:Bt) (i j:Nat):tB (s.extract i j)=((tB s).take j).drop i:=by
 simp[tB,ByteArray.data_extract,List.extract_eq_drop_take,List.drop_take]
theorem Qvk {l:Bs} {i:Nat} (h:i<l.length):J9 (tS l) i=((l.getD i 0).toNat:Int):=by
 unfold J9;have hs:i<(tS l).size:=by simpa using h
 have:(tS l)[i]? =some (l.getD i 0):=by
  rw[getElem?_pos (tS l) i hs];show some (l.toArray[i]'(by simpa using h))=_;simp[Y0,h]
 rw[this]
theorem Qgy {α:Type} {q:α->Bool}:∀ {l:List α} {i:Nat},i<l.length->(∀k x,k<i->l[k]? =some x->q x=true)->(∀x,l[i]? =some x->q x=false)->l.takeWhile q=l.take i
 |[],i,h,_,_=>by simp at h
 |a::r,0,_,_,h2=>by simp[Xz,h2 a rfl]
 |a::r,i+1,h,h1,h2=>by
  have:=h1 0 a (by omega) rfl;simp only[Xz,this,YG,List.take_succ_cons];rw[Qgy (l:=r) (i:=i) (by simpa using h) (fun k x hk G=>h1 (k+1) x (by omega) (by simpa using G)) fun x G=>h2 x (by simpa using G)]
theorem Qd8 {α:Type} {q:α->Bool} {l:List α} (h:∀x∈l,q x=true):l.takeWhile q=l:=by
 induction l with
 |nil=>rfl
 |cons a r I=>simp[Xz,h a (by simp),I fun x G=>h x (by simp[G])]
theorem Qdu {α:Type} {q:α->Bool}:∀ {l:List α},l.take (l.takeWhile q).length=l.takeWhile q
 |[]=>rfl
 |a::r=>by
  by_cases h:q a=true
  ·simp[Xz,h,Qdu (l:=r)]
  ·simp[Xz,h]
theorem Qbf (c:UInt8):∀l:Bs,Lib.index l [c]=if c∈l then((l.takeWhile (· !=c)).length:Int) else-1
 |[]=>by simp[Lib.index]
 |b::r=>by
  have G:=Qbf c r;unfold Lib.index
  by_cases hb:b=c
  ·subst hb;simp[List.isPrefixOf]
  ·have h1:([c].isPrefixOf (b::r))=false:=by simp[List.isPrefixOf,YV hb]
   have h2:(b !=c)=true:=by simpa using hb
   rw[h1,G]
   by_cases hc:c∈r
   ·have:¬((((r.takeWhile (· !=c)).length:Int))== -1)=true:=by
     rw[X7];omega
    rw[Y2 hc,Y1 (by decide),Y1 this,Y2 (by simp[hc])];simp[h2,Xz]
   ·simp[hc,YV hb]
def QcS (c:UInt8):Bs->List Bs
 |[]=>[[]]
 |b::r=>if b=c then []::QcS c r else match QcS c r with
  |[]=>[[b]]
  |w::ws=>(b::w)::ws
theorem QnM (c:UInt8):∀l,QcS c l≠ []
 |[]=>by simp[QcS]
 |b::r=>by
  unfold QcS;split
  ·simp
  ·split<;>simp
theorem Qes {c:UInt8}:∀ {l:Bs},c∉l->QcS c l=[l]
 |[],_=>rfl
 |b::r,h=>by
  have h1:b≠c:=fun e=>h (by simp[e]);have h2:c∉r:=fun e=>h (by simp[e]);simp[QcS,h1,Qes h2]
theorem QfG {c:UInt8}:∀ {a r:Bs},c∉a->QcS c (a++c::r)=a::QcS c r
 |[],r,_=>by simp[QcS]
 |b::a,r,h=>by
  have h1:b≠c:=fun e=>h (by simp[e]);have h2:c∉a:=fun e=>h (by simp[e]);simp[QcS,h1,QfG h2]
theorem Qko {c:UInt8} {l:Bs} (h:c∈l):l=l.takeWhile (· !=c)++c::l.drop ((l.takeWhile (· !=c)).length+1)∧c∉l.takeWhile (· !=c):=by
 induction l with
 |nil=>simp at h
 |cons b r I=>
  by_cases hb:b=c
  ·subst hb;simp
  ·have hc:c∈r:=by simpa[YV hb] using h
   have⟨h1,h2⟩:=I hc;have G:(b !=c)=true:=by simpa using hb
   simp only[Xz,G,YG,Yi,List.drop_succ_cons,XB];refine⟨by rw[<-h1],?_⟩;simp[YV hb,h2]
theorem QoX (c:UInt8):∀(n:Nat) (l:Bs),l.length<=n->Lib.splitK [c] 0 (Lib.count l [c]) l=QcS c l
 |n,l,hn=>by
  by_cases hc:c∈l
  ·have⟨h1,h2⟩:=Qko hc;have hi:Lib.index l [c]=((l.takeWhile (· !=c)).length:Int):=by rw[Qbf,Y2 hc]
   have hlen:(l.takeWhile (· !=c)).length+1<=l.length:=by
    have:=congrArg List.length h1;simp only[Yl,Yi] at this;omega
   rw[Lib.count_hit (by simp) hi,Y0m 1]
   cases n with
   |zero=>simp at hn;subst hn;simp at hc
   |succ n=>
    have I:=QoX c n (l.drop ((l.takeWhile (· !=c)).length+1)) (by simp;omega);unfold Lib.splitK;rw[hi];have G:¬((((l.takeWhile (· !=c)).length:Nat):Int)== -1)=true:=by rw[X7];omega
    rw[Y1 G];simp only[Y4,X3,Yi,Yv,Yh];rw[I];have ht:l.take (l.takeWhile (· !=c)).length=l.takeWhile (· !=c):=Qdu;rw[ht]
    conv=>rhs;rw[h1]
    rw[QfG h2]
  ·rw[Lib.count_miss (by rw[Qbf,Y1 hc]),Qes hc]
   rfl
theorem QnN (c:UInt8) (l:Bs):QlM (tS l) (tS [c])=(QcS c l).map tS:=by
 have h:(QlM (tS l) (tS [c])).map tB=QcS c l:=by
  have:=Lib.splitB_data (tS [c]) 0 (Lib.countB (tS l) (tS [c])) (tS l);unfold QlM;show(Lib.splitB (tS [c]) 0 (Lib.countB (tS l) (tS [c])) (tS l)).map (fun x=>x.data.toList)=_;rw[this];have e:Lib.countB (tS l) (tS [c])=Lib.count l [c]:=by
   show Lib.count (tB (tS l)) (tB (tS [c]))=_;rw[QfY,QfY]
  rw[e];show Lib.splitK (tB (tS [c])) 0 _ (tB (tS l))=_;rw[QfY,QfY];exact QoX c _ l (Yf _)
 rw[<-h,Xq];have:(tS∘tB)=id:=funext fun s=>Qgx s;rw[this,List.map_id]
theorem Qp3 (c:UInt8) (l:Bs):QsC (tS l) (tS [c])=if c∈l then(tS (l.takeWhile (· !=c)),tS (l.drop ((l.takeWhile (· !=c)).length+1)),true) else(tS l,tS [],false):=by
 have e1:(tS l).data.toList=l:=QfY l;have G:(tS [c]).data.toList=[c]:=QfY [c];unfold QsC;rw[e1,G];unfold Lib.cut;rw[Qbf]
 by_cases hc:c∈l
 ·have⟨h1,h2⟩:=Qko hc;have ht:l.take (l.takeWhile (· !=c)).length=l.takeWhile (· !=c):=Qdu;simp[hc,ht,tS]
 ·simp[hc,tS]
section
variable {α:Type} [Inhabited α]
noncomputable def Qzz (pm:α->Option Bool) (a0:List α):Option Int:=
 bd (lp (σ:=Int) (β:=(Int⊕Unit)) (fun s1=>
(if(decide (s1<((a0.length:Nat):Int)))=true then
 gd ((0:Int)<=s1∧s1<((a0.length:Nat):Int))<|
 bd (pm (a0.getD s1.toNat default)) fun G=>
(if G=true then
 some (.inr (.inl s1))
else
 some (.inl (IntKind.i64.wrap (s1+1))))
else
 some (.inr (.inr ())))) 0) fun I=>
(match I with
| .inl J=>
 some J
| .inr d8=>
 some (-1))
noncomputable def Qwu (pm:α->Option Bool) (a0:List α):Option Bool:=
 bd (Qzz pm a0) fun G=>
 some (decide (G>=0))
noncomputable def QzA (pm:α->Option Bool) (a0:List α):Option (List α):=
 bd (Qzz pm a0) fun J=>
(if(J==(-1))=true then
 some a0
else
 bd (lp (σ:=List α×Int×Int) (β:=(Nat×Int×(List α))) (fun G=>
(if(decide (G.2.2<((G.1.length:Nat):Int)))=true then
 gd ((0:Int)<=G.2.2∧G.2.2<((G.1.length:Nat):Int))<|
 bd (pm (G.1.getD G.2.2.toNat default)) fun O=>
(if(!O)=true then
 gd ((0:Int)<=G.2.1∧G.2.1<((G.1.length:Nat):Int))<|
 some (.inl (G.1.set G.2.1.toNat (G.1.getD G.2.2.toNat default),IntKind.i64.wrap (G.2.1+1),IntKind.i64.wrap (G.2.2+1)))
else
 some (.inl (G.1,G.2.1,IntKind.i64.wrap (G.2.2+1))))
else
 some (.inr (G.1.length,G.2.1,G.1)))) (a0,J,IntKind.i64.wrap (J+1))) fun I=>
 gd ((0:Int)<=I.2.1∧I.2.1<=((I.1:Nat):Int)∧((I.1:Nat):Int)<=((I.1:Nat):Int))<|
 gd ((0:Int)<=(0:Int)∧(0:Int)<=I.2.1∧I.2.1<=((I.1:Nat):Int))<|
 some ((Qmj I.2.2 I.2.1.toNat (Qfg ((I.1:Nat):Int) I.2.1)).take I.2.1.toNat))
theorem Zd {xs:List α} {i:Nat} (h:i<xs.length):xs.getD i default∈xs:=by
 rw[Y0,Y6 h];exact X0 h
theorem Qwv {pm:α->Option Bool} {p:α->Bool} {xs:List α} (hp:∀x∈xs,pm x=some (p x)) (h:xs.length<=1048576):
  Qzz pm xs=some (match Jc (fun i=>p (xs.getD i default)) xs.length with|some i=>(i:Int)|none=>-1):=by
 unfold Qzz;rw[J5 xs.length (fun i=>p (xs.getD i default)) (fun i=>Sum.inl (i:Int)) (.inr ()) (fun i hi=>?_) (by rw[Y1 (by simp)]),Qa]
 ·cases Jc (fun i=>p (xs.getD i default)) xs.length<;>rfl
 ·rw[Y2 (by simp;omega),Qd (by omega),Y4,Qk hi (by omega),hp _ (Zd hi),Qa];split<;>simp_all
theorem Qgz {p:α->Bool} {xs:List α}:xs.any p=(Jc (fun i=>p (xs.getD i default)) xs.length).isSome:=by
 cases h:Jc (fun i=>p (xs.getD i default)) xs.length with
 |none=>
  have:=Qcc h;simp only[Option.isSome_none,XR];intro x G;have⟨i,hi,e⟩:=Xm G;have:=this i hi;rw[Y0,Y6 hi] at this;rw[<-e];simpa using this
 |some i=>
  have⟨h1,h2,_⟩:=Qcb h;simp only[Option.isSome_some,YH];exact⟨_,Zd h1,h2⟩
theorem QmX {pm:α->Option Bool} {p:α->Bool} {xs:List α} (hp:∀x∈xs,pm x=some (p x)) (h:xs.length<=1048576):Qwu pm xs=some (xs.any p):=by
 unfold Qwu;rw[Qwv hp h,Qa,Qgz]
 cases Jc (fun i=>p (xs.getD i default)) xs.length with
 |none=>simp
 |some i=>simp
structure DlW (xs0:List α) (k:α→Bool) (xs:List α) (i j:Nat):Prop where
 lt:i<j
 le:j≤xs0.length
 len:xs.length=xs0.length
 take:xs.take i=(xs0.take j).filter k
 drop:∀q,j≤q→xs.getD q default=xs0.getD q default
theorem DlW.keep {xs0:List α} {k:α->Bool} {xs:List α} {i j:Nat} (h:DlW xs0 k xs i j) (hj:j<xs0.length) (hk:k (xs.getD j default)=true):DlW xs0 k (xs.set i (xs.getD j default)) (i+1) (j+1):=by
 have G:=h.drop j (Yf _);have hlt:=h.lt;have hl:=h.len;refine⟨by omega,hj,by simp[h.len],?_,fun q hq=>?_⟩
 ·rw[XE,List.take_set_of_le (Yf _),h.take,XE (i:=j),Xb,G];rw[G] at hk;have e1:(xs.set i (xs0.getD j default))[i]? =some (xs0.getD j default):=by rw[Y0n,Y2 rfl,Y2 (by omega)]
  have I:xs0[j]? =some (xs0.getD j default):=by simp[Y0,hj]
  rw[e1,I];show _++[xs0.getD j default]=_++([xs0.getD j default]).filter k;rw[Xd,Y2 hk]
  rfl
 ·have:(xs.set i (xs.getD j default)).getD q default=xs.getD q default:=by
   simp[Y0,Y0n,show i≠q by omega]
  rw[this];exact h.drop q (by omega)
theorem DlW.skip {xs0:List α} {k:α->Bool} {xs:List α} {i j:Nat} (h:DlW xs0 k xs i j) (hj:j<xs0.length) (hk:k (xs.getD j default)=false):DlW xs0 k xs i (j+1):=by
 have I:=h.drop j (Yf _);have hlt:=h.lt;rw[I] at hk;refine⟨by omega,hj,h.len,?_,fun q hq=>h.drop q (by omega)⟩;have G:xs0[j]? =some (xs0.getD j default):=by simp[Y0,hj]
 rw[XE,Xb,<-h.take,G];show _=_++([xs0.getD j default]).filter k;rw[Xd,Y1 (by rw[hk];decide)];simp
theorem QjG {k:α->Bool} {xs:List α} {n:Nat} (h:∀q,q<n->q<xs.length->k (xs.getD q default)=true):(xs.take n).filter k=xs.take n:=by
 refine List.filter_eq_self.2 fun x I=>?_;have⟨q,G,e⟩:=Xm I;rw[Yp] at G;have:=h q (by omega) (by omega);rw[Y0,Y6 (by omega)] at this;rw[<-e,List.getElem_take];exact this
theorem QtD {xs:List α} {i l:Nat}:(Qmj xs i l).take i=xs.take i:=by
 apply Y0j
 intro q
 by_cases G:q<i
 ·by_cases I:q<xs.length
  ·simp[Qmj,YS,G,I,show ¬i<=q by omega,Y0]
  ·rw[Xn (by simp;omega),Xn (by simp;omega)]
 ·rw[Xn (by simp;omega),Xn (by simp;omega)]
theorem Qww {pm:α->Option Bool} {p:α->Bool} {xs:List α} (hp:∀x∈xs,pm x=some (p x)) (h:xs.length<=1048576):QzA pm xs=some (xs.filter fun x=>!p x):=by
 unfold QzA;rw[Qwv hp h,Qa]
 cases hf:Jc (fun i=>p (xs.getD i default)) xs.length with
 |none=>
  have:=Qcc hf;dsimp only;rw[Y2 (by decide)];have e:=QjG (k:=fun r=>!p r) (xs:=xs) (n:=xs.length) fun q J _=>by simpa using this q J
  rw[X1] at e;rw[e]
 |some i=>
  have⟨h1,h2,h3⟩:=Qcb hf;dsimp only;rw[Y1 (by simp<;>omega)];have start:DlW xs (fun r=>!p r) xs i (i+1):=by
   refine⟨Nat.lt_succ_self _,h1,rfl,?_,fun _ _=>rfl⟩;have O:xs[i]? =some (xs.getD i default):=by simp[Y0,h1]
   rw[XE,Xb,O,QjG fun q J _=>by simpa using h3 q J];show _=_++([xs.getD i default]).filter (fun r=>!p r);rw[Xd,Y1 (by rw[h2];decide)];simp
  have key:Post (lp (σ:=List α×Int×Int) (β:=(Nat×Int×(List α))) (fun G=>
    (if(decide (G.2.2<((G.1.length:Nat):Int)))=true then
    gd ((0:Int)<=G.2.2∧G.2.2<((G.1.length:Nat):Int))<|
    bd (pm (G.1.getD G.2.2.toNat default)) fun x7=>
    (if(!x7)=true then
    gd ((0:Int)<=G.2.1∧G.2.1<((G.1.length:Nat):Int))<|
    some (.inl (G.1.set G.2.1.toNat (G.1.getD G.2.2.toNat default),IntKind.i64.wrap (G.2.1+1),IntKind.i64.wrap (G.2.2+1)))
    else
    some (.inl (G.1,G.2.1,IntKind.i64.wrap (G.2.2+1))))
    else
    some (.inr (G.1.length,G.2.1,G.1)))) (xs,(i:Int),IntKind.i64.wrap ((i:Int)+1))) fun x=>∃q:Nat,x.2.1=(q:Int)∧q<=x.1∧x.2.2.take q=xs.filter (fun r=>!p r):=by
   rw[Qk h1 (by omega)];refine .lp (fun s=>∃q j:Nat,s.2.1=(q:Int)∧s.2.2=(j:Int)∧DlW xs (fun r=>!p r) s.1 q j) (fun s=>xs.length-s.2.2.toNat) ⟨i,i+1,rfl,rfl,start⟩ fun s ⟨q,j,U,Y,D⟩=>?_;have⟨ys,sp,sj⟩:=s;dsimp only at U Y D|-;subst U Y;have hlt:=D.lt;have hle:=D.le;have hlen:=D.len;refine .ite (fun c=>?_) fun c=>.ret ?_
   ·have c:=Ym c;have hj:j<xs.length:=by omega
    refine .gd (by omega) ?_;have I:pm (ys.getD j default)=some (p (ys.getD j default)):=by rw[D.drop j (Yf _)];exact hp _ (Zd hj)
    rw[Y4,I,Qa,Qk (n:=xs.length) hj (by omega)];refine .ite (fun k=>.gd (by omega) ?_) fun k=>.ret ⟨⟨q,j+1,rfl,rfl,D.skip hj (by simpa using k)⟩,by dsimp only;omega⟩;rw[Y4,Qk (n:=xs.length) (by omega) (by omega)];exact .ret ⟨⟨q+1,j+1,rfl,rfl,D.keep hj k⟩,by dsimp only;omega⟩
   ·have:j=xs.length:=by
     simp only[Yk] at c;omega
    refine⟨q,rfl,by dsimp only;omega,?_⟩;have t:=D.take;rw[this,X1] at t;exact t
  have⟨x,e,q,e1,O,e3⟩:=key;refine(congrArg (fun m=>bd m _) e).trans ?_;rw[Qa,e1,Qd (by omega),Qd (by omega),Y4,QtD,e3]
end
def iB (b:UInt8):Int:=(b.toNat:Int)
theorem Qvl (b:UInt8):0<=iB b∧iB b<=255:=by
 have:=b.toNat_lt;unfold iB;omega
theorem Qy5 {a b:UInt8} (h:iB a=iB b):a=b:=by
 unfold iB at h;exact UInt8.toNat_inj.1 (by omega)
theorem QmY {a b:UInt8}:(iB a==iB b)=(a==b):=by
 rw[YI];simp only[X7];exact⟨Qy5,fun h=>h▸rfl⟩
theorem QfH {l:Bs} {i:Nat} (h:i<l.length):J9 (tS l) i=iB (l.getD i 0):=Qvk h
theorem Qq0:∀(G:List Int) (s:Bt),G.foldl (fun r n=>r.push (UInt8.ofNat n.toNat)) s=tS (tB s++G.map fun n=>UInt8.ofNat n.toNat)
 |[],s=>by simp
 |n::r,s=>by
  rw[Y0t,Qq0 r]
  congr 1
  simp[tB,ByteArray.push]
theorem Qvm (G:List Int):QfZ G=tS (G.map fun n=>UInt8.ofNat n.toNat):=by
 unfold QfZ;rw[Qq0]
 rfl
theorem Qln (w:Bs):QfZ (Qpn (w.map iB).length (rows Qq (w.map iB)))=tS w:=by
 rw[Qvm]
 congr 1
 apply Y0j
 intro i
 by_cases h:i<w.length
 ·simp[Qpn,Qw1,h,iB,Y0]
 ·simp[Qpn,h]
def QaD (l:Bs):List Bs:=(QcS 32 l).filter fun w=>!w.isEmpty
def okB (b:UInt8):Bool:=decide (32<=b.toNat)&&decide (b.toNat<=126)
def stripL (l:Bs):Bs:=l.takeWhile (· !=35)
def Qy6 (ws:List Bs):Bool:=decide (ws.length<=8)&&ws.all fun w=>decide (w.length<=24)
def Qe9 (l:Bs):Option (List Bs):=if(stripL l).all okB=true∧Qy6 (QaD (stripL l))=true then some (QaD (stripL l)) else none
theorem Qsb {α:Type} (l:List α) (d:α) (p:α->Bool):(match Jc (fun i=>p (l.getD i d)) l.length with|some i=>l.take i|none=>l)=l.takeWhile fun x=>!p x:=by
 cases h:Jc (fun i=>p (l.getD i d)) l.length with
 |none=>
  have:=Qcc h;refine(Qd8 fun x G=>?_).symm;have⟨i,hi,e⟩:=Xm G;have:=this i hi;rw[Y0,Y6 hi,X6,e] at this;simp[this]
 |some i=>
  have⟨h1,h2,h3⟩:=Qcb h;refine(Qgy h1 (fun k x hk G=>?_) fun x G=>?_).symm
  ·have:=h3 k hk;rw[Y0,G,X6] at this;simp[this]
  ·rw[Y0,G,X6] at h2;simp[h2]
theorem QxC {l:Bs} (h:l.length<=1073741824):Qck (tS l)=some (tS (stripL l)):=by
 unfold Qck;rw[J5 l.length (fun i=>l.getD i 0==35) (fun i=>Sum.inl ((tS l).extract 0 i)) (.inr ()) (fun i hi=>?_) (by rw[Y1 (by simp)]),Qa]
 ·have e:=Qsb l 0 (fun x=>x==35);have G:stripL l=l.takeWhile fun x=>!(x==35):=rfl;rw[G,<-e]
  cases hf:Jc (fun i=>l.getD i 0==35) l.length with
  |none=>rfl
  |some i=>
   refine congrArg some (QqZ ?_);rw[QmW,QfY,QfY,Y09]
 ·rw[Y2 (by simp;omega),Qd (by simp;omega),Y4,QfH hi,Qk hi (by omega)];have e:(iB (l.getD i 0)==35)=(l.getD i 0==35):=QmY (b:=35);rw[e,Qd (by simp;omega)];split<;>simp_all
def QtE:Bs->List Bs->Bs->Option (List Bs)
 |w,out,[]=>if w.length=0 then some out else if out.length+1>8 then none else some (out++[w])
 |w,out,c::r=>if okB c=false then none else if c≠32 then(if w.length+1>24 then none else QtE (w++[c]) out r)
   else if w.length=0 then QtE w out r else if out.length+1>8 then none else QtE [] (out++[w]) r
theorem QtF {c:UInt8} {a:Bs}:c∉a->∀r,QcS c (a++r)=match QcS c r with|[]=>[a]|x::xs=>(a++x)::xs:=by
 induction a with
 |nil=>
  intro _ r
  cases h:QcS c r with
  |nil=>exact absurd h (QnM c r)
  |cons x xs=>simp[h]
 |cons b a G=>
  intro h r;have h1:b≠c:=fun e=>h (by simp[e]);have h2:c∉a:=fun e=>h (by simp[e]);rw[XB,QcS,Y1 h1,G h2 r]
  cases h:QcS c r with
  |nil=>exact absurd h (QnM c r)
  |cons x xs=>simp
theorem Qp4 {w:Bs} (h:(32:UInt8)∉w):QaD w=if w.isEmpty then [] else [w]:=by
 unfold QaD;rw[Qes h]
 cases w<;>rfl
theorem QoY (r:Bs):QaD (32::r)=QaD r:=by
 unfold QaD;rw[QcS,Y2 rfl]
 rfl
theorem Qsc {w:Bs} (h:(32:UInt8)∉w) (G:w.isEmpty=false) (r:Bs):QaD (w++32::r)=w::QaD r:=by
 unfold QaD;rw[QfG h,Xd,Y2 (by simp[G])]
theorem Qp5 {w:Bs} (h:(32:UInt8)∉w) (G:w.isEmpty=false) (r:Bs):∃x∈QaD (w++r),w.length<=x.length:=by
 unfold QaD;rw[QtF h]
 cases hs:QcS 32 r with
 |nil=>exact absurd hs (QnM _ r)
 |cons x xs=>
  refine⟨w++x,YK.2 ⟨by simp,?_⟩,by simp⟩
  cases w with
  |nil=>simp at G
  |cons _ _=>rfl
theorem QnO:∀(r w:Bs) (out:List Bs),(32:UInt8)∉w->w.length<=24->out.length<=8->
  QtE w out r=if r.all okB=true∧(out++QaD (w++r)).length<=8∧(QaD (w++r)).all (fun w=>decide (w.length<=24))=true then some (out++QaD (w++r)) else none
 |[],w,out,h,hw,ho=>by
  rw[QtE,XJ,Qp4 h]
  cases w with
  |nil=>simp[ho]
  |cons b w=>
   have hl:w.length+1<=24:=by simpa using hw
   by_cases O:out.length+1>8
   ·have:¬out.length+1<=8:=by omega
    simp[O,this]
   ·have:out.length+1<=8:=by omega
    simp[O,this,hl]
 |c::r,w,out,h,hw,ho=>by
  rw[QtE]
  by_cases hc:okB c=false
  ·simp[hc]
  have J:okB c=true:=by simpa using hc
  rw[Y1 hc]
  by_cases I:c=32
  ·subst I;rw[Y1 (by simp)]
   cases G:w with
   |nil=>
    rw[Y2 (c:=([]:Bs).length=0) rfl,QnO r [] out (by simp) (by simp) ho,YC,YC,QoY];simp[J]
   |cons b w'=>
    rw[<-G];have a2:w.isEmpty=false:=by rw[G];rfl
    rw[Y1 (by rw[G];simp),Qsc h a2]
    by_cases O:out.length+1>8
    ·rw[Y2 O,Y1];rintro⟨_,h2,_⟩;simp at h2;omega
    ·rw[Y1 O,QnO r [] (out++[w]) (by simp) (by simp) (by simp;omega),YC];have Y:decide (w.length<=24)=true:=Yd hw;simp only[XC,J,Y,Yq,Xv,List.singleton_append]
  ·rw[Y2 I];have a1:(32:UInt8)∉w++[c]:=by simp[h,YV I]
   have e:w++c::r=(w++[c])++r:=by simp
   by_cases U:w.length+1>24
   ·rw[Y2 U,Y1];rintro⟨_,_,h3⟩;have⟨x,hx,hl⟩:=Qp5 a1 (by simp) r;rw[e] at h3;have:=Yb.1 h3 x hx;simp at this hl;omega
   ·rw[Y1 U,QnO r (w++[c]) out a1 (by simp;omega) ho,e];simp[J]
theorem Qkp {l:Bs} (h:l.length<=1073741824):Z8 (tS l)=some (match Qe9 l with|some ws=>(ws.map tS,true)|none=>([],false)):=by
 unfold Z8;rw[QxC h,Qa];have a9:(stripL l).length<=1073741824:=Xu (XL (Xy _)) h;have hc:Qe9 l=QtE [] [] (stripL l):=by
  rw[QnO _ _ _ (by simp) (by simp) (by simp)];unfold Qe9 Qy6;simp only[YC,Y3,Yk]
 rw[hc];generalize stripL l=t at a9;have key:∀(k i:Nat) (w:Bs) (out:List Bs),i+k=t.length->w.length<=24->out.length<=8->
   lp (σ:=List Int×List Bt×Int) (β:=(Unit⊕(Nat×(List Bt)))) (fun G=>
(if(decide (G.2.2<=(((tS t).size:Nat):Int)))=true then
 gd ((decide (G.2.2<(((tS t).size:Nat):Int)))=true->((0:Int)<=G.2.2∧G.2.2<(((tS t).size:Nat):Int)))<|
 gd ((decide ((J9 (tS t) G.2.2.toNat)<32))=false->((decide (G.2.2<(((tS t).size:Nat):Int)))=true->((0:Int)<=G.2.2∧G.2.2<(((tS t).size:Nat):Int))))<|
(if((decide (G.2.2<(((tS t).size:Nat):Int)))&&((decide ((J9 (tS t) G.2.2.toNat)<32))||(decide ((J9 (tS t) G.2.2.toNat)>126))))=true then
 some (.inr (.inl ()))
else
 gd ((decide (G.2.2<(((tS t).size:Nat):Int)))=true->((0:Int)<=G.2.2∧G.2.2<(((tS t).size:Nat):Int)))<|
(if((decide (G.2.2<(((tS t).size:Nat):Int)))&&((J9 (tS t) G.2.2.toNat) !=32))=true then
 gd ((0:Int)<=G.2.2∧G.2.2<(((tS t).size:Nat):Int))<|
 gd (((G.1.length)+(([(J9 (tS t) G.2.2.toNat)]:List Int).length))*(1+1)<=70368744177664)<|
(if(decide ((((G.1++([(J9 (tS t) G.2.2.toNat)]:List Int)).length:Nat):Int)>24))=true then
 some (.inr (.inl ()))
else
 some (.inl ((G.1++([(J9 (tS t) G.2.2.toNat)]:List Int)),G.2.1,IntKind.i64.wrap (G.2.2+1))))
else
(if(decide (((G.1.length:Nat):Int)>0))=true then
 gd (((G.2.1.length)+(([(QfZ (Qpn G.1.length (rows Qq G.1)))]:List Bt).length))*(16+1)<=70368744177664)<|
(if(decide ((((G.2.1++([(QfZ (Qpn G.1.length (rows Qq G.1)))]:List Bt)).length:Nat):Int)>8))=true then
 some (.inr (.inl ()))
else
 some (.inl (([]:List Int),(G.2.1++([(QfZ (Qpn G.1.length (rows Qq G.1)))]:List Bt)),IntKind.i64.wrap (G.2.2+1))))
else
 some (.inl (G.1,G.2.1,IntKind.i64.wrap (G.2.2+1))))))
else
 some (.inr (.inr (G.2.1.length,G.2.1))))) (w.map iB,out.map tS,(i:Int))=some (match QtE w out (t.drop i) with|some o=>.inr (o.length,o.map tS)|none=>.inl ()):=by
  intro k
  induction k with
  |zero=>
   intro i w out hi hw ho;have hi:i=t.length:=by omega
   subst hi;have hd:t.drop t.length=[]:=by simp
   rw[hd,QtE];have a3:∀(u:List Int) (v:List Bt),IntKind.i64.wrap ((t.length:Int)+1)=((t.length+1:Nat):Int):=fun _ _=>Qk (n:=t.length+1) (by omega) (by omega);have a4:decide ((t.length:Int)<(((tS t).size:Nat):Int))=false:=by simp
   have J:decide ((t.length:Int)<=(((tS t).size:Nat):Int))=true:=by simp
   by_cases O:w.length=0
   ·rw[Y2 O];have b4:w=[]:=Yy O;subst b4;rw[Qac (s':=(([]:Bs).map iB,out.map tS,((t.length+1:Nat):Int)))]
    ·refine Jj ?_;have:decide (((t.length+1:Nat):Int)<=(((tS t).size:Nat):Int))=false:=by simp<;>omega
     simp only[this,Yx,Xc,Ya]
    ·simp only[J,a4,YG,YN,Yx,Xc];rw[Qd (by simp),Qd (by simp),Qd (by simp)];simp[a3 [] []]
   ·rw[Y1 O]
    by_cases h8:out.length+1>8
    ·rw[Y2 h8];refine Jj ?_;simp only[J,a4,YG,YN,Yx,Xc];rw[Qd (by simp),Qd (by simp),Qd (by simp),Y2 (by simp;omega),Qd (by simp;omega),Y2 (by simp;omega)]
    ·rw[Y1 h8,Qac (s':=(([]:List Int),(out++[w]).map tS,((t.length+1:Nat):Int)))]
     ·refine Jj ?_;have:decide (((t.length+1:Nat):Int)<=(((tS t).size:Nat):Int))=false:=by simp<;>omega
      simp only[this,Yx,Xc,Ya]
     ·simp only[J,a4,YG,YN,Yx,Xc];rw[Qd (by simp),Qd (by simp),Qd (by simp),Y2 (by simp;omega),Qd (by simp;omega),Y1 (by simp;omega),Qln,a3 [] []];simp
  |succ k ih=>
   intro i w out hi hw ho;have a6:i<t.length:=by omega
   have hd:t.drop i=t.getD i 0::t.drop (i+1):=by
    rw[Y0b a6,Y0,Y6 a6];rfl
   have Y:decide ((i:Int)<(((tS t).size:Nat):Int))=true:=by simp;omega
   have J:decide ((i:Int)<=(((tS t).size:Nat):Int))=true:=by simp;omega
   have I:(0:Int)<=i∧(i:Int)<(((tS t).size:Nat):Int):=by simp;omega
   have a8:IntKind.i64.wrap ((i:Int)+1)=((i+1:Nat):Int):=Qk a6 (by omega);rw[hd,QtE];generalize b3:t.getD i 0=c;have a1:J9 (tS t) (i:Int).toNat=iB c:=by rw[Y4,QfH a6,b3]
   have U:(decide (iB c<32)||decide (iB c>126))=!okB c:=by
    unfold okB iB
    by_cases h1:32<=c.toNat<;>by_cases h2:c.toNat<=126<;>simp[h1,h2]<;>omega
   have a2:(iB c !=32)=(c !=32):=by
    have:(iB c==32)=(c==32):=QmY (b:=32);simp only[bne,this]
   by_cases hc:okB c=false
   ·rw[Y2 hc];refine Jj ?_;simp only[J,Y,YG,a1,Yq,U,hc];rw[Qd (fun _=>I),Qd (fun _ _=>I),Y2 (by simp)]
   have a5:okB c=true:=by simpa using hc
   rw[Y1 hc]
   by_cases a7:c=32
   ·rw[Y1 (by simp[a7])];have hb:(c !=32)=false:=by simp[a7]
    by_cases O:w.length=0
    ·rw[Y2 O,<-ih (i+1) w out (by omega) hw ho];refine Qac ?_;simp only[J,Y,YG,a1,Yq,U,a5,a2,hb];rw[Qd (fun _=>I),Qd (fun _ _=>I),Y1 (by simp),Qd (fun _=>I),Y1 (by simp),Y1 (by simp[O]),a8]
    ·rw[Y1 O]
     by_cases h8:out.length+1>8
     ·rw[Y2 h8];refine Jj ?_;simp only[J,Y,YG,a1,Yq,U,a5,a2,hb];rw[Qd (fun _=>I),Qd (fun _ _=>I),Y1 (by simp),Qd (fun _=>I),Y1 (by simp),Y2 (by simp;omega),Qd (by simp;omega),Y2 (by simp;omega)]
     ·rw[Y1 h8,<-ih (i+1) [] (out++[w]) (by omega) (by simp) (by simp;omega)];refine Qac ?_;simp only[J,Y,YG,a1,Yq,U,a5,a2,hb];rw[Qd (fun _=>I),Qd (fun _ _=>I),Y1 (by simp),Qd (fun _=>I),Y1 (by simp),Y2 (by simp;omega),Qd (by simp;omega),Y1 (by simp;omega),Qln,a8];simp
   ·rw[Y2 a7];have hb:(c !=32)=true:=by simp[a7]
    by_cases b2:w.length+1>24
    ·rw[Y2 b2];refine Jj ?_;simp only[J,Y,YG,a1,Yq,U,a5,a2,hb];rw[Qd (fun _=>I),Qd (fun _ _=>I),Y1 (by simp),Qd (fun _=>I),Qd I,Qd (by simp;omega),Y2 (by simp;omega)]
    ·rw[Y1 b2,<-ih (i+1) (w++[c]) out (by omega) (by simp;omega) ho];refine Qac ?_;simp only[J,Y,YG,a1,Yq,U,a5,a2,hb];rw[Qd (fun _=>I),Qd (fun _ _=>I),Y1 (by simp),Qd (fun _=>I),Qd I,Qd (by simp;omega),Y1 (by simp;omega),a8];simp
 have k0:=key t.length 0 [] [] (by omega) (by simp) (by simp);rw[Y09] at k0;refine(congrArg (fun m=>bd m _) k0).trans ?_;rw[Qa]
 cases QtE [] [] t<;>rfl
def Qkq (b:UInt8):Bool:=decide (48<=b.toNat)&&decide (b.toNat<=57)
def Qp6 (n:Nat) (w:Bs):Nat:=w.foldl (fun n b=>n*10+(b.toNat-48)) n
def valL (w:Bs):Nat:=Qp6 0 w
def QlO (w:Bs):Bool:=!w.isEmpty&&w.all Qkq&&(decide (w.length=1)||w.getD 0 0 !=48)
def inI (a lo hi:Int):Bool:=decide (lo<=a)&&decide (a<=hi)
theorem QgA {a lo hi:Int}:inI a lo hi=true↔lo<=a∧a<=hi:=by simp[inI]
def QcW (w:Bs):Int:=if QlO w=true∧w.length<=6 then(valL w:Int) else-1
def Qmc (w:Bs):Int:=if QlO w=true∧valL w<9223372036854775808 then(valL w:Int) else-1
def isN (w:Bs) (lo hi:Int):Bool:=inI (QcW w) lo hi
theorem Qvn (n:Nat) (w:Bs) (b:UInt8):Qp6 n (w++[b])=Qp6 n w*10+(b.toNat-48):=by simp[Qp6]
theorem Qkr (w:Bs) (b:UInt8):valL (w++[b])=valL w*10+(b.toNat-48):=Qvn 0 w b
theorem Qp7:∀(w:Bs) (n:Nat),n<=Qp6 n w
 |[],n=>Yf _
 |b::r,n=>by
  have:=Qp7 r (n*10+(b.toNat-48));show n<=Qp6 (n*10+(b.toNat-48)) r;omega
theorem Qp8:∀(n:Nat) (w:Bs),w.length=n->w.all Qkq=true->valL w<10^n
 |0,w,h,_=>by
  have:w=[]:=Yy h;subst this;decide
 |n+1,w,h,hd=>by
  rcases List.eq_nil_or_concat w with rfl|⟨u,b,e⟩
  ·simp at h
  ·rw[List.concat_eq_append] at e;subst e;simp at h;simp only[List.all_append,Y3,XC,List.all_nil,Xj] at hd;have ih:=Qp8 n u h hd.1;have hb:=hd.2;simp only[Qkq,Y3,Yk] at hb;rw[Qkr,Y0v];omega
theorem QtG {b:UInt8} (h:48<=b.toNat∧b.toNat<=57):Qkq b=true:=by simp[Qkq,h]
theorem Qvo {n:Nat} (h:n<256):(UInt8.ofNat n).toNat=n:=by
 simp[UInt8.toNat_ofNat,Y0p h]
theorem QtH:∀(n:Nat),(Lib.decDigits n).all Qkq=true∧valL (Lib.decDigits n)=n∧Lib.decDigits n≠ []∧(0<n->(Lib.decDigits n).getD 0 0≠48)∧(n<10->(Lib.decDigits n).length=1)
 |n=>by
  unfold Lib.decDigits
  by_cases h:n<10
  ·rw[dif_pos h];have e:=Qvo (n:=48+n) (by omega);refine⟨?_,?_,by simp,fun h0 h1=>?_,fun _=>rfl⟩
   ·simp only[XC,List.all_nil,Xj];exact QtG (by rw[e];omega)
   ·show 0*10+((UInt8.ofNat (48+n)).toNat-48)=n;rw[e];omega
   ·have:=congrArg UInt8.toNat h1;rw[YW,e] at this;have h48:(48:UInt8).toNat=48:=rfl;omega
  ·rw[dif_neg h];have hlt:n/10<n:=by omega
   have⟨h1,h2,h3,h4,_⟩:=QtH (n/10);have e:=Qvo (n:=48+n%10) (by omega);refine⟨?_,?_,by simp,fun _=>?_,fun I=>absurd I h⟩
   ·rw[List.all_append,h1];simp only[XC,List.all_nil,Xj,Yq];exact QtG (by rw[e];omega)
   ·rw[Qkr,h2,e];omega
   ·have:=h4 (by omega)
    cases G:Lib.decDigits (n/10) with
    |nil=>exact absurd G h3
    |cons x xs=>rw[G] at this;simpa using this
termination_by n=>n
theorem QxD (n:Nat):QlO (Lib.decDigits n)=true:=by
 have⟨h1,h2,h3,h4,h5⟩:=QtH n;unfold QlO;rw[h1];have e:(Lib.decDigits n).isEmpty=false:=by cases G:Lib.decDigits n with|nil=>exact absurd G h3|cons _ _=>rfl
 rw[e]
 by_cases h:n<10
 ·simp[h5 h]
 ·have hb:((Lib.decDigits n).getD 0 0 !=48)=true:=by rw[bne_iff_ne];exact h4 (by omega)
  rw[hb];simp
theorem QtI {u:Bs} {b:UInt8} (I:u≠ []) (h:QlO (u++[b])=true):QlO u=true∧Qkq b=true∧u.getD 0 0≠48:=by
 simp only[QlO,Y3,List.all_append,XC,List.all_nil,Xj] at h;have⟨⟨_,h1,h2⟩,h3⟩:=h;have G:¬(u++[b]).length=1:=by
  cases u with|nil=>exact absurd rfl I|cons _ _=>simp
 have J:(u++[b]).getD 0 0=u.getD 0 0:=by cases u with|nil=>exact absurd rfl I|cons _ _=>simp
 rw[J] at h3;have h4:u.getD 0 0≠48:=by
  simp only[YQ G,YL] at h3;simpa using h3
 refine⟨?_,h2,h4⟩;unfold QlO;rw[h1]
 cases u with
 |nil=>exact absurd rfl I
 |cons x xs=>simp at h4|-;simp[h4]
theorem QtJ {u:Bs} (G:u≠ []) (I:u.all Qkq=true) (h:u.getD 0 0≠48):1<=valL u:=by
 cases u with
 |nil=>exact absurd rfl G
 |cons x xs=>
  simp only[XC,Y3,Qkq,Yk] at I;have hx:x.toNat≠48:=fun e=>h (by simp;exact UInt8.toNat_inj.1 e);have:=Qp7 xs (0*10+(x.toNat-48));show 1<=Qp6 (0*10+(x.toNat-48)) xs;omega
theorem Qch {w:Bs} (h:QlO w=true):w.all Qkq=true∧w≠ []:=by
 simp only[QlO,Y3] at h;refine⟨h.1.2,fun e=>?_⟩;subst e;simp at h
theorem QmZ:∀(n:Nat) (w:Bs),w.length=n->QlO w=true->Lib.decDigits (valL w)=w
 |n,w,hn,h=>by
  rcases List.eq_nil_or_concat w with rfl|⟨u,b,e⟩
  ·simp[QlO] at h
  ·rw[List.concat_eq_append] at e;subst e
   by_cases G:u=[]
   ·subst G;have J:=(Qch h).1;simp only[YC,XC,List.all_nil,Xj,Qkq,Y3,Yk] at J;have e:valL ([]++[b])=b.toNat-48:=by simp[valL,Qp6]
    rw[e,Lib.decDigits,dif_pos (by omega)];show [_]=[b]
    congr 1
    apply UInt8.toNat_inj.1
    rw[Qvo (by have:=b.toNat_lt;omega)];omega
   ·have⟨h1,h2,h3⟩:=QtI G h;have hlen:u.length<n:=by simp at hn;omega
    have O:=QmZ u.length u rfl h1;have hp:=QtJ G (Qch h1).1 h3;simp only[Qkq,Y3,Yk] at h2;rw[Qkr,Lib.decDigits,dif_neg (by omega)];have e1:(valL u*10+(b.toNat-48))/10=valL u:=by omega
    have I:(valL u*10+(b.toNat-48))%10=b.toNat-48:=by omega
    rw[e1,I,O]
    congr 1
    show [_]=[b]
    congr 1
    apply UInt8.toNat_inj.1
    rw[Qvo (by have:=b.toNat_lt;omega)];omega
termination_by n=>n
theorem QxE {w:Bs} (h:QlO w=true) (h2:2<=w.length):10^(w.length-1)<=valL w:=by
 have key:∀(n:Nat) (w:Bs),w.length=n+1->w.all Qkq=true->w.getD 0 0≠48->10^n<=valL w:=by
  intro n
  induction n with
  |zero=>intro w I J G;have:=QtJ (u:=w) (by intro e;subst e;simp at I) J G;simpa using this
  |succ n U=>
   intro w I J G;rcases List.eq_nil_or_concat w with rfl|⟨u,b,e⟩
   ·simp at I
   ·rw[List.concat_eq_append] at e;subst e;simp at I;simp only[List.all_append,Y3] at J;have O:u≠ []:=by intro e;subst e;simp at I
    have Y:(u++[b]).getD 0 0=u.getD 0 0:=by cases u with|nil=>exact absurd rfl O|cons _ _=>simp
    rw[Y] at G;have:=U u (by omega) J.1 G;rw[Qkr,Y0v];omega
 have⟨h3,_⟩:=Qch h;have G:w.getD 0 0≠48:=by
  simp only[QlO,Y3] at h;have:=h.2;rw[YQ (by omega:¬w.length=1),YL] at this;simpa using this
 exact key (w.length-1) w (by omega) h3 G
theorem Qvp {w:Bs} (h:QlO w=true) (hv:valL w<1000000):w.length<=6:=by
 rcases YX w.length 7 with G|G
 ·omega
 ·have:=QxE h (by omega);have h6:10^6<=10^(w.length-1):=Xt (by omega) (by omega);omega
theorem Qq1:∀(w:Bs) (G:Nat),w.all Qkq=true->Qp6 G w<9223372036854775808->Lib.parseUint10 G w=.ok (Qp6 G w)
 |[],G,_,_=>rfl
 |c::r,G,hd,hv=>by
  simp only[XC,Y3] at hd;have hc:=hd.1;simp only[Qkq,Y3,Yk] at hc;have I:Qp6 (G*10+(c.toNat-48)) r<9223372036854775808:=hv;have hle:=Qp7 r (G*10+(c.toNat-48));unfold Lib.parseUint10;rw[Y2 hc,Y1 (by omega),Y1 (by omega)];exact Qq1 r _ hd.2 I
theorem QxF {w:Bs} (h:QlO w=true) (hv:valL w<9223372036854775808):Lib.atoiAll w=.ok (valL w:Int):=by
 have⟨G,I⟩:=Qch h
 cases w with
 |nil=>exact absurd rfl I
 |cons c r=>
  have hc:Qkq c=true:=by simp only[XC,Y3] at G;exact G.1
  simp only[Qkq,Y3,Yk] at hc;unfold Lib.atoiAll;have h1:¬(c.toNat=43∨c.toNat=45):=by omega
  have h2:¬c.toNat=45:=by omega
  have hp:Lib.parseMag (c::r)=.ok (valL (c::r)):=by
   unfold Lib.parseMag;rw[Y1 (by simp)];exact Qq1 _ _ G hv
  have h3:(if c.toNat=43∨c.toNat=45 then r else c::r)=c::r:=Y1 h1;simp only[h3];rw[hp];simp only[h2,not_false_iff,true_and,false_and,Xc];rw[Y1 (by omega)]
theorem QxG (w:Bs):Qyt (tS w)=Qmc w:=by
 have e1:(tS w).data.toList=w:=QfY w;unfold Qyt Qmc;rw[e1]
 by_cases hc:QlO w=true∧valL w<9223372036854775808
 ·rw[Y2 hc,QxF hc.1 hc.2];have:Qne (valL w:Int)=tS w:=by
   unfold Qne Lib.itoa;rw[Y1 (by omega),Y4,QmZ _ w rfl hc.1]
   rfl
  dsimp only;rw[Y1];rintro(h|h)
  ·omega
  ·exact h this
 ·rw[Y1 hc]
  cases ha:Lib.atoiAll w with
  |ok v=>
   by_cases G:v<0∨Qne v≠tS w
   ·simp only[Y2 G]
   ·exfalso;have hv:0<=v:=by have:=fun h=>G (.inl h);omega
    have J:Qne v=tS w:=Decidable.byContradiction fun h=>G (.inr h);have I:w=Lib.decDigits v.toNat:=by
     have:tS (Lib.itoa v)=tS w:=J;have:=QtC this;rw[<-this];unfold Lib.itoa;rw[Y1 (by omega)]
    have hf:=Qoc ha;refine hc ⟨?_,?_⟩
    ·rw[I];exact QxD _
    ·rw[I,(QtH _).2.1];omega
  |_=>rfl
theorem Qq2 {w:Bs} (h:w.length<=6):Qmc w=QcW w:=by
 unfold Qmc QcW
 by_cases hc:QlO w=true
 ·have:=Qp8 w.length w rfl (Qch hc).1;have h6:10^w.length<=10^6:=Xt (by omega) h;rw[Y2 ⟨hc,by omega⟩,Y2 ⟨hc,h⟩]
 ·rw[Y1 (fun h=>hc h.1),Y1 (fun h=>hc h.1)]
theorem Qp9 {w:Bs} {lo hi:Int} (h0:0<=lo) (h1:hi<=999999):inI (Qmc w) lo hi=inI (QcW w) lo hi∧(inI (Qmc w) lo hi=true->Qmc w=QcW w):=by
 by_cases hc:QlO w=true
 ·by_cases hv:valL w<1000000
  ·have hs:=Qvp hc hv;rw[Qq2 hs];exact⟨rfl,fun _=>rfl⟩
  ·have e1:inI (Qmc w) lo hi=false:=by
    unfold Qmc inI;split<;>simp<;>omega
   have G:inI (QcW w) lo hi=false:=by
    have:¬w.length<=6:=fun h=>by
     have:=Qp8 w.length w rfl (Qch hc).1;have h6:10^w.length<=10^6:=Xt (by omega) h;omega
    unfold QcW inI;rw[Y1 (fun h=>this h.2)];simp;omega
   rw[e1,G];exact⟨rfl,fun h=>by cases h⟩
 ·have e1:Qmc w=-1:=by unfold Qmc;rw[Y1 (fun h=>hc h.1)]
  have G:QcW w=-1:=by unfold QcW;rw[Y1 (fun h=>hc h.1)]
  rw[e1,G];exact⟨rfl,fun _=>rfl⟩
theorem QnP (b:UInt8):IntKind.i64.wrap (iB b)=iB b:=by
 have:=Qvl b;exact Qo (by omega) (by omega)
theorem Qvq (b:UInt8) {lo hi:Nat}:inI (iB b) lo hi=(decide (lo<=b.toNat)&&decide (b.toNat<=hi)):=by
 unfold inI iB;rw[YI];simp only[Y3,Yk];omega
theorem QgS (c:UInt8):∀l,(QcS c l).length<=l.length+1
 |[]=>by simp[QcS]
 |b::r=>by
  have G:=QgS c r;unfold QcS;split
  ·simp;omega
  ·split
   ·simp
   ·rename_i h;rw[h] at G;simp at G|-;omega
theorem QxH (c:UInt8) (l:Bs):(QsC (tS l) (tS [c])).1=tS (l.takeWhile (· !=c)):=by
 rw[Qp3]
 by_cases h:c∈l
 ·rw[Y2 h]
 ·rw[Y1 h,Qd8];intro x G;simp only[bne_iff_ne];exact fun e=>h (e▸G)
theorem QtK {t:Bs} {p:UInt8->Bool}:t.all p=(Jc (fun i=>!p (t.getD i 0)) t.length).isNone:=by
 have h:t.any (fun x=>!p x)=(Jc (fun i=>!p (t.getD i 0)) t.length).isSome:=Qgz (p:=fun x=>!p x) (xs:=t);rw[<-Option.not_isSome,<-h];simp[List.not_any_eq_all_not]
theorem QnQ {β:Type} {step:Int->Option (Int⊕β)} {t:Bs} {p:UInt8->Bool} {e d:β} (h1:∀i:Nat,i<t.length->step i=some (if p (t.getD i 0)=true then .inl ((i+1:Nat):Int) else .inr e)) (h2:step t.length=some (.inr d)):lp step 0=some (if t.all p=true then d else e):=by
 rw[J5 t.length (fun i=>!p (t.getD i 0)) (fun _=>e) d (fun i hi=>?_) h2,QtK]
 ·cases Jc (fun i=>!p (t.getD i 0)) t.length<;>simp
 ·rw[h1 i hi]
  cases p (t.getD i 0)<;>rfl
theorem QhK (w:Bs):(tS w==(⟨#[]⟩:Bt))=w.isEmpty:=by
 have:(tS w==tS [])=(w==[]):=Jk w [];refine this.trans ?_
 cases w<;>rfl
theorem Qvr {l:Bs} (h:l.length<=1000000):Qb0 (tS l)=some (match Qe9 l with|some ws=>(ws.map tS,true)|none=>([],false)):=by
 have I:(⟨#[35]⟩:Bt)=tS [35]:=rfl;have G:(⟨#[32]⟩:Bt)=tS [32]:=rfl;have hs:(stripL l).length<=1000000:=Xu (XL (Xy _)) h;have U:(QsC (tS l) (tS [35])).1=tS (stripL l):=QxH 35 l;unfold Qb0 JL ZK;rw[I,G,Qd (by simp;omega),Qa,U];unfold Qe9;generalize stripL l=t at hs;rw[QnQ (t:=t) (p:=okB) (e:=.inl ()) (d:=.inr ()) (fun i hi=>?_) (by rw[Y1 (by simp)]),Qa]
 ·by_cases ho:t.all okB=true
  ·rw[Y2 ho];dsimp only;have O:QE ((QcS 32 t).map tS)=some ((QaD t).map tS):=by
    have e:QE=QzA Jv:=rfl;rw[e,Qww (pm:=Jv) (p:=fun x=>x==(⟨#[]⟩:Bt)) (fun x _=>rfl) (by have:=QgS 32 t;simp;omega),List.filter_map];refine congrArg (fun q=>some ((List.filter q (QcS 32 t)).map tS)) (funext fun w=>?_);simp only[Function.comp,QhK]
   have hl:(QaD t).length<=1000001:=by
    have h1:=QgS 32 t;have h2:(QaD t).length<=(QcS 32 t).length:=XA _ _;omega
   have hc:QJ ((QaD t).map tS)=some ((QaD t).any fun w=>decide (w.length>24)):=by
    have e:QJ=Qwu Qak:=rfl;rw[e,QmX (pm:=Qak) (p:=fun x:Bt=>decide (((x.size:Nat):Int)>24)) (fun x _=>rfl) (by simp;omega),Y00]
    congr 2
    funext w
    simp only[Function.comp,QaQ];rw[Xk];omega
   rw[Qd (by simp;omega),Qa,QnN,O,Qa,hc];have Y:Qy6 (QaD t)=!(decide ((((QaD t).map tS).length:Int)>8)||(QaD t).any fun w=>decide (w.length>24)):=by
    unfold Qy6;rw[YI];simp only[Y3,Yk,Yb,YF,XF,decide_eq_false_iff_not,XR,Ya]
    constructor
    ·rintro⟨a,b⟩;exact⟨by omega,fun x J=>by have:=b x J;omega⟩
    ·rintro⟨a,b⟩;exact⟨by omega,fun x J=>by have:=b x J;omega⟩
   rw[Y]
   cases h8:decide ((((QaD t).map tS).length:Int)>8)
   ·rw[Qe rfl,Qa,YL]
    cases (QaD t).any fun w=>decide (w.length>24)
    ·rw[Y1 (by decide),Y2 ⟨ho,rfl⟩]
    ·rw[Y2 rfl,Y1 (by simp)]
   ·rw[QL (by decide),Qa,Y2 (by simp),Y1 (by simp)]
  ·rw[Y1 ho,Y1 fun h=>ho h.1]
 ·have e:Qv (iB (t.getD i 0)) 32 126=some (okB (t.getD i 0)):=congrArg some (Qvq (lo:=32) (hi:=126) (t.getD i 0));rw[Y2 (by simp;omega),Qd (by simp;omega),Y4,QfH hi,QnP,Qk hi (by omega),e,Qa]
  cases okB (t.getD i 0)<;>rfl
def nmB (b:UInt8):Bool:=(decide (97<=b.toNat)&&decide (b.toNat<=122))||(decide (48<=b.toNat)&&decide (b.toNat<=57))||b==45
def Qc6 (w:Bs):Bool:=inI w.length 1 8&&w.all nmB
theorem QtL {w:Bs} (h:w.length<=1000000):Qby (tS w)=some (Qc6 w):=by
 unfold Qby;rw[QnQ (t:=w) (p:=nmB) (e:=.inl ()) (d:=.inr ()) (fun i hi=>?_) (by rw[Y1 (by simp)]),Qa]
 ·have e:Qv ((w.length:Nat):Int) 1 8=some (inI w.length 1 8):=rfl;unfold Qc6
  by_cases G:w.all nmB=true
  ·rw[Y2 G,G,Xj];dsimp only;rw[QaQ,e,Qa]
  ·rw[Y1 G,X8.2 G,XV]
 ·rw[Y2 (by simp;omega),Qd (by simp;omega),Y4,QfH hi,Qk hi (by omega)];have I:(iB (w.getD i 0) !=45)=!(w.getD i 0==45):=by
   have:(iB (w.getD i 0)==45)=(w.getD i 0==45):=QmY (b:=45);simp only[bne,this]
  have e:(((iB (w.getD i 0) !=45)&&(decide (iB (w.getD i 0)<97)||decide (iB (w.getD i 0)>122)))&&(decide (iB (w.getD i 0)<48)||decide (iB (w.getD i 0)>57)))=!nmB (w.getD i 0):=by
   rw[I];generalize w.getD i 0=b;unfold nmB iB
   cases b==45
   ·rw[YI];simp;omega
   ·simp
  rw[e]
  cases nmB (w.getD i 0)<;>rfl
theorem Qlo (a lo hi:Int):QO a lo hi=some (inI a lo hi):=rfl
theorem Qlp (a lo hi:Int):Qv a lo hi=some (inI a lo hi):=rfl
theorem Qjh {w:Bs} (h:w.length<=1000000):Zr (tS w)=some (Qc6 w):=by
 unfold Zr;rw[Qlo,Qa,QaQ];unfold Qc6
 cases h1:inI (w.length:Int) 1 8
 ·rfl
 rw[Y1 (by decide)];rw[QnQ (t:=w) (p:=nmB) (e:=.inl ()) (d:=.inr ()) (fun i hi=>?_) (by rw[Y1 (by simp)]),Qa]
 ·rw[Yq]
  cases w.all nmB<;>rfl
 ·rw[Y2 (by simp;omega),Qd (by omega),Y4,QfH hi,Qk hi (by omega),QnP,Qlo,Qlo,Qa,Qd (fun _=>by omega)];have G:(iB (w.getD i 0) !=45)=!(w.getD i 0==45):=by
   have:(iB (w.getD i 0)==45)=(w.getD i 0==45):=QmY (b:=45);simp only[bne,this]
  have e:(!inI (iB (w.getD i 0)) 97 122&& !inI (iB (w.getD i 0)) 48 57&&(iB (w.getD i 0) !=45))=!nmB (w.getD i 0):=by
   rw[G,show inI (iB (w.getD i 0)) 97 122=_ from Qvq (lo:=97) (hi:=122) _,show inI (iB (w.getD i 0)) 48 57=_ from Qvq (lo:=48) (hi:=57) _];unfold nmB;simp only[Bool.not_or]
  rw[Qtx,Qa,Qd (fun _=>by omega)];have I:(!inI (iB (w.getD i 0)) 97 122&& !(!inI (iB (w.getD i 0)) 97 122&&inI (iB (w.getD i 0)) 48 57)&&(iB (w.getD i 0) !=45))=!nmB (w.getD i 0):=by
   rw[<-e];cases inI (iB (w.getD i 0)) 97 122<;>rfl
  rw[I]
  cases nmB (w.getD i 0)<;>rfl
theorem QtM {l:Bs} {i:Nat} (h:i<l.length):l.drop i=l.getD i 0::l.drop (i+1):=by
 rw[Y0b h,Y0,Y6 h];rfl
theorem Qwx (l:Bs) (i j:Nat):(tS l).extract i j=tS ((l.take j).drop i):=QqZ (by rw[QmW,QfY,QfY])
def QoZ (c:UInt8):Bs->Bs->List Bs
 |w,[]=>[w]
 |w,b::r=>if b=c then w::QoZ c [] r else QoZ c (w++[b]) r
theorem QnR (c:UInt8):∀(r w:Bs),c∉w->QoZ c w r=QcS c (w++r)
 |[],w,h=>by rw[QoZ,XJ,Qes h]
 |b::r,w,h=>by
  rw[QoZ]
  by_cases hb:b=c
  ·subst hb;rw[Y2 rfl,QfG h,QnR b r [] (by simp),YC]
  ·rw[Y1 hb,QnR c r (w++[b]) (by simp[h,YV hb])];simp
theorem Qq3 {l:Bs} (c:UInt8) (h:l.length<=1000000):JI (tS l) (iB c)=some ((QcS c l).map tS):=by
 unfold JI;have key:∀(k i j:Nat) (out:List Bs),i+k=l.length->j<=i->out.length+k<=l.length->
   ∃x:Nat×Int×List Bt,lp (σ:=List Bt×Int×Int) (β:=(Nat×Int×(List Bt))) (fun s1=>
(if(decide (s1.2.2<(((tS l).size:Nat):Int)))=true then
 gd ((0:Int)<=s1.2.2∧s1.2.2<(((tS l).size:Nat):Int))<|
(if((J9 (tS l) s1.2.2.toNat)==iB c)=true then
 gd ((0:Int)<=s1.2.1∧s1.2.1<=s1.2.2∧s1.2.2<=(((tS l).size:Nat):Int))<|
 gd (((s1.1.length)+(([((tS l).extract s1.2.1.toNat s1.2.2.toNat)]:List Bt).length))*(16+1)<=70368744177664)<|
 some (.inl ((s1.1++([((tS l).extract s1.2.1.toNat s1.2.2.toNat)]:List Bt)),IntKind.i64.wrap (s1.2.2+1),IntKind.i64.wrap (s1.2.2+1)))
else
 some (.inl (s1.1,s1.2.1,IntKind.i64.wrap (s1.2.2+1))))
else
 some (.inr (s1.1.length,s1.2.1,s1.1)))) (out.map tS,(j:Int),(i:Int))=some x∧x.1=x.2.2.length∧(x.1<=l.length)∧(∃q:Nat,x.2.1=(q:Int)∧q<=l.length∧x.2.2++[tS (l.drop q)]=(out++QoZ c ((l.take i).drop j) (l.drop i)).map tS):=by
  intro k
  induction k with
  |zero=>
   intro i j out hi hj ho;have hi:i=l.length:=by omega
   subst hi;refine⟨(out.length,(j:Int),out.map tS),Jj ?_,by simp,by dsimp only;omega,j,rfl,hj,?_⟩
   ·rw[Y1 (by simp)];simp
   ·rw[List.drop_length,QoZ,X1];simp
  |succ k ih=>
   intro i j out hi hj ho;have G:i<l.length:=by omega
   have hb:(iB (l.getD i 0)==iB c)=(l.getD i 0==c):=QmY;have I:IntKind.i64.wrap ((i:Int)+1)=((i+1:Nat):Int):=Qk G (by omega);rw[QtM G,QoZ]
   by_cases hc:l.getD i 0=c
   ·rw[Y2 hc];have⟨x,h1,h2⟩:=ih (i+1) (i+1) (out++[(l.take i).drop j]) (by omega) (Yf _) (by simp;omega);refine⟨x,(Qac ?_).trans h1,h2.1,h2.2.1,?_⟩
    ·dsimp only;rw[Y2 (by simp;omega),Qd (by simp;omega),Y4,QfH G,hb,Y2 (X7.2 hc),Qd (by simp;omega),Qd (by simp;omega),Y4,Qwx,I];simp
    ·have⟨q,J,U,O⟩:=h2.2.2;refine⟨q,J,U,?_⟩;rw[O];have:(l.take (i+1)).drop (i+1)=[]:=by simp
     rw[this];simp
   ·rw[Y1 hc];have⟨x,h1,h2⟩:=ih (i+1) j out (by omega) (by omega) (by omega);have Y:(l.getD i 0==c)=false:=by simpa using hc
    refine⟨x,(Qac ?_).trans h1,h2.1,h2.2.1,?_⟩
    ·dsimp only;rw[Y2 (by simp;omega),Qd (by simp;omega),Y4,QfH G,hb,Y,Y1 (by simp),I]
    ·have⟨q,J,U,O⟩:=h2.2.2;refine⟨q,J,U,?_⟩;rw[O];have:(l.take (i+1)).drop j=(l.take i).drop j++[l.getD i 0]:=by
      rw[XE,List.drop_append_of_le_length (by simp;omega),Y0,Y6 G]
      rfl
     rw[this]
 have⟨x,e,h1,h2,q,J,U,O⟩:=key l.length 0 0 [] (by omega) (Yf _) (by simp);refine(congrArg (fun m=>bd m _) e).trans ?_;rw[Qa,J,Qd (by simp;omega),Qd (by simp;omega),Y4,Y4,Qwx,QaQ,X1,O];rw[List.take_zero,Y09,YC,QnR _ _ _ (by simp),YC]
 rfl
theorem Qq4 {xs:List Bt} {a:Bt} (h:xs.length<=1048576):QaH xs a=some (xs.any (· ==a)):=by
 unfold QaH;rw[J5 xs.length (fun i=>xs.getD i default==a) (fun i=>.inl ()) (.inr ()) (fun i hi=>?_) (by rw[Y1 (by simp)]),Qa,Qgz]
 ·cases Jc (fun i=>xs.getD i default==a) xs.length<;>rfl
 ·rw[Y2 (by simp;omega),Qd (by omega),Y4,Qk hi (by omega)]
  cases xs.getD i default==a<;>rfl
theorem Qwy {xs:List Bt} {a:Bt} (h:xs.length<=1048576):Qr xs a=some (xs.any (· ==a)):=by
 unfold Qr ZY;rw[J5 xs.length (fun i=>xs.getD i default==a) (fun i=>.inl (i:Int)) (.inr ()) (fun i hi=>?_) (by rw[Y1 (by simp)]),Qa,Qgz]
 ·cases Jc (fun i=>xs.getD i default==a) xs.length
  ·rfl
  ·simp
 ·have e:(a==xs.getD i default)=(xs.getD i default==a):=by rw[YI];simp only[X7];exact eq_comm
  rw[Y2 (by simp;omega),Qd (by omega),Y4,Qk hi (by omega),e]
  cases xs.getD i default==a<;>rfl
def heads:List Bt:=[⟨#[100,111,111,114]⟩,⟨#[104,111,115,116]⟩,⟨#[110,97,116]⟩,⟨#[112,101,101,114]⟩,⟨#[112,111,114,116]⟩,⟨#[114,111,117,116,101]⟩,⟨#[114,117,108,101]⟩,⟨#[117,115,101,114]⟩]
def Qvs (G:List Bt) (i:Nat):Bool:=!(heads.any (· ==G.getD i default))||(decide (0<i)&& !(bsl (G.getD (i-1) default) (G.getD i default)))
def Qlq (G:List Bt):Bool:=(Jc (Qvs G) G.length).isNone
def QxI (w:Bs):Bool:=(tS w==⟨#[97,108,108]⟩)||(tS w==⟨#[110,111,110,101]⟩)
def Qlr (w:Bs):Bool:=QxI w||Qlq ((QcS 44 w).map tS)
theorem Qwz {G:List Bt} {i:Nat} (hi:i<G.length) (h:G.length<=1048576):(!(heads.any (· ==G.getD i default))||(decide ((i:Int)>0)&& !(bsl (G.getD ((IntKind.i64.wrap ((i:Int) -1)).toNat) default) (G.getD i default))))=Qvs G i:=by
 unfold Qvs
 cases i with
 |zero=>simp
 |succ i=>
  rw[QkL hi (by omega) (by omega),Y4];have:decide (((i+1:Nat):Int)>0)=decide (0<i+1):=by simp<;>omega
  rw[this]
theorem QtN {i:Nat} {n:Nat} {b:Bool} (hi:i<n) (h:n<=1048576):(decide ((i:Int)>0))=true->((!b)=false->((0:Int)<=IntKind.i64.wrap ((i:Int) -1)∧IntKind.i64.wrap ((i:Int) -1)<((n:Nat):Int))):=by
 intro G _;have G:=Ym G;rw[Qo (by omega) (by omega)];omega
theorem Qqa {w:Bs} (h:w.length<=1000000):Qbj (tS w)=some (if QxI w=true then([tS w],true) else if Qlq ((QcS 44 w).map tS)=true then((QcS 44 w).map tS,true) else([],false)):=by
 have I:(⟨#[44]⟩:Bt)=tS [44]:=rfl;unfold Qbj ZK;show(if QxI w=true then _ else _)=_
 by_cases ha:QxI w=true
 ·rw[Y2 ha,Y2 ha]
 rw[Y1 ha,Y1 ha,I,Qd (by simp;omega),Qa,QnN];have hl:((QcS 44 w).map tS).length<=1048576:=by have:=QgS 44 w;simp;omega
 unfold Qlq;generalize (QcS 44 w).map tS=G at hl;rw[J5 G.length (Qvs G) (fun _=>.inl ()) (.inr ()) (fun i hi=>?_) (by rw[Y1 (by simp)]),Qa]
 ·cases Jc (Qvs G) G.length<;>rfl
 ·rw[Y2 (by simp;omega),Qd (by omega),Y4,Qk hi (by omega),show Qr [_,_,_,_,_,_,_,_] (G.getD i default)=_ from Qwy (xs:=heads) (by decide),Qa,Qd (QtN hi hl),Qwz hi hl]
  cases Qvs G i<;>rfl
theorem QtO {w:Bs} (h:w.length<=1000000):Qcy (tS w)=some (Qlr w):=by
 unfold Qcy;rw[Qqa h,Qa];unfold Qlr
 cases QxI w
 ·cases Qlq ((QcS 44 w).map tS)<;>rfl
 ·rfl
theorem QtP {w:Bs} (h:w.length<=1000000):QbX (tS w)=some (Qlr w):=by
 unfold QbX;show(if QxI w=true then _ else _)=_;unfold Qlr
 by_cases ha:QxI w=true
 ·rw[Y2 ha,ha];rfl
 rw[Y1 ha,X8.2 ha,YL];have hl:((QcS 44 w).map tS).length<=1048576:=by have:=QgS 44 w;simp;omega
 rw[show JI (tS w) 44=_ from Qq3 44 h,Qa];unfold Qlq;generalize (QcS 44 w).map tS=G at hl;rw[J5 G.length (Qvs G) (fun _=>.inl ()) (.inr ()) (fun i hi=>?_) (by rw[Y1 (by simp)]),Qa]
 ·cases Jc (Qvs G) G.length<;>rfl
 ·rw[Y2 (by simp;omega),show Qcl=some heads from rfl,Qa,Qd (by omega),Y4,Qq4 (xs:=heads) (by decide),Qa,Qd (QtN hi hl),Qd (fun _ _=>by omega),Qk hi (by omega),Qwz hi hl]
  cases Qvs G i<;>rfl
theorem QtQ (n:Nat) (b:UInt8) (r:Bs):Qp6 n (b::r)=Qp6 (n*10+(b.toNat-48)) r:=by
 unfold Qp6;rw[Y0t]
theorem Qy7 {n:Int} (h1:0<=n) (h2:n<=255):IntKind.u8.wrap n=n:=by
 have e1:IntKind.bits .u8=8:=rfl;have G:IntKind.signed .u8=false:=rfl;unfold IntKind.wrap;simp only[e1,G,YN];rw[Int.emod_eq_of_lt h1 (by omega)]
 rfl
theorem QtR (b:UInt8):inI (iB b) 48 57=Qkq b:=Qvq (lo:=48) (hi:=57) b
theorem Qo0 (w:Bs) (h:w.length<=1000000):ZO (tS w)=some (QcW w):=by
 unfold ZO;rw[Qlo,Qa,QaQ];unfold QcW;rcases XD (inI (w.length:Int) 1 6) with h1|h1
 ·have hr:=QgA.1 h1;have h0:J9 (tS w) 0=iB (w.getD 0 0):=QfH (by omega);have a1:(iB (w.getD 0 0)==48)=(w.getD 0 0==48):=QmY (b:=48);rw[h1,Qd (fun _ _=>by omega),h0,a1,Y0d,YL]
  by_cases O:(decide ((w.length:Int)>1)&&(w.getD 0 0==48))=true
  ·rw[Y2 O,Y1];rintro⟨hc,_⟩;simp only[QlO,Y3,YE,Yk,bne_iff_ne,X7] at hc O;rcases hc.2 with h|h
   ·omega
   ·exact h O.2
  rw[Y1 O];have Y:QlO w=w.all Qkq:=by
   unfold QlO;have e1:w.isEmpty=false:=by cases w with|nil=>simp at hr|cons _ _=>rfl
   have e2:(decide (w.length=1)||w.getD 0 0 !=48)=true:=by
    rcases YX 1 w.length with hl|hl
    ·have:decide ((w.length:Int)>1)=true:=Yd (by omega);rw[this,Yq] at O;have:(w.getD 0 0 !=48)=true:=by simpa[bne] using O
     rw[this,Y0g]
    ·rw[Yd (by omega),XY]
   rw[e1,e2,Xj];rfl
  have key:∀(k i v:Nat),i+k=w.length->v<10^i->lp (σ:=Int×Int) (β:=(Unit⊕Int)) (fun G=>
 (if(decide (G.2<((w.length:Nat):Int)))=true then
 gd ((0:Int)<=G.2∧G.2<((w.length:Nat):Int))<|
 bd (QO (IntKind.i64.wrap (J9 (tS w) G.2.toNat)) 48 57) fun x8=>
 (if(!x8)=true then
 some (.inr (.inl ()))
 else
 gd ((0:Int)<=G.2∧G.2<((w.length:Nat):Int))<|
 some (.inl (IntKind.i64.wrap ((IntKind.i64.wrap (G.1*10))+(IntKind.i64.wrap (IntKind.u8.wrap ((J9 (tS w) G.2.toNat) -48)))),IntKind.i64.wrap (G.2+1))))
 else
 some (.inr (.inr G.1)))) ((v:Int),(i:Int))=some (if(w.drop i).all Qkq=true then .inr ((Qp6 v (w.drop i):Nat):Int) else .inl ()):=by
   intro k
   induction k with
   |zero=>
    intro i v hi hv;have hi:i=w.length:=by omega
    subst hi;rw[Jj (b:=.inr (v:Int)) (by rw[Y1 (by simp)])];rw[List.drop_length];rfl
   |succ k ih=>
    intro i v hi hv;have J:i<w.length:=by omega
    have hi6:10^i<=10^6:=Xt (by omega) (by omega);rw[QtM J,XC,QtQ];generalize a3:w.getD i 0=c;have U:J9 (tS w) ((i:Int)).toNat=iB c:=by rw[Y4,QfH J,a3]
    cases I:Qkq c
    ·rw[YN,Y1 (by decide)];refine Jj ?_;dsimp only;rw[Y2 (by simp;omega),Qd (by omega),U,QnP,Qlo,Qa,QtR,I,Y2 (by rfl)]
    ·have a4:=I;simp only[Qkq,Y3,Yk] at a4;rw[Yq,<-ih (i+1) (v*10+(c.toNat-48)) (by omega) (by rw[Y0v];omega)];refine Qac ?_;dsimp only;rw[Y2 (by simp;omega),Qd (by omega),U,QnP,Qlo,Qa,QtR,I,Y1 (by decide),Qd (by omega),Qk J (by omega)];have e1:IntKind.u8.wrap (iB c-48)=((c.toNat-48:Nat):Int):=by
      unfold iB;rw[Qy7 (by omega) (by omega)];omega
     have e2:IntKind.i64.wrap ((v:Int)*10)=(v:Int)*10:=Qo (by omega) (by omega);rw[e1,e2,Qo (n:=((c.toNat-48:Nat):Int)) (by omega) (by omega),Qo (by omega) (by omega)];simp
  have k0:=key w.length 0 0 (by omega) (by decide);refine(congrArg (fun m=>bd m _) k0).trans ?_;rw[Qa,Y09,Y]
  by_cases I:w.all Qkq=true
  ·rw[Y2 I,Y2 ⟨I,by omega⟩];rfl
  ·rw[Y1 I,Y1 fun h=>I h.1]
 ·rw[h1,Qd (fun _ h=>by cases h),Y2 (by rfl),Y1];rintro⟨hc,hl⟩;have h1:=fun h=>X8.1 h1 (QgA.2 h);refine h1 ?_;have⟨_,a2⟩:=Qch hc;have:w.length≠0:=fun e=>a2 (Yy e);omega
theorem QhL {w:Bs} {lo hi:Int} (h:w.length<=1000000):Ze (tS w) lo hi=some (isN w lo hi):=by
 unfold Ze;rw[Qo0 w h,Qa,Qlo,Qa]
 rfl
theorem Qls {w:Bs} (h:w.length<=1000000):JQ (tS w)=some (Qmc w):=by
 unfold JQ;rw[Qd (by simp;omega),QxG]
theorem Qq5 {w:Bs} (h:w.length<=1000000):QaK (tS w)=some (QcW w):=by
 unfold QaK;rw[QaQ]
 by_cases h6:w.length<=6
 ·rw[Y1 (by simp;omega),Qls h,Qa,Qq2 h6]
 ·rw[Y2 (by simp;omega)];unfold QcW;rw[Y1 fun h=>h6 h.2]
theorem QzT {w:Bs} {lo hi:Int} (h:w.length<=1000000):Qb2 (tS w) lo hi=some (isN w lo hi):=by
 unfold Qb2;rw[Qq5 h,Qa,Qlp,Qa]
 rfl
def QsA (c:UInt8) (w:Bs):Option (Bs×Bs):=match QcS c w with
 |[a,b]=>some (a,b)
 |_=>none
def ZQ (w:Bs):Int:=match QsA 46 w with
 |some (a,b)=>if isN a 0 255=true∧isN b 0 255=true then 256*QcW a+QcW b else-1
 |none=>-1
theorem Qlt {c:UInt8} {w a b:Bs} (h:QsA c w=some (a,b)):QcS c w=[a,b]:=by
 unfold QsA at h;split at h
 ·rename_i e;simp only[Y9,YZ] at h;rw[e,h.1,h.2]
 ·cases h
theorem Qfa (c:UInt8):∀(l x:Bs),x∈QcS c l->x.length<=l.length
 |[],x,h=>by simp[QcS] at h;simp[h]
 |b::r,x,h=>by
  unfold QcS at h;split at h
  ·rcases Ye.1 h with rfl|h
   ·simp
   ·have:=Qfa c r x h;simp;omega
  ·split at h
   ·simp at h;subst h;simp
   ·rename_i w ws e;rcases Ye.1 h with rfl|h
    ·have:=Qfa c r w (by rw[e];simp);simp;omega
    ·have:=Qfa c r x (by rw[e];simp[h]);simp;omega
theorem Qq6 {c:UInt8} {w a b:Bs} (h:QsA c w=some (a,b)):a.length<=w.length∧b.length<=w.length:=by
 have e:=Qlt h;exact⟨Qfa c w a (by rw[e];simp),Qfa c w b (by rw[e];simp)⟩
theorem Qq7 {c:UInt8} {l:Bs}:QsA c l=if c∈l∧c∉l.drop ((l.takeWhile (· !=c)).length+1) then some (l.takeWhile (· !=c),l.drop ((l.takeWhile (· !=c)).length+1)) else none:=by
 by_cases hc:c∈l
 ·have⟨h1,h2⟩:=Qko hc;generalize l.takeWhile (· !=c)=a at h1 h2;generalize l.drop (a.length+1)=r at h1;subst h1;unfold QsA;rw[QfG h2]
  by_cases G:c∈r
  ·rw[Y1 (fun h=>h.2 G)];have⟨h3,h4⟩:=Qko G;rw[h3,QfG h4]
   cases hs:QcS c (List.drop ((List.takeWhile (fun x=>x !=c) r).length+1) r) with
   |nil=>exact absurd hs (QnM _ _)
   |cons x xs=>rfl
  ·rw[Y2 ⟨hc,G⟩,Qes G]
 ·rw[Y1 fun h=>hc h.1];unfold QsA;rw[Qes hc]
theorem Qfb {w:Bs} {lo hi:Int} (h:isN w lo hi=true):lo<=QcW w∧QcW w<=hi:=QgA.1 h
theorem Qlu (w:Bs):-1<=ZQ w∧ZQ w<=65535:=by
 unfold ZQ;split
 ·split
  ·rename_i h;have h1:=Qfb h.1;have h2:=Qfb h.2;omega
  ·omega
 ·omega
theorem QtS {c:UInt8} {w:Bs} (h:QsA c w=none):(QcS c w).length≠2:=by
 unfold QsA at h;split at h
 ·cases h
 ·rename_i hn;intro hl
  match hs:QcS c w,hl with
  |[a,b],_=>exact hn a b hs
theorem Qji {w:Bs} (h:w.length<=1000000):Za (tS w)=some (ZQ w):=by
 unfold Za;rw[show JI (tS w) 46=_ from Qq3 46 h,Qa];unfold ZQ
 cases hc:QsA 46 w with
 |none=>
  have hn:=QtS hc;have e:((((QcS 46 w).map tS).length:Int) !=2)=true:=by simp;omega
  rw[e,Qd (fun h=>by cases h),QL (by decide),Qa];simp only[XY];rw[Qd (fun h=>by cases h),QL (by decide),Qa,Y2 (by simp)]
 |some p=>
  have⟨a,b⟩:=p;have e:=Qlt hc;have⟨l1,l2⟩:=Qq6 hc;rw[e];have G:((([a,b].map tS).length:Int) !=2)=false:=by rfl
  have J:([a,b].map tS).getD 0 default=tS a:=rfl;have I:([a,b].map tS).getD 1 default=tS b:=rfl;have hl:(([a,b].map tS).length:Int)=2:=rfl;rw[G,J,I,Qd (fun _=>by rw[hl];decide),Qe rfl,QhL (by omega),Qa,YL,QhL (by omega),Qd (fun _=>by rw[hl];decide),Qkn,Qa];dsimp only
  cases ha:isN a 0 255
  ·simp
  ·cases hb:isN b 0 255
   ·simp
   ·have h1:=Qfb ha;have h2:=Qfb hb;have e1:IntKind.i64.wrap (256*QcW a)=256*QcW a:=Qo (by omega) (by omega);rw[Y1 (by decide),Qd (by rw[hl];decide),Qo0 a (by omega),Qa,Qd (by rw[hl];decide),Qo0 b (by omega),Qa,e1,Qo (by omega) (by omega),Y2 ⟨rfl,rfl⟩]
theorem Qo1 {w:Bs} {c:UInt8} (hc:c∈w) (G:Qkq c=false):Qmc w=-1:=by
 unfold Qmc;rw[Y1];rintro⟨h,_⟩;have:=Yb.1 (Qch h).1 c hc;rw[G] at this;cases this
theorem Qjj {w:Bs} (h:w.length<=1000000):JR (tS w)=some (ZQ w):=by
 have J:(⟨#[46]⟩:Bt)=tS [46]:=rfl;unfold JR JL;rw[J,Qd (by simp;omega),Qa,Qp3];unfold ZQ;rw[Qq7]
 by_cases hc:(46:UInt8)∈w
 ·rw[Y2 hc];have I:(w.takeWhile (· !=46)).length<=w.length:=XL (Xy _);generalize w.takeWhile (· !=46)=a at I;have G:(w.drop (a.length+1)).length<=w.length:=by rw[Y0a];omega
  generalize w.drop (a.length+1)=b at G;dsimp only;rw[Qls (by omega),Qa,Qls (by omega),Qa,Qlp,Qlp,Qe (by rfl),Qa,Y0d,YL,Qkn,Qa];have⟨p1,U⟩:=Qp9 (w:=a) (lo:=0) (hi:=255) (by decide) (by decide);have⟨Y,O⟩:=Qp9 (w:=b) (lo:=0) (hi:=255) (by decide) (by decide)
  by_cases hb:(46:UInt8)∈b
  ·rw[Y1 (show ¬((46:UInt8)∈w∧(46:UInt8)∉b) from fun h=>h.2 hb)];have:inI (Qmc b) 0 255=false:=by rw[Qo1 hb (by decide)];decide
   rw[this,XV,Y2 (by simp)]
  ·rw[Y2 (show(46:UInt8)∈w∧(46:UInt8)∉b from⟨hc,hb⟩)];dsimp only;unfold isN;rw[<-p1,<-Y]
   cases ha:inI (Qmc a) 0 255
   ·simp
   ·cases hb:inI (Qmc b) 0 255
    ·simp
    ·have h1:=QgA.1 ha;have h2:=QgA.1 hb;have e1:IntKind.i64.wrap (256*Qmc a)=256*Qmc a:=Qo (by omega) (by omega);rw[Y1 (by decide),Y2 ⟨rfl,rfl⟩,<-U ha,<-O hb,e1,Qo (by omega) (by omega)]
 ·rw[Y1 hc,Y1 fun h=>hc h.1];dsimp only;rw[Qls h,Qa,Qls (by simp),Qa,QL (by decide),Qa,XN,XY,QL (by decide),Qa,XY,Y2 rfl]
def Qev (w:Bs):Option (Int×Nat):=match QsA 47 w with
 |some (a,b)=>if 0<=ZQ a∧isN b 0 16=true∧(ZQ a).toNat%2^(16-(QcW b).toNat)=0 then some (ZQ a,(QcW b).toNat) else none
 |none=>none
theorem QhM {w:Bs} {a:Int} {n:Nat} (h:Qev w=some (a,n)):0<=a∧a<=65535∧n<=16∧a.toNat%2^(16-n)=0:=by
 unfold Qev at h;split at h
 ·split at h
  ·rename_i h1;simp only[Y9,YZ] at h;obtain⟨rfl,rfl⟩:=h;have:=Qfb h1.2.1;exact⟨h1.1,(Qlu _).2,by omega,h1.2.2⟩
  ·cases h
 ·cases h
theorem QxJ {n:Nat} (h:n<=16):Qda (n:Int)=some ((2^(16-n):Nat):Int):=by
 unfold Qda;have key:∀(k m v:Nat),m+k=16->v*2^k<=65536->lp (σ:=Int×Int) (β:=(Int)) (fun s1=>
(if(decide (s1.2<16))=true then
 some (.inl (IntKind.i64.wrap (s1.1*2),IntKind.i64.wrap (s1.2+1)))
else
 some (.inr s1.1))) ((v:Int),(m:Int))=some ((v*2^k:Nat):Int):=by
  intro k
  induction k with
  |zero=>
   intro m v hm hv;refine Jj ?_;dsimp only;rw[Y1 (by simp;omega)];simp
  |succ k I=>
   intro m v hm hv;rw[Y0v] at hv;have e:v*2^(k+1)=(v*2)*2^k:=by rw[Y0v,Xw (2^k),Nat.mul_assoc]
   have hle:v*2<=(v*2)*2^k:=Nat.le_mul_of_pos_right _ (Nat.pow_pos (by decide));have G:(v*2)*2^k<=65536:=by rw[Nat.mul_assoc,Xw 2];exact hv
   rw[e,<-I (m+1) (v*2) (by omega) G];refine Qac ?_;dsimp only;rw[Y2 (by simp;omega),Qo (by omega) (by omega),Qo (by omega) (by omega)];simp
 have:=key (16-n) n 1 (by omega) (by rw[Y0f];exact Xt (n:=2) (j:=16) (by decide) (by omega));refine(congrArg (fun m=>bd m _) this).trans ?_;rw[Qa,Y0f]
theorem Qq8 (a b:Nat):((a:Int).tmod (b:Int) !=0)=!decide (a%b=0):=by
 have:(a:Int).tmod (b:Int)=((a%b:Nat):Int):=rfl;rw[this]
 by_cases h:a%b=0
 ·rw[h];rfl
 ·rw[YQ h];simp;omega
theorem Qq9 (k:Nat):((2^k:Nat):Int)≠0:=by
 have:0<2^k:=Nat.pow_pos (by decide);omega
theorem Qo2 {w:Bs} (h:w.length<=1000000):Zs (tS w)=some (match Qev w with|some (a,n)=>(a,((2^(16-n):Nat):Int))|none=>(-1,0)):=by
 unfold Zs;rw[show JI (tS w) 47=_ from Qq3 47 h,Qa];unfold Qev
 cases hc:QsA 47 w with
 |none=>
  have hn:=QtS hc;have e:((((QcS 47 w).map tS).length:Int) !=2)=true:=by simp;omega
  rw[e,Qd (fun h=>by cases h),QL (by decide),Qa];simp only[XY];rw[Qd (fun h=>by cases h),QL (by decide),Qa,Y2 (by simp)]
 |some p=>
  have⟨a,b⟩:=p;have e:=Qlt hc;have⟨l1,l2⟩:=Qq6 hc;rw[e];have I:((([a,b].map tS).length:Int) !=2)=false:=by rfl
  have J:([a,b].map tS).getD 0 default=tS a:=rfl;have U:([a,b].map tS).getD 1 default=tS b:=rfl;have hl:(([a,b].map tS).length:Int)=2:=rfl;rw[I,J,U,Qd (fun _=>by rw[hl];decide),Qe rfl,Qji (by omega),Qa,YL,QhL (by omega),Qd (fun _=>by rw[hl];decide),Qkn,Qa];dsimp only
  by_cases ha:0<=ZQ a
  ·rw[YQ (by omega)]
   cases hb:isN b 0 16
   ·simp
   ·have h2:=Qfb hb;have O:QcW b=((QcW b).toNat:Int):=by omega
    have G:ZQ a=((ZQ a).toNat:Int):=by omega
    rw[Y1 (by decide),Qd (by rw[hl];decide),Qa,Qd (by rw[hl];decide),Qo0 b (by omega),Qa,O,QxJ (by omega),Qa,Qd (Qq9 _),G,Qq8];simp only[Y4]
    by_cases hm:(ZQ a).toNat%2^(16-(QcW b).toNat)=0
    ·rw[Yd hm,Y1 (by decide),Y2 ⟨by omega,trivial,hm⟩]
    ·rw[YQ hm,Y2 (by rfl),Y1 fun h=>hm h.2.2]
  ·have hn:¬(0<=ZQ a∧isN b 0 16=true∧(ZQ a).toNat%2^(16-(QcW b).toNat)=0):=fun h=>ha h.1;rw[Yd (by omega),Y1 hn,Y2 (by simp)]
theorem Qc7 {w:Bs} (h:w.length<=1000000):ZG (tS w)=some (Qev w).isSome:=by
 unfold ZG;rw[Qo2 h,Qa]
 cases hp:Qev w with
 |none=>rfl
 |some p=>
  have⟨a,n⟩:=p;have:=QhM hp;exact congrArg some (Yd this.1)
def mkP (a:Int) (n:Nat):QAm:=⟨a,(n:Int)⟩
theorem Qra {a:Int} {n:Nat} (h:n<=16):ZT (mkP a n)=some ((2^(16-n):Nat):Int):=by
 unfold ZT mkP;dsimp only;have e:IntKind.i64.wrap (16-(n:Int))=((16-n:Nat):Int):=by rw[Qo (by omega) (by omega)];omega
 have hp:2^(16-n)<=2^16:=Xt (by decide) (by omega);rw[e,Qd (by omega),Y4,Xh (by show 16-n<=64;omega)];have I:(1:Int)*2^(16-n)=((2^(16-n):Nat):Int):=by rw[Int.one_mul,Int.natCast_pow];rfl
 have G:2^(16-n)<=65536:=hp;rw[I];generalize 2^(16-n)=z at G;rw[Qo (by omega) (by omega)]
theorem Qo3 {w:Bs} (h:w.length<=1000000):JW (tS w)=some (match Qev w with|some (a,n)=>(mkP a n,true)|none=>(mkP 0 0,false)):=by
 have U:(⟨#[47]⟩:Bt)=tS [47]:=rfl;unfold JW JL;rw[U,Qd (by simp;omega),Qa,Qp3];unfold Qev;rw[Qq7]
 by_cases hc:(47:UInt8)∈w
 ·rw[Y2 hc];have I:(w.takeWhile (· !=47)).length<=w.length:=XL (Xy _);generalize w.takeWhile (· !=47)=a at I;have G:(w.drop (a.length+1)).length<=w.length:=by rw[Y0a];omega
  generalize w.drop (a.length+1)=b at G;dsimp only;rw[Qjj (by omega),Qa,Qls (by omega),Qa,Qe (by rfl)];unfold Qf3;dsimp only;rw[Qlp,Qa,Qlp];have hr:=Qlu a;have⟨q1,q2⟩:=Qp9 (w:=b) (lo:=0) (hi:=16) (by decide) (by decide)
  cases hl:inI (Qmc b) 0 16
  ·simp only[gcall,Qa,YN,Yx,Xc,gd];rw[Y2 (by simp)];have:isN b 0 16=false:=by unfold isN;rw[<-q1];exact hl
   have hn:¬(0<=ZQ a∧isN b 0 16=true∧(ZQ a).toNat%2^(16-(QcW b).toNat)=0):=fun h=>by rw[this] at h;exact absurd h.2.1 (by decide)
   by_cases hq:(47:UInt8)∈w∧(47:UInt8)∉b
   ·rw[Y2 hq];dsimp only;rw[Y1 hn]
    rfl
   ·rw[Y1 hq]
    rfl
  ·have hi:=QgA.1 hl;have hN:isN b 0 16=true:=by unfold isN;rw[<-q1];exact hl
   have Y:(47:UInt8)∉b:=fun hm=>by rw[Qo1 hm (by decide)] at hi;omega
   rw[Y2 (show(47:UInt8)∈w∧(47:UInt8)∉b from⟨hc,Y⟩)];dsimp only
   by_cases ha:0<=ZQ a
   ·have O:inI (ZQ a) 0 65535=true:=QgA.2 ⟨ha,hr.2⟩;have hz:Qmc b=((QcW b).toNat:Int):=by rw[<-q2 hl];omega
    have J:ZQ a=((ZQ a).toNat:Int):=by omega
    rw[O,Qe (by rfl),Qa,Qe (by rfl),hz,show ZT ⟨ZQ a,(((QcW b).toNat:Nat):Int)⟩=_ from Qra (a:=ZQ a) (n:=(QcW b).toNat) (by omega),Qa,Qd (fun _=>Qq9 _),Qa];have ht:((ZQ a).tmod ((2^(16-(QcW b).toNat):Nat):Int)==0)=decide ((ZQ a).toNat%2^(16-(QcW b).toNat)=0):=by
     rw[J];have:=Qq8 (ZQ a).toNat (2^(16-(QcW b).toNat));simp only[bne,Y4] at this|-;simpa using this
    rw[ht]
    by_cases hm:(ZQ a).toNat%2^(16-(QcW b).toNat)=0
    ·rw[Yd hm,Y1 (by decide),Y2 ⟨ha,hN,hm⟩];rfl
    ·rw[YQ hm,Y2 (by decide),Y1 fun h=>hm h.2.2];rfl
   ·have O:inI (ZQ a) 0 65535=false:=X8.2 fun h=>ha (QgA.1 h).1;have hn:¬(0<=ZQ a∧isN b 0 16=true∧(ZQ a).toNat%2^(16-(QcW b).toNat)=0):=fun h=>ha h.1;rw[O,Y1 hn];simp only[gcall,Qa,XV,YN,Yx,Xc,YG,gd];rw[Y2 (by simp)]
    rfl
 ·rw[Y1 hc,Y1 fun h=>hc h.1];dsimp only;rw[Qjj h,Qa,Qls (by simp),Qa,QL (by decide),Qa,Y2 (by simp)]
  rfl
theorem Qqb {w:Bs} (h:w.length<=1000000):Qcz (tS w)=some (Qev w).isSome:=by
 unfold Qcz;rw[Qo3 h,Qa]
 cases Qev w<;>rfl
theorem QtT {w:Bs} (h:w.length<=1000000):Qb1 (tS w)=some (decide (0<=ZQ w)):=by
 unfold Qb1;rw[Qjj h,Qa]
def QfI:Bs:=[104,111,115,116]
def Qau:Bs:=[117,115,101,114]
def Q1:Bs:=[112,111,114,116]
def QaF:Bs:=[114,117,108,101]
def QaG:Bs:=[114,111,117,116,101]
def QbE:Bs:=[112,101,101,114]
def QiK:Bs:=[110,97,116]
def wDoor:Bs:=[100,111,111,114]
def wIn:Bs:=[105,110]
def QhN:Bs:=[112,101,114,109,105,116]
def Qqc:Bs:=[100,101,110,121]
def Qyz:Bs:=[97,108,108]
def ckP (w:Bs):Bool:=(Qev w).isSome
def ckA (w:Bs):Bool:=decide (0<=ZQ w)
def ckV (w:Bs):Bool:=w==QhN||w==Qqc
def QgB:List Bs->Bool
 |[]=>false
 |a::t=>if a=QfI then(match t with|[b]=>Qc6 b|_=>false)
  else if a=Qau then(match t with|[b,c]=>Qc6 b&&Qlr c|_=>false)
  else if a=Q1 then(match t with|[b,c]=>isN b 0 7&&ckP c|[b,c,d,e]=>isN b 0 7&&ckP c&&d==wIn&&Qc6 e|_=>false)
  else if a=QaF then(match t with|[b,c,d,e,f,g]=>Qc6 b&&isN c 0 99&&ckV d&&ckP e&&ckP f&&isN g 0 7|_=>false)
  else if a=QaG then(match t with|[b,c]=>ckP b&&ckA c|_=>false)
  else if a=QbE then(match t with|[b,c,d]=>ckA b&&isN c 1 9&&isN d 1 999999|_=>false)
  else if a=QiK then(match t with|[b,c,d,e]=>ckP b&&ckA c&&isN d 1 65535&&isN e 1 65535|_=>false)
  else if a=wDoor then(match t with|[b,c,d,e]=>isN b 1 7&&isN c 1 65535&&ckA d&&isN e 1 65535|_=>false)
  else false
def keyN (a:Bs):Nat:=if a=QfI∨a=QiK then 1 else if a=Qau∨a=Q1∨a=QbE then 2 else 3
theorem QzU (a c:Bs):(tS a==tS c)=decide (a=c):=by
 rw[Jk]
 by_cases h:a=c
 ·rw[Yd h,h];simp
 ·rw[YQ h];simpa using h
theorem Qvt {t:List Bs} {a:Bs} {n:Nat} (h:t.length≠n):(((((a::t).map tS).length:Nat):Int)==((n+1:Nat):Int))=false:=by
 simp only[Ya,Yi];rw[beq_eq_false_iff_ne];omega
theorem Qz7 {t:List Bs} (h:t.length=1):∃b,t=[b]:=by
 match t,h with
 |[b],_=>exact⟨b,rfl⟩
theorem QyA {t:List Bs} (h:t.length=2):∃b c,t=[b,c]:=by
 match t,h with
 |[b,c],_=>exact⟨b,c,rfl⟩
theorem Qz8 {t:List Bs} (h:t.length=3):∃b c d,t=[b,c,d]:=by
 match t,h with
 |[b,c,d],_=>exact⟨b,c,d,rfl⟩
theorem QyB {t:List Bs} (h:t.length=4):∃b c d e,t=[b,c,d,e]:=by
 match t,h with
 |[b,c,d,e],_=>exact⟨b,c,d,e,rfl⟩
theorem Qz9 {t:List Bs} (h:t.length=6):∃b c d e f g,t=[b,c,d,e,f,g]:=by
 match t,h with
 |[b,c,d,e,f,g],_=>exact⟨b,c,d,e,f,g,rfl⟩
theorem m1 (P:Bs->Bool):∀ {t:List Bs},t.length≠1->(match t with|[b]=>P b|_=>false)=false:=by
 intro t h;split
 ·rename_i h;simp at h
 ·rfl
theorem m2 (P:Bs->Bs->Bool):∀ {t:List Bs},t.length≠2->(match t with|[b,c]=>P b c|_=>false)=false:=by
 intro t h;split
 ·rename_i h;simp at h
 ·rfl
theorem m3 (P:Bs->Bs->Bs->Bool):∀ {t:List Bs},t.length≠3->(match t with|[b,c,d]=>P b c d|_=>false)=false:=by
 intro t h;split
 ·rename_i h;simp at h
 ·rfl
theorem m4 (P:Bs->Bs->Bs->Bs->Bool):∀ {t:List Bs},t.length≠4->(match t with|[b,c,d,e]=>P b c d e|_=>false)=false:=by
 intro t h;split
 ·rename_i h;simp at h
 ·rfl
theorem m6 (P:Bs->Bs->Bs->Bs->Bs->Bs->Bool):∀ {t:List Bs},t.length≠6->(match t with|[b,c,d,e,f,g]=>P b c d e f g|_=>false)=false:=by
 intro t h;split
 ·rename_i h;simp at h
 ·rfl
theorem m24 (P:Bs->Bs->Bool) (Q:Bs->Bs->Bs->Bs->Bool):∀ {t:List Bs},t.length≠2->t.length≠4->(match t with|[b,c]=>P b c|[b,c,d,e]=>Q b c d e|_=>false)=false:=by
 intro t h G;split
 ·rename_i h _;simp at h
 ·rename_i G;simp at G
 ·rfl
theorem QxK {ws:List Bs} (h:∀w∈ws,w.length<=1000000):Qdb (ws.map tS)=some (QgB ws):=by
 unfold Qdb
 cases ws with
 |nil=>rfl
 |cons a t=>
  have g0:((a::t).map tS).getD 0 default=tS a:=rfl;have hl:(((((a::t).map tS).length:Nat):Int)==0)=false:=by rw[beq_eq_false_iff_ne];simp only[Ya,Yi];omega
  have hb:∀w∈t,w.length<=1000000:=fun w hw=>h w (by simp[hw]);rw[hl,Y1 (by decide),Qd (by simp),g0];rw[show(⟨#[104,111,115,116]⟩:Bt)=tS QfI from rfl,show(⟨#[117,115,101,114]⟩:Bt)=tS Qau from rfl,show(⟨#[112,111,114,116]⟩:Bt)=tS Q1 from rfl,show(⟨#[114,117,108,101]⟩:Bt)=tS QaF from rfl,show(⟨#[114,111,117,116,101]⟩:Bt)=tS QaG from rfl,show(⟨#[112,101,101,114]⟩:Bt)=tS QbE from rfl,show(⟨#[110,97,116]⟩:Bt)=tS QiK from rfl,show(⟨#[100,111,111,114]⟩:Bt)=tS wDoor from rfl];simp only[QzU a,Yk];dsimp only[QgB]
  by_cases Y:a=QfI
  ·rw[Y2 Y,Y2 Y]
   by_cases hn:t.length=1
   ·obtain⟨b,rfl⟩:=Qz7 hn;have e1:=Qjh (hb b (by simp));simp[gd,gcall,bd,e1]
   ·have e:=Qvt (a:=a) hn;rw[m1 _ hn];simp only[show(2:Int)=((1+1:Nat):Int) from rfl,e,gd,gcall,bd];simp
  rw[Y1 Y,Y1 Y]
  by_cases c2:a=Qau
  ·rw[Y2 c2,Y2 c2]
   by_cases hn:t.length=2
   ·obtain⟨b,c,rfl⟩:=QyA hn;have e1:=Qjh (hb b (by simp));have G:=QtP (hb c (by simp));simp[gd,gcall,bd,e1,G]
    cases Qc6 b<;>simp
   ·have e:=Qvt (a:=a) hn;rw[m2 _ hn];simp only[show(3:Int)=((2+1:Nat):Int) from rfl,e,gd,gcall,bd];simp
  rw[Y1 c2,Y1 c2]
  by_cases c3:a=Q1
  ·rw[Y2 c3,Y2 c3]
   by_cases hn:t.length=2
   ·obtain⟨b,c,rfl⟩:=QyA hn;have e1:=QhL (lo:=0) (hi:=7) (hb b (by simp));have G:=Qc7 (hb c (by simp));simp[gd,gcall,bd,e1,G,ckP]
    cases isN b 0 7<;>simp
   ·by_cases O:t.length=4
    ·obtain⟨b,c,d,e,rfl⟩:=QyB O;have e1:=QhL (lo:=0) (hi:=7) (hb b (by simp));have G:=Qc7 (hb c (by simp));have I:=Qjh (hb e (by simp));have U:(tS d==(⟨#[105,110]⟩:Bt))=(d==wIn):=Jk d wIn;simp[gd,gcall,bd,e1,G,I,U,ckP]
     by_cases hd:d=wIn<;>simp[hd]
     cases Qc6 e<;>cases isN b 0 7<;>simp
    ·have e:=Qvt (a:=a) hn;have e5:=Qvt (a:=a) O;rw[m24 _ _ hn O];simp only[show(3:Int)=((2+1:Nat):Int) from rfl,show(5:Int)=((4+1:Nat):Int) from rfl,e,e5,gd,gcall,bd];simp
  rw[Y1 c3,Y1 c3]
  by_cases c4:a=QaF
  ·rw[Y2 c4,Y2 c4]
   by_cases hn:t.length=6
   ·obtain⟨b,c,d,e,f,g,rfl⟩:=Qz9 hn;have e1:=Qjh (hb b (by simp));have G:=QhL (lo:=0) (hi:=99) (hb c (by simp));have I:(tS d==(⟨#[112,101,114,109,105,116]⟩:Bt))=(d==QhN):=Jk d QhN;have U:(tS d==(⟨#[100,101,110,121]⟩:Bt))=(d==Qqc):=Jk d Qqc;have e5:=Qc7 (hb e (by simp));have e6:=Qc7 (hb f (by simp));have e7:=QhL (lo:=0) (hi:=7) (hb g (by simp));simp[gd,gcall,bd,e1,G,I,U,e5,e6,e7,ckP,ckV]
    cases Qc6 b<;>simp
    cases isN c 0 99<;>simp
    by_cases hd:d=QhN∨d=Qqc
    ·simp[hd]
     cases Qev e<;>simp
     cases Qev f<;>simp
    ·simp[hd]
   ·have e:=Qvt (a:=a) hn;rw[m6 _ hn];simp only[show(7:Int)=((6+1:Nat):Int) from rfl,e,gd,gcall,bd];simp
  rw[Y1 c4,Y1 c4]
  by_cases c5:a=QaG
  ·rw[Y2 c5,Y2 c5]
   by_cases hn:t.length=2
   ·obtain⟨b,c,rfl⟩:=QyA hn;have e1:=Qc7 (hb b (by simp));have G:=Qji (hb c (by simp));simp[gd,gcall,bd,e1,G,ckP,ckA]
    cases Qev b<;>simp
   ·have e:=Qvt (a:=a) hn;rw[m2 _ hn];simp only[show(3:Int)=((2+1:Nat):Int) from rfl,e,gd,gcall,bd];simp
  rw[Y1 c5,Y1 c5]
  by_cases c6:a=QbE
  ·rw[Y2 c6,Y2 c6]
   by_cases hn:t.length=3
   ·obtain⟨b,c,d,rfl⟩:=Qz8 hn;have e1:=Qji (hb b (by simp));have G:=QhL (lo:=1) (hi:=9) (hb c (by simp));have I:=QhL (lo:=1) (hi:=999999) (hb d (by simp));simp[gd,gcall,bd,e1,G,I,ckA]
    by_cases J:0<=ZQ b
    ·simp[J];cases isN c 1 9<;>simp
    ·simp[J]
   ·have e:=Qvt (a:=a) hn;rw[m3 _ hn];simp only[show(4:Int)=((3+1:Nat):Int) from rfl,e,gd,gcall,bd];simp
  rw[Y1 c6,Y1 c6]
  by_cases c7:a=QiK
  ·rw[Y2 c7,Y2 c7]
   by_cases hn:t.length=4
   ·obtain⟨b,c,d,e,rfl⟩:=QyB hn;have e1:=Qc7 (hb b (by simp));have G:=Qji (hb c (by simp));have I:=QhL (lo:=1) (hi:=65535) (hb d (by simp));have U:=QhL (lo:=1) (hi:=65535) (hb e (by simp));simp[gd,gcall,bd,e1,G,I,U,ckA,ckP]
    cases Qev b<;>simp
    by_cases J:0<=ZQ c
    ·simp[J];cases isN d 1 65535<;>simp
    ·simp[J]
   ·have e:=Qvt (a:=a) hn;rw[m4 _ hn];simp only[show(5:Int)=((4+1:Nat):Int) from rfl,e,gd,gcall,bd];simp
  rw[Y1 c7,Y1 c7]
  by_cases c8:a=wDoor
  ·rw[Y2 c8,Y2 c8]
   by_cases hn:t.length=4
   ·obtain⟨b,c,d,e,rfl⟩:=QyB hn;have e1:=QhL (lo:=1) (hi:=7) (hb b (by simp));have G:=QhL (lo:=1) (hi:=65535) (hb c (by simp));have I:=Qji (hb d (by simp));have U:=QhL (lo:=1) (hi:=65535) (hb e (by simp));simp[gd,gcall,bd,e1,G,I,U,ckA]
    cases isN b 1 7<;>simp
    cases isN c 1 65535<;>simp
    by_cases J:0<=ZQ d
    ·simp[J]
    ·simp[J]
   ·have e:=Qvt (a:=a) hn;rw[m4 _ hn];simp only[show(5:Int)=((4+1:Nat):Int) from rfl,e,gd,gcall,bd];simp
  rw[Y1 c8,Y1 c8]
def ckF:Fnv->Bs->Bool
 | .k f,w=>if f=82 then Qc6 w else if f=220 then Qlr w else if f=221 then ckP w else ckA w
 | .r _ lo hi,w=>isN w lo hi
 | .w _ ws,w=>ws.any (· ==tS w)
def okF:Fnv->Prop
 | .k f=>f=82∨f=220∨f=221∨f=223
 | .r f _ _=>f=248
 | .w f ws=>f=249∧ws.length<=100
theorem Qy8 {c:Fnv} {w:Bs} (hc:okF c) (h:w.length<=1000000):Qhj c (tS w)=some (ckF c w):=by
 unfold Qhj ckF
 cases c with
 |k f=>
  rcases hc with rfl|rfl|rfl|rfl
  ·exact QtL h
  ·exact QtO h
  ·exact Qqb h
  ·exact QtT h
 |r f lo hi=>
  have hc:f=248:=hc;subst hc;exact QzT h
 |w f ws=>
  have⟨G,hl⟩:=hc;subst G;show QcA (tS w) ws=_;unfold QcA;rw[Qwy (by omega),Qa]
def Qiz (f:form) (ws:List Bs):Bool:=decide (ws.length=f.checks.length+1)&&QaL f.checks.length fun i=>ckF (f.checks.getD i default) (ws.getD (i+1) [])
theorem ZN {xs:List Bs} {i:Nat} (h:i<xs.length):(xs.map tS).getD i default=tS (xs.getD i []):=by
 simp[Y0,h]
theorem QaY {xs:List Bs} {i:Nat} (h:i<xs.length):xs.getD i []∈xs:=by
 rw[Y0,Y6 h];exact X0 h
theorem QxL {f:form} {ws:List Bs} (I:∀c∈f.checks,okF c) (hl:f.checks.length<=100) (h:∀w∈ws,w.length<=1000000):Qb3 f (ws.map tS)=some (Qiz f ws):=by
 unfold Qb3 Qiz;rw[Qo (by omega) (by omega)]
 by_cases hn:ws.length=f.checks.length+1
 ·rw[Y1 (by simp;omega),Yd hn,Yq];rw[Qhd f.checks.length (fun i=>ckF (f.checks.getD i default) (ws.getD (i+1) [])) (.inl ()) (.inr ()) (fun i hi _=>?_) (fun _=>by rw[Y1 (by simp)]),Qa]
  ·cases QaL f.checks.length fun i=>ckF (f.checks.getD i default) (ws.getD (i+1) [])<;>rfl
  ·have G:i+1<ws.length:=by omega
   rw[Y2 (by simp;omega),Qd (by omega),Qk hi (by omega),Qd (by simp;omega),Y4,Y4,ZN G,Qy8 (I _ (Zd hi)) (h _ (QaY G)),Qa]
   cases ckF (f.checks.getD i default) (ws.getD (i+1) [])<;>rfl
 ·rw[Y2 (by simp;omega),YQ hn,YN]
def fHost:form:=⟨tS QfI,1,[.k 82]⟩
def fUser:form:=⟨tS Qau,2,[.k 82,.k 220]⟩
def Qqd:form:=⟨tS Q1,2,[.r 248 0 7,.k 221]⟩
def QiA:form:=⟨tS Q1,2,[.r 248 0 7,.k 221,.w 249 [tS wIn],.k 82]⟩
def fRule:form:=⟨tS QaF,3,[.k 82,.r 248 0 99,.w 249 [tS QhN,tS Qqc],.k 221,.k 221,.r 248 0 7]⟩
def fRoute:form:=⟨tS QaG,3,[.k 221,.k 223]⟩
def fPeer:form:=⟨tS QbE,2,[.k 223,.r 248 1 9,.r 248 1 999999]⟩
def fNat:form:=⟨tS QiK,1,[.k 221,.k 223,.r 248 1 65535,.r 248 1 65535]⟩
def fDoor:form:=⟨tS wDoor,3,[.r 248 1 7,.r 248 1 65535,.k 223,.r 248 1 65535]⟩
def allF:List form:=[fHost,fUser,Qqd,QiA,fRule,fRoute,fPeer,fNat,fDoor]
theorem QxM:∀f∈allF,(∀c∈f.checks,okF c)∧f.checks.length<=100:=by
 intro f G;simp only[allF,Ye,List.mem_nil_iff,or_false] at G;rcases G with rfl|rfl|rfl|rfl|rfl|rfl|rfl|rfl|rfl<;>refine⟨?_,by decide⟩<;>intro c hc<;>
  simp only[fHost,fUser,Qqd,QiA,fRule,fRoute,fPeer,fNat,fDoor,Ye,List.mem_nil_iff,or_false] at hc<;>
  rcases hc with rfl|rfl|rfl|rfl|rfl|rfl<;>simp[okF]
theorem Qvu (s:Bt):Qdm s=some (allF.filter fun f=>f.word==s):=by
 have e:Qdm s=QzA (fun f=>Qaf f s) allF:=rfl;rw[e,Qww (pm:=fun f=>Qaf f s) (p:=fun f=>!(f.word==s)) (fun x _=>rfl) (by decide)];simp
def QnS:List Bs->Option form
 |[]=>none
 |a::t=>(allF.filter fun f=>f.word==tS a).find? fun f=>Qiz f (a::t)
theorem Qm0 {α:Type} [Inhabited α] {p:α->Bool} {xs:List α}:xs.find? p=(Jc (fun i=>p (xs.getD i default)) xs.length).map fun i=>xs.getD i default:=by
 cases h:Jc (fun i=>p (xs.getD i default)) xs.length with
 |none=>
  have:=Qcc h;rw[Option.map_none,List.find?_eq_none];intro x G;have⟨i,hi,e⟩:=Xm G;have:=this i hi;rw[Y0,Y6 hi] at this;rw[<-e];simpa using this
 |some i=>
  have⟨h1,h2,h3⟩:=Qcb h;rw[Xr,List.find?_eq_some_iff_getElem];refine⟨h2,i,h1,?_,fun j hj=>?_⟩
  ·rw[Y0,Y6 h1];rfl
  ·have:=h3 j hj;rw[Y0,Y6 (by omega)] at this;simpa using this
theorem Qo4 {ws:List Bs} (h:∀w∈ws,w.length<=1000000):QcB (ws.map tS)=some (match QnS ws with|some f=>(f,true)|none=>(⟨ByteArray.empty,0,[]⟩,false)):=by
 unfold QcB
 cases ws with
 |nil=>rfl
 |cons a t=>
  have O:((a::t).map tS).getD 0 default=tS a:=rfl;have hl:(((((a::t).map tS).length:Nat):Int)==0)=false:=by rw[beq_eq_false_iff_ne];simp only[Ya,Yi];omega
  rw[hl,Y1 (by decide),Qd (by simp),O,Qvu,Qa];dsimp only[QnS];have I:∀f∈allF.filter (fun f=>f.word==tS a),f∈allF:=fun f J=>(YK.1 J).1;have G:(allF.filter (fun f=>f.word==tS a)).length<=9:=XA _ _;generalize allF.filter (fun f=>f.word==tS a)=xs at I G;rw[Qm0];rw[J5 xs.length (fun i=>Qiz (xs.getD i default) (a::t)) (fun i=>.inl ((xs.getD i default).word,(xs.getD i default).key,(xs.getD i default).checks)) (.inr ()) (fun i hi=>?_) (by rw[Y1 (by simp)]),Qa]
  ·cases Jc (fun i=>Qiz (xs.getD i default) (a::t)) xs.length<;>rfl
  ·have ho:=QxM _ (I _ (Zd hi));rw[Y2 (by simp;omega),Qd (by omega),Y4,QxL ho.1 ho.2 h,Qa,Qk hi (by omega)]
   cases Qiz (xs.getD i default) (a::t)<;>rfl
theorem QzV (a:Bs):(allF.filter fun f=>f.word==tS a)=if a=QfI then [fHost] else if a=Qau then [fUser] else if a=Q1 then [Qqd,QiA] else if a=QaF then [fRule] else if a=QaG then [fRoute] else if a=QbE then [fPeer] else if a=QiK then [fNat] else if a=wDoor then [fDoor] else []:=by
 have e:∀c:Bs,(tS c==tS a)=decide (a=c):=fun c=>by
  rw[QzU];rw[Xk];exact eq_comm
 simp only[allF,fHost,fUser,Qqd,QiA,fRule,fRoute,fPeer,fNat,fDoor,Xd,List.filter_nil,e,Yk]
 by_cases I:a=QfI
 ·subst I;rfl
 rw[Y1 I,Y1 I]
 by_cases c2:a=Qau
 ·subst c2;rfl
 rw[Y1 c2,Y1 c2]
 by_cases G:a=Q1
 ·subst G;rfl
 rw[Y1 G,Y1 G,Y1 G]
 by_cases O:a=QaF
 ·subst O;rfl
 rw[Y1 O,Y1 O]
 by_cases Y:a=QaG
 ·subst Y;rfl
 rw[Y1 Y,Y1 Y]
 by_cases J:a=QbE
 ·subst J;rfl
 rw[Y1 J,Y1 J]
 by_cases U:a=QiK
 ·subst U;rfl
 rw[Y1 U,Y1 U]
theorem Qhe {f:form} {a:Bs} {t:List Bs} (h:t.length≠f.checks.length):Qiz f (a::t)=false:=by
 unfold Qiz;rw[YQ (by simp only[Yi];omega),YN]
theorem QiB {f:form} {p:form->Bool} {b:Bool} (h:p f=b):([f].find? p).map (·.key)=bif b then some f.key else none:=by
 subst h;simp only[List.find?_cons,List.find?_nil]
 cases p f<;>rfl
theorem inB (d:Bs):ckF (.w 249 [tS wIn]) d=(d==wIn):=by
 show(tS wIn==tS d||false)=_;rw[Jk,Y0c,YI];simp only[X7];exact eq_comm
theorem inV (d:Bs):ckF (.w 249 [tS QhN,tS Qqc]) d=ckV d:=by
 show(tS QhN==tS d||(tS Qqc==tS d||false))=_;rw[Jk,Jk,Y0c,YI];unfold ckV;simp only[X7,YE]
 constructor<;>rintro(h|h)<;>simp[h]
theorem Qo5 (ws:List Bs):(QnS ws).map (·.key)=bif QgB ws then some ((keyN (ws.getD 0 []):Nat):Int) else none:=by
 cases ws with
 |nil=>rfl
 |cons a t=>
  dsimp only[QnS,QgB];rw[QzV];have hk:(a::t).getD 0 []=a:=rfl;rw[hk]
  by_cases J:a=QfI
  ·rw[Y2 J,Y2 J];have G:keyN a=fHost.key.toNat:=by rw[J];rfl
   by_cases hn:t.length=1
   ·obtain⟨b,rfl⟩:=Qz7 hn;rw[G];refine QiB ?_;simp[Qiz,fHost,QaL,X5,ckF,inV,<-inV,XG]
   ·rw[m1 _ hn];exact QiB (p:=fun f=>Qiz f (a::t)) (Qhe (f:=fHost) hn)
  rw[Y1 J,Y1 J]
  by_cases c2:a=Qau
  ·rw[Y2 c2,Y2 c2];have G:keyN a=fUser.key.toNat:=by rw[c2];rfl
   by_cases hn:t.length=2
   ·obtain⟨b,c,rfl⟩:=QyA hn;rw[G];refine QiB ?_;simp[Qiz,fUser,QaL,X5,ckF,inV,<-inV,XG]
   ·rw[m2 _ hn];exact QiB (p:=fun f=>Qiz f (a::t)) (Qhe (f:=fUser) hn)
  rw[Y1 c2,Y1 c2]
  by_cases U:a=Q1
  ·rw[Y2 U,Y2 U];have G:keyN a=2:=by rw[U];rfl
   rw[G]
   by_cases hn:t.length=2
   ·obtain⟨b,c,rfl⟩:=QyA hn;have e1:Qiz Qqd [a,b,c]=(isN b 0 7&&ckP c):=by simp[Qiz,Qqd,QaL,X5,ckF]
    have O:Qiz QiA [a,b,c]=false:=Qhe (by simp[QiA]);simp only[List.find?_cons,List.find?_nil,e1,O]
    cases isN b 0 7&&ckP c<;>rfl
   ·have e1:Qiz Qqd (a::t)=false:=Qhe hn
    by_cases I:t.length=4
    ·obtain⟨b,c,d,e,rfl⟩:=QyB I;have O:Qiz QiA [a,b,c,d,e]=(isN b 0 7&&ckP c&&d==wIn&&Qc6 e):=by
      rw[<-inB d];simp[Qiz,QiA,QaL,X5,ckF,XG]
     simp only[List.find?_cons,List.find?_nil,e1,O]
     cases isN b 0 7&&ckP c&&d==wIn&&Qc6 e<;>rfl
    ·have O:Qiz QiA (a::t)=false:=Qhe I;simp only[List.find?_cons,List.find?_nil,e1,O,m24 _ _ hn I]
     rfl
  rw[Y1 U,Y1 U]
  by_cases c4:a=QaF
  ·rw[Y2 c4,Y2 c4];have G:keyN a=fRule.key.toNat:=by rw[c4];rfl
   by_cases hn:t.length=6
   ·obtain⟨b,c,d,e,f,g,rfl⟩:=Qz9 hn;rw[G];refine QiB ?_;simp[Qiz,fRule,QaL,X5,ckF,inV,<-inV,XG]
   ·rw[m6 _ hn];exact QiB (p:=fun f=>Qiz f (a::t)) (Qhe (f:=fRule) hn)
  rw[Y1 c4,Y1 c4]
  by_cases c5:a=QaG
  ·rw[Y2 c5,Y2 c5];have G:keyN a=fRoute.key.toNat:=by rw[c5];rfl
   by_cases hn:t.length=2
   ·obtain⟨b,c,rfl⟩:=QyA hn;rw[G];refine QiB ?_;simp[Qiz,fRoute,QaL,X5,ckF,inV,<-inV,XG]
   ·rw[m2 _ hn];exact QiB (p:=fun f=>Qiz f (a::t)) (Qhe (f:=fRoute) hn)
  rw[Y1 c5,Y1 c5]
  by_cases Y:a=QbE
  ·rw[Y2 Y,Y2 Y];have G:keyN a=fPeer.key.toNat:=by rw[Y];rfl
   by_cases hn:t.length=3
   ·obtain⟨b,c,d,rfl⟩:=Qz8 hn;rw[G];refine QiB ?_;simp[Qiz,fPeer,QaL,X5,ckF,inV,<-inV,XG]
   ·rw[m3 _ hn];exact QiB (p:=fun f=>Qiz f (a::t)) (Qhe (f:=fPeer) hn)
  rw[Y1 Y,Y1 Y]
  by_cases c7:a=QiK
  ·rw[Y2 c7,Y2 c7];have G:keyN a=fNat.key.toNat:=by rw[c7];rfl
   by_cases hn:t.length=4
   ·obtain⟨b,c,d,e,rfl⟩:=QyB hn;rw[G];refine QiB ?_;simp[Qiz,fNat,QaL,X5,ckF,inV,<-inV,XG]
   ·rw[m4 _ hn];exact QiB (p:=fun f=>Qiz f (a::t)) (Qhe (f:=fNat) hn)
  rw[Y1 c7,Y1 c7]
  by_cases c8:a=wDoor
  ·rw[Y2 c8,Y2 c8];have G:keyN a=fDoor.key.toNat:=by rw[c8];rfl
   by_cases hn:t.length=4
   ·obtain⟨b,c,d,e,rfl⟩:=QyB hn;rw[G];refine QiB ?_;simp[Qiz,fDoor,QaL,X5,ckF,inV,<-inV,XG]
   ·rw[m4 _ hn];exact QiB (p:=fun f=>Qiz f (a::t)) (Qhe (f:=fDoor) hn)
  rw[Y1 c8,Y1 c8]
  rfl
theorem Qm1 {ws:List Bs} {f:form} (h:QnS ws=some f):QgB ws=true∧f.key=((keyN (ws.getD 0 []):Nat):Int):=by
 have:=Qo5 ws;rw[h,Xr] at this
 cases hb:QgB ws
 ·rw[hb] at this;cases this
 ·rw[hb,XP,Y9] at this;exact⟨rfl,this⟩
theorem Qm2 {ws:List Bs} (h:QnS ws=none):QgB ws=false:=by
 have:=Qo5 ws;rw[h,Option.map_none] at this
 cases hb:QgB ws
 ·rfl
 ·rw[hb] at this;cases this
def QbU:List Bs->Bs
 |[]=>[]
 |a::t=>a++t.flatMap fun w=>32::w
theorem Qhf (a b:Bs):tS a++tS b=tS (a++b):=by
 apply QqZ
 rw[QfY];show(ByteArray.append (tS a) (tS b)).data.toList=_;simp[tS]
theorem QxN (ws:List Bs):QjT (ws.map tS) (tS [32])=tS (QbU ws):=by
 have e1:(ws.map tS).map (fun x=>x.data.toList)=ws:=by
  rw[Xq];have:((fun x:Bt=>x.data.toList)∘tS)=id:=funext fun x=>QfY x;rw[this,List.map_id]
 have G:(tS [32]).data.toList=[32]:=rfl;unfold QjT;rw[e1,G];show tS _=_
 cases ws with
 |nil=>rfl
 |cons a t=>
  rw[Lib.join_cons];unfold Lib.joinTail QbU
  congr 2
def QhO (ws:List Bs) (i:Nat):Bs:=if i=0 then QbU ws else(ws.drop i).flatMap fun w=>32::w
theorem QxO {ws:List Bs} (h:(QbU ws).length<=1000000000) (hw:ws.length<=1000000):QbI (ws.map tS) (tS [32])=some (tS (QbU ws)):=by
 unfold QbI;have key:∀(k i:Nat) (s:Bs),i+k=ws.length->(i=0->s=[])->(s++QhO ws i).length<=1000000000->lp (σ:=Bt×Int) (β:=(Bt)) (fun s1=>
(if(decide (s1.2<(((ws.map tS).length:Nat):Int)))=true then
(if(decide (s1.2>0))=true then
 gd (s1.1.size+(tS [32]).size<=9223372036854775807)<|
 gd ((0:Int)<=s1.2∧s1.2<(((ws.map tS).length:Nat):Int))<|
 gd ((s1.1++(tS [32])).size+((ws.map tS).getD s1.2.toNat default).size<=9223372036854775807)<|
 some (.inl (((s1.1++(tS [32]))++((ws.map tS).getD s1.2.toNat default)),IntKind.i64.wrap (s1.2+1)))
else
 gd ((0:Int)<=s1.2∧s1.2<(((ws.map tS).length:Nat):Int))<|
 gd (s1.1.size+((ws.map tS).getD s1.2.toNat default).size<=9223372036854775807)<|
 some (.inl ((s1.1++((ws.map tS).getD s1.2.toNat default)),IntKind.i64.wrap (s1.2+1))))
else
 some (.inr s1.1))) (tS s,(i:Int))=some (tS (s++QhO ws i)):=by
  intro k
  induction k with
  |zero=>
   intro i s hi h0 hl;have hi:i=ws.length:=by omega
   subst hi;refine Jj ?_;dsimp only;rw[Y1 (by simp)];have:QhO ws ws.length=[]:=by
    unfold QhO;split
    ·rename_i h;rw[Yy h];rfl
    ·simp
   rw[this,XJ]
  |succ k ih=>
   intro i s hi h0 hl;have G:i<ws.length:=by omega
   have U:ws.drop i=ws.getD i []::ws.drop (i+1):=by
    rw[Y0b G,Y0,Y6 G];rfl
   have O:QhO ws (i+1)=(ws.drop (i+1)).flatMap fun w=>32::w:=Y1 (by omega)
   by_cases hz:i=0
   ·subst hz;have hs:=h0 rfl;subst hs;have Y:QhO ws 0=ws.getD 0 []++QhO ws 1:=by
     rw[O];unfold QhO;rw[Y2 rfl];rw[Y09] at U
     conv=>lhs;rw[U]
     rfl
    have e:([]:Bs)++QhO ws 0=ws.getD 0 []++QhO ws (0+1):=Y;have J:=hl;rw[e] at J|-;have I:=J;rw[Yl] at I;rw[<-ih 1 (ws.getD 0 []) (by omega) (by omega) J];refine Qac ?_;dsimp only;rw[Y2 (by simp;omega),Y1 (by simp),Qd (by simp;omega),Y4,ZN G,Qd (by simp only[QaQ,Yv];omega),Qhf,Qk G (by omega)]
    rfl
   ·have Y:QhO ws i=32::ws.getD i []++QhO ws (i+1):=by
     rw[O];unfold QhO;rw[Y1 hz,U]
     rfl
    have e:s++QhO ws i=(s++[32]++ws.getD i [])++QhO ws (i+1):=by rw[Y];simp
    rw[e] at hl|-;have I:=hl;simp only[Yl,Yi,Yv] at I;rw[<-ih (i+1) (s++[32]++ws.getD i []) (by omega) (by omega) hl];refine Qac ?_;dsimp only;rw[Y2 (by simp;omega),Y2 (by simp;omega),Qd (by simp;omega),Qd (by simp;omega),Y4,ZN G,Qhf,Qd (by simp only[QaQ,Yl,Yi,Yv];omega),Qhf,Qk G (by omega)]
 have k0:=key ws.length 0 [] (by omega) (fun _=>rfl) (by rw[YC];exact h);refine(congrArg (fun m=>bd m _) k0).trans ?_;rw[Qa]
 rfl
theorem QnT {c:UInt8}:∀ {l w:Bs},w∈QcS c l->c∉w
 |[],w,h=>by simp[QcS] at h;simp[h]
 |b::r,w,h=>by
  unfold QcS at h;split at h
  ·rcases Ye.1 h with rfl|h
   ·simp
   ·exact QnT h
  ·rename_i hb;split at h
   ·simp at h;subst h;simp[YV hb]
   ·rename_i x xs e;rcases Ye.1 h with rfl|h
    ·have:c∉x:=QnT (l:=r) (by rw[e];simp);simp[YV hb,this]
    ·exact QnT (l:=r) (by rw[e];simp[h])
structure WordsOk (ws:List Bs):Prop where
 few:ws.length≤8
 short:∀w∈ws,w.length≤24
 no:∀w∈ws,(32:UInt8)∉w
 ne:∀w∈ws,w≠ []
theorem QcT {l:Bs} {ws:List Bs} (h:Qe9 l=some ws):WordsOk ws:=by
 unfold Qe9 at h;split at h
 ·rename_i hc;simp only[Y9] at h;subst h;have I:=hc.2;simp only[Qy6,Y3,Yk,Yb] at I;refine⟨I.1,I.2,fun w G=>?_,fun w G=>?_⟩
  ·exact QnT (YK.1 G).1
  ·have:=(YK.1 G).2;intro e;subst e;simp at this
 ·cases h
theorem WordsOk.long {ws:List Bs} (h:WordsOk ws):∀w∈ws,w.length<=1000000:=fun w G=>by have:=h.short w G;omega
theorem Qrb:∀ {t:List Bs},(∀w∈t,w.length<=24)->(t.flatMap fun w=>32::w).length<=25*t.length
 |[],_=>by simp
 |b::r,h=>by
  have:=Qrb (t:=r) fun w G=>h w (by simp[G]);have:=h b (by simp);rw[List.flatMap_cons,Yl,Yi,Yi];omega
theorem WordsOk.joins {ws:List Bs} (h:WordsOk ws):(QbU ws).length<=200:=by
 cases ws with
 |nil=>simp[QbU]
 |cons a t=>
  have h1:=Qrb (t:=t) fun w G=>h.short w (by simp[G]);have h2:=h.short a (by simp);have h3:=h.few;show(a++t.flatMap fun w=>32::w).length<=200;rw[Yl];simp at h3;omega
theorem Qjk:∀ {ws:List Bs},ws≠ []->(∀w∈ws,(32:UInt8)∉w)->QcS 32 (QbU ws)=ws
 |[],h,_=>absurd rfl h
 |[a],_,h=>by
  have:QbU [a]=a:=by simp[QbU]
  rw[this,Qes (h a (by simp))]
 |a::b::t,_,h=>by
  have e:QbU (a::b::t)=a++32::QbU (b::t):=by simp[QbU]
  rw[e,QfG (h a (by simp)),Qjk (by simp) fun w G=>h w (by simp[G])]
def QhP (l:Bs):Option Bs:=match Qe9 l with
 |some ws=>bif QgB ws then some (QbU ws) else none
 |none=>none
def QaE (l:Bs):Bool:=QhP l==some l
def wsL (l:Bs):List Bs:=(Qe9 l).getD []
def Qc8 (l:Bs):Bs:=bif QaE l then QbU ((wsL l).take (keyN ((wsL l).getD 0 []))) else []
theorem QtU {l:Bs} (h:l.length<=1000000):JU (tS l)=some (match QhP l with|some x=>(tS x,true)|none=>(tS [],false)):=by
 unfold JU QhP;rw[Qkp (by omega)]
 cases hc:Qe9 l with
 |none=>
  dsimp only;rw[Qa];dsimp only;rw[QL (by decide),Qa,Y2 (by rfl)]
  rfl
 |some ws=>
  have W:=QcT hc;dsimp only;rw[Qa];dsimp only;rw[Qe (by rfl),QxK W.long,Qa]
  cases QgB ws
  ·rfl
  ·have:=W.joins;rw[Y1 (by decide),show QbI (ws.map tS) ⟨#[32]⟩=_ from QxO (by omega) (by have:=W.few;omega),Qa]
   rfl
theorem QtV {ws:List Bs} (h:(QbU ws).length<=1000000) (hw:ws.length<=1000000):Qa8 (ws.map tS) ⟨#[32]⟩=some (tS (QbU ws)):=by
 unfold Qa8;rw[show QjT (ws.map tS) ⟨#[32]⟩=_ from QxN ws,Qd (by simp;omega)]
theorem QxP {l:Bs} (h:l.length<=1000000):Qbk (tS l)=some (match QhP l with|some x=>(tS x,true)|none=>(tS [],false)):=by
 unfold Qbk QhP;rw[Qvr h]
 cases hc:Qe9 l with
 |none=>
  dsimp only;rw[Qa,Y2 (by rfl)]
  rfl
 |some ws=>
  have W:=QcT hc;have hj:=W.joins;have hf:=W.few;dsimp only;rw[Qa,Y1 (by simp),Qo4 W.long,Qa]
  cases G:QnS ws with
  |none=>rw[Qm2 G];rfl
  |some f=>
   rw[(Qm1 G).1];dsimp only;rw[Y1 (by decide),QtV (by omega) (by omega),Qa]
   rfl
theorem QxQ (l:Bs) (o:Option Bs):((match o with|some x=>(tS x,true)|none=>(tS [],false)):Bt×Bool).2=true∧(((match o with|some x=>(tS x,true)|none=>(tS [],false)):Bt×Bool).1==tS l)=true↔(o==some l)=true:=by
 cases o with
 |none=>simp
 |some x=>simp[Jk]
theorem QwA (l:Bs) (o:Option Bs):(((match o with|some x=>(tS x,true)|none=>(tS [],false)):Bt×Bool).2&&(((match o with|some x=>(tS x,true)|none=>(tS [],false)):Bt×Bool).1==tS l))=(o==some l):=by
 rw[YI,Y3];exact QxQ l o
theorem QxR {l:Bs} (h:l.length<=1000000):Qdc (tS l)=some (QaE l):=by
 unfold Qdc;rw[QtU h,Qa,QwA]
 rfl
theorem QtW {l:Bs} (h:l.length<=1000000):QcC (tS l)=some (QaE l):=by
 unfold QcC;rw[QxP h,Qa,QwA]
 rfl
theorem QbV {l:Bs} (h:QaE l=true):∃ws,Qe9 l=some ws∧QgB ws=true∧QbU ws=l∧wsL l=ws:=by
 unfold QaE QhP at h
 cases hc:Qe9 l with
 |none=>rw[hc] at h;simp at h
 |some ws=>
  rw[hc] at h;dsimp only at h
  cases G:QgB ws
  ·rw[G] at h;simp at h
  ·rw[G] at h;simp at h;exact⟨ws,rfl,G,h,by simp[wsL,hc]⟩
inductive LineF:List Bs→Prop
 |host {b:Bs} (h1:Qc6 b=true):LineF [QfI,b]
 |user {b c:Bs} (h1:Qc6 b=true) (h2:Qlr c=true):LineF [Qau,b,c]
 |port {b c:Bs} (h1:isN b 0 7=true) (h2:ckP c=true):LineF [Q1,b,c]
 |port2 {b c e:Bs} (h1:isN b 0 7=true) (h2:ckP c=true) (h3:Qc6 e=true):LineF [Q1,b,c,wIn,e]
 |rule {b c d e f g:Bs} (h1:Qc6 b=true) (h2:isN c 0 99=true) (h3:ckV d=true) (h4:ckP e=true) (h5:ckP f=true) (h6:isN g 0 7=true):LineF [QaF,b,c,d,e,f,g]
 |route {b c:Bs} (h1:ckP b=true) (h2:ckA c=true):LineF [QaG,b,c]
 |peer {b c d:Bs} (h1:ckA b=true) (h2:isN c 1 9=true) (h3:isN d 1 999999=true):LineF [QbE,b,c,d]
 |nat {b c d e:Bs} (h1:ckP b=true) (h2:ckA c=true) (h3:isN d 1 65535=true) (h4:isN e 1 65535=true):LineF [QiK,b,c,d,e]
 |door {b c d e:Bs} (h1:isN b 1 7=true) (h2:isN c 1 65535=true) (h3:ckA d=true) (h4:isN e 1 65535=true):LineF [wDoor,b,c,d,e]
theorem Qsd {ws:List Bs} (h:QgB ws=true):LineF ws:=by
 cases ws with
 |nil=>cases h
 |cons a t=>
  dsimp only[QgB] at h
  by_cases G:a=QfI
  ·rw[Y2 G] at h;subst G;split at h
   ·exact .host h
   ·cases h
  rw[Y1 G] at h
  by_cases c2:a=Qau
  ·rw[Y2 c2] at h;subst c2;split at h
   ·simp only[Y3] at h;exact .user h.1 h.2
   ·cases h
  rw[Y1 c2] at h
  by_cases I:a=Q1
  ·rw[Y2 I] at h;subst I;split at h
   ·simp only[Y3] at h;exact .port h.1 h.2
   ·simp only[Y3,X7] at h;have⟨⟨⟨h1,h2⟩,h3⟩,h4⟩:=h;subst h3;exact .port2 h1 h2 h4
   ·cases h
  rw[Y1 I] at h
  by_cases O:a=QaF
  ·rw[Y2 O] at h;subst O;split at h
   ·simp only[Y3] at h;obtain⟨⟨⟨⟨⟨h1,h2⟩,h3⟩,h4⟩,h5⟩,h6⟩:=h;exact .rule h1 h2 h3 h4 h5 h6
   ·cases h
  rw[Y1 O] at h
  by_cases c5:a=QaG
  ·rw[Y2 c5] at h;subst c5;split at h
   ·simp only[Y3] at h;exact .route h.1 h.2
   ·cases h
  rw[Y1 c5] at h
  by_cases J:a=QbE
  ·rw[Y2 J] at h;subst J;split at h
   ·simp only[Y3] at h;exact .peer h.1.1 h.1.2 h.2
   ·cases h
  rw[Y1 J] at h
  by_cases Y:a=QiK
  ·rw[Y2 Y] at h;subst Y;split at h
   ·simp only[Y3] at h;exact .nat h.1.1.1 h.1.1.2 h.1.2 h.2
   ·cases h
  rw[Y1 Y] at h
  by_cases U:a=wDoor
  ·rw[Y2 U] at h;subst U;split at h
   ·simp only[Y3] at h;exact .door h.1.1.1 h.1.1.2 h.1.2 h.2
   ·cases h
  rw[Y1 U] at h;cases h
theorem QnU {ws:List Bs} (h:LineF ws):keyN (ws.getD 0 [])<=ws.length∧1<=keyN (ws.getD 0 []):=by
 cases h<;>(simp only[YW,Yi,Yv];decide)
theorem QnV {ws:List Bs} (h:QgB ws=true):ws≠ []:=by
 intro e;subst e;cases h
theorem Qvv {ws:List Bs} (h:QgB ws=true):∃f,QnS ws=some f:=by
 cases G:QnS ws with
 |none=>rw[Qm2 G] at h;cases h
 |some f=>exact⟨f,rfl⟩
theorem QnW (ws:List Bs) (k:Nat):(ws.map tS).take k=(ws.take k).map tS:=List.map_take.symm
theorem Qm3 {ws:List Bs} (h:WordsOk ws) (k:Nat):(QbU (ws.take k)).length<=200:=by
 refine WordsOk.joins ⟨?_,fun w G=>h.short w (Xg G),fun w G=>h.no w (Xg G),fun w G=>h.ne w (Xg G)⟩;have:=h.few;rw[Yp];omega
theorem Qm4 {l:Bs} (h:QaE l=true):QcS 32 l=wsL l:=by
 have⟨ws,hc,hb,hj,G⟩:=QbV h;rw[G,<-hj];exact Qjk (QnV hb) (QcT hc).no
theorem Qks {l:Bs} (h:QaE l=true):l.length<=200:=by
 have⟨ws,hc,hb,hj,hw⟩:=QbV h;rw[<-hj];exact(QcT hc).joins
theorem Qy9 {l:Bs} (h:l.length<=1000000):Zu (tS l)=some (tS (Qc8 l)):=by
 unfold Zu Qc8;rw[QtW h,Qa]
 cases hk:QaE l
 ·rfl
 have⟨ws,hc,hb,hj,G⟩:=QbV hk;have⟨f,I⟩:=Qvv hb;have W:=QcT hc;have hkn:=QnU (Qsd hb);have hs:QcS 32 l=ws:=by rw[Qm4 hk,G]
 rw[Y1 (by decide),ZK,Qd ⟨by rw[QaQ];omega,by decide⟩,Qa,show QlM (tS l) ⟨#[32]⟩=_ from QnN 32 l,hs,Qo4 W.long,Qa,I];dsimp only;rw[(Qm1 I).2,Qd (by rw[Ya];omega),Y4,QnW,QtV (by have:=Qm3 W (keyN (ws.getD 0 []));omega) (by have:=W.few;rw[Yp];omega),Qa,G]
 rfl
theorem QtX {l:Bs} (h:l.length<=1000000):ZI (tS l)=some (tS (Qc8 l)):=by
 unfold ZI Qc8;rw[QxR h,Qa]
 cases hk:QaE l
 ·rfl
 have⟨ws,hc,hb,hj,hw⟩:=QbV hk;have W:=QcT hc;have F:=Qsd hb;rw[Y1 (by decide),Qkp (by omega),hc,Qa,hw];dsimp only;have a1:(⟨#[32]⟩:Bt)=tS [32]:=rfl;have J:∀i,i<ws.length->(ws.getD i []).length<=24:=fun i hi=>W.short _ (QaY hi);have G:0<ws.length:=by cases F<;>simp
 generalize a2:((ws.map tS).length:Nat)=n;have hn:n=ws.length:=by rw[<-a2,Ya]
 have g0:(ws.map tS).getD 0 default=tS (ws.getD 0 []):=ZN G;rw[g0];generalize ha:ws.getD 0 []=a;rw[show(⟨#[104,111,115,116]⟩:Bt)=tS QfI from rfl,show(⟨#[117,115,101,114]⟩:Bt)=tS Qau from rfl,show(⟨#[112,111,114,116]⟩:Bt)=tS Q1 from rfl,show(⟨#[114,117,108,101]⟩:Bt)=tS QaF from rfl,show(⟨#[112,101,101,114]⟩:Bt)=tS QbE from rfl,show(⟨#[110,97,116]⟩:Bt)=tS QiK from rfl,show(⟨#[100,111,111,114]⟩:Bt)=tS wDoor from rfl,a1];simp only[QzU a,Yk];have hal:a.length<=24:=by rw[<-ha];exact J 0 G
 have b1:(bd (α:=Bool) (β:=Bt) (if a=QfI then some (decide (a=QfI)) else some (decide (a=QiK))))=fun f=>f (decide (a=QfI)||decide (a=QiK)):=by
  funext f
  by_cases c:a=QfI<;>simp[c,bd]
 have b2:(bd (α:=Bool) (β:=Bt) (if a=Qau then some (decide (a=Qau)) else if a=Q1 then some (decide (a=Q1)) else some (decide (a=QbE))))=fun f=>f (decide (a=Qau)||decide (a=Q1)||decide (a=QbE)):=by
  funext f
  by_cases c:a=Qau
  ·simp[c,bd]
  ·by_cases c':a=Q1
   ·rw[Y1 c,Y2 c',Qa,Yd c',YQ c];rfl
   ·rw[Y1 c,Y1 c',Qa,YQ c,YQ c'];rfl
 have b3:(bd (α:=Bool) (β:=Bt) (if a=QaF then some (decide (a=QaF)) else some (decide (a=wDoor))))=fun f=>f (decide (a=QaF)||decide (a=wDoor)):=by
  funext f
  by_cases c:a=QaF<;>simp[c,bd]
 rw[Qd (by omega),b1];dsimp only
 by_cases O:a=QfI∨a=QiK
 ·have e:(decide (a=QfI)||decide (a=QiK))=true:=by simpa using O
  have U:keyN a=1:=by unfold keyN;rw[Y2 O]
  rw[e,Y2 rfl,Qd (by omega),U];have:QbU (ws.take 1)=a:=by
   rw[<-ha]
   cases ws with
   |nil=>simp at G
   |cons x t=>simp[QbU]
  rw[this]
  rfl
 have e:(decide (a=QfI)||decide (a=QiK))=false:=by simpa using O
 rw[e,Y1 (by decide),b2];dsimp only
 by_cases I:a=Qau∨a=Q1∨a=QbE
 ·have e:(decide (a=Qau)||decide (a=Q1)||decide (a=QbE))=true:=by
   rcases I with c|c|c<;>simp[c]
  have U:keyN a=2:=by unfold keyN;rw[Y1 O,Y2 I]
  have h2:2<=ws.length:=by rw[<-U,<-ha];exact(QnU F).1
  have g1:(ws.map tS).getD 1 default=tS (ws.getD 1 []):=ZN (by omega);have l1:=J 1 (by omega);rw[e,Y2 rfl,Qd (by omega),Qd (by simp only[QaQ,Yi,Yv];omega),Qd (by omega),Qhf,g1,Qd (by simp only[QaQ,Yl,Yi,Yv];omega),Qhf,U];have:QbU (ws.take 2)=a++[32]++ws.getD 1 []:=by
   rw[<-ha]
   match ws,h2 with
   |x::y::t,_=>simp[QbU]
  rw[this]
  rfl
 have e:(decide (a=Qau)||decide (a=Q1)||decide (a=QbE))=false:=by
  simp only[not_or] at I;simp[I]
 rw[e,Y1 (by decide),b3];dsimp only;have U:keyN a=3:=by unfold keyN;rw[Y1 O,Y1 I]
 have h3:3<=ws.length:=by rw[<-U,<-ha];exact(QnU F).1
 by_cases Y:a=QaF∨a=wDoor
 ·have e:(decide (a=QaF)||decide (a=wDoor))=true:=by simpa using Y
  have g1:(ws.map tS).getD 1 default=tS (ws.getD 1 []):=ZN (by omega);have g2:(ws.map tS).getD 2 default=tS (ws.getD 2 []):=ZN (by omega);have l1:=J 1 (by omega);have l2:=J 2 (by omega);rw[e,Y2 rfl,Qd (by omega),Qd (by simp only[QaQ,Yi,Yv];omega),Qd (by omega),Qhf,g1,Qd (by simp only[QaQ,Yl,Yi,Yv];omega),Qhf,Qd (by simp only[QaQ,Yl,Yi,Yv];omega),Qd (by omega),Qhf,g2,Qd (by simp only[QaQ,Yl,Yi,Yv];omega),Qhf,U];have:QbU (ws.take 3)=a++[32]++ws.getD 1 []++[32]++ws.getD 2 []:=by
   rw[<-ha]
   match ws,h3 with
   |x::y::z::t,_=>simp[QbU]
  rw[this]
  rfl
 have e:(decide (a=QaF)||decide (a=wDoor))=false:=by simpa using Y
 rw[e,Y1 (by decide),U];have:ws.length=3:=by
  simp only[not_or] at O I Y
  cases F with
  |route _ _=>rfl
  |host=>exact absurd ha.symm O.1
  |user=>exact absurd ha.symm I.1
  |port=>exact absurd ha.symm I.2.1
  |port2=>exact absurd ha.symm I.2.1
  |rule=>exact absurd ha.symm Y.1
  |peer=>exact absurd ha.symm I.2.2
  |nat=>exact absurd ha.symm O.2
  |door=>exact absurd ha.symm Y.2
 rw[<-this,X1,hj]
 rfl
theorem QdI {α β:Type} [Inhabited α] (xs:List α) (f:α->β):(List.range xs.length).map (fun i=>f (xs.getD i default))=xs.map f:=by
 apply Y0j
 intro i
 by_cases h:i<xs.length
 ·simp[h,Y0]
 ·simp[h]
theorem Qo6 {β:Type} (g:Nat->β):∀n,(List.range n).foldl (fun a i=>a++[g i]) []=(List.range n).map g
 |0=>rfl
 |n+1=>by rw[X5,Y0h,Qo6 g n,XI];rfl
theorem QhQ {α β:Type} {step:List α×Int->Option ((List α×Int)⊕β)} (n:Nat) (g:Nat->α) (d:List α->β) (h1:∀(i:Nat) (a:List α),i<n->a.length=i->step (a,(i:Int))=some (.inl (a++[g i],((i+1:Nat):Int)))) (h2:∀a,a.length=n->step (a,(n:Int))=some (.inr (d a))):lp step ([],0)=some (d ((List.range n).map g)):=by
 have:=(Qp0 n (fun a i=>a++[g i]) d [] (fun i a=>a.length=i) rfl (fun i a _ h=>by simp[h]) h1 h2).1;rwa[Qo6] at this
theorem Qse {α β:Type} [Inhabited α] (p:α->Bool) (g:α->β) (xs:List α):(List.range xs.length).foldl (fun a i=>if p (xs.getD i default)=true then a++[g (xs.getD i default)] else a) []=(xs.filter p).map g:=by
 have key:∀n,n<=xs.length->(List.range n).foldl (fun a i=>if p (xs.getD i default)=true then a++[g (xs.getD i default)] else a) []=((xs.take n).filter p).map g:=by
  intro n
  induction n with
  |zero=>intro _;rfl
  |succ n G=>
   intro h;rw[X5,Y0h,G (by omega),XE];have e:xs[n]? =some (xs.getD n default):=by simp[Y0,show n<xs.length by omega]
   rw[e,Xb,XI];show(if p (xs.getD n default)=true then _ else _)=_++(List.filter p [xs.getD n default]).map g
   by_cases hp:p (xs.getD n default)=true
   ·rw[Y2 hp,Xd,Y2 hp];rfl
   ·rw[Y1 hp,Xd,Y1 hp];simp
 have:=key xs.length (Yf _);rwa[X1] at this
theorem QxS {α β γ:Type} [Inhabited α] {step:List β×Int->Option ((List β×Int)⊕γ)} (xs:List α) (p:α->Bool) (g:α->β) (d:List β->γ) (h1:∀(i:Nat) (a:List β),i<xs.length->a.length<=i->step (a,(i:Int))=some (.inl (if p (xs.getD i default)=true then a++[g (xs.getD i default)] else a,((i+1:Nat):Int)))) (h2:∀a,a.length<=xs.length->step (a,(xs.length:Int))=some (.inr (d a))):lp step ([],0)=some (d ((xs.filter p).map g)):=by
 have:=(Qp0 xs.length (fun a i=>if p (xs.getD i default)=true then a++[g (xs.getD i default)] else a) d [] (fun i a=>a.length<=i) (Yf _) (fun i a _ h=>by split<;>(try simp)<;>omega) h1 h2).1;rwa[Qse] at this
theorem QxT {β:Type} {step:Int->Option (Int⊕β)} {s0:Int} (n s:Nat) (I:s0=(s:Int)) (p:Nat->Bool) (e d:β) (h1:∀i:Nat,s<=i->i<n->step i=some (if p i=true then .inl ((i+1:Nat):Int) else .inr e)) (h2:∀i:Nat,n<=i->step i=some (.inr d)):
  lp step s0=some (bif QaL n (fun i=>decide (i<s)||p i) then d else e):=by
 subst I;have key:∀k i:Nat,i+k=n->s<=i->(∀j,j<i->(decide (j<s)||p j)=true)->lp step (i:Int)=some (bif QaL n (fun i=>decide (i<s)||p i) then d else e):=by
  intro k
  induction k with
  |zero=>
   intro i hi hs hp;have:i=n:=by omega
   subst this;rw[Jj (h2 i (Yf _)),Qfk hp];rfl
  |succ k O=>
   intro i hi J hp;have hs:=h1 i J (by omega)
   by_cases G:p i=true
   ·rw[Y2 G] at hs;rw[Qac hs];refine O (i+1) (by omega) (by omega) fun j hj=>?_;rcases YX j i with h|h
    ·exact hp j h
    ·have:j=i:=by omega
     subst this;simp[G]
   ·rw[Y1 G] at hs;rw[Jj hs,QiO (i:=i) (by omega) (by simp[G];omega)];rfl
 rcases YX n s with h|h
 ·rw[Jj (h2 s (by omega)),Qfk fun i hi=>by simp;omega];rfl
 ·exact key (n-s) s (by omega) (Yf _) fun j hj=>by simp[hj]
theorem QxU {ls:List Bs} (h:∀l∈ls,l.length<=1000000) (hn:ls.length<=1000000):Qdd (ls.map tS)=some ((ls.map Qc8).map tS):=by
 unfold Qdd;rw[QhQ ls.length (fun i=>tS (Qc8 (ls.getD i []))) (fun a=>(a.length,a)) (fun i a hi ha=>?_) (fun a ha=>?_),Qa]
 ·have:=QdI ls (fun l=>tS (Qc8 l));rw[Xq];exact congrArg some this
 ·dsimp only;rw[Y2 (by simp;omega),Qd (by simp;omega),Y4,ZN hi,QtX (h _ (QaY hi)),Qa,Qd (by simp;omega),Qk hi (by omega)]
 ·dsimp only;rw[Y1 (by simp)]
def Qmd (ls:List Bs):Bool:=QaL ls.length fun i=>decide (i<1)||bsl (tS (ls.getD (i-1) [])) (tS (ls.getD i []))
def Qvw (G:List Bs):Bool:=!(QaL G.length fun i=>!((G.take i).any fun k=>k==G.getD i []))
def Qcj (ls:List Bs):Int:=if ls.length>16 then 1 else bif ls.any (fun l=>!QaE l) then 2 else bif !Qmd ls then 3 else bif Qvw (ls.map Qc8) then 4 else 0
theorem QxV {l:Bs} (h:QaE l=true):Qc8 l≠ []:=by
 have⟨ws,hc,hb,hj,G⟩:=QbV h;have W:=QcT hc;have hk:=QnU (Qsd hb);unfold Qc8;rw[h,XP,G]
 cases ws with
 |nil=>exact absurd rfl (QnV hb)
 |cons a t=>
  have ha:a≠ []:=W.ne a (by simp);generalize keyN ((a::t).getD 0 [])=k at hk
  cases k with
  |zero=>omega
  |succ k=>
   intro e;have:a++(t.take k).flatMap (fun w=>32::w)=[]:=e;exact ha (List.append_eq_nil_iff.1 this).1
theorem Qvx (l:Bs):(tS (Qc8 l)==(⟨#[]⟩:Bt))=!QaE l:=by
 rw[QhK]
 cases h:QaE l
 ·unfold Qc8;rw[h];rfl
 ·have:=QxV h
  cases hk:Qc8 l with
  |nil=>exact absurd hk this
  |cons _ _=>rfl
theorem QAa {xs:List Bs} {a:Bs}:(xs.map tS).any (· ==tS a)=xs.any fun k=>k==a:=by
 rw[Y00]
 congr 1
 funext k
 exact Jk k a
theorem Qqe {α:Type} (xs:List α) (d:α) (p:α->Bool):xs.any p=!QaL xs.length fun i=>!p (xs.getD i d):=by
 rw[YI,YH,YF,<-Bool.not_eq_true,Qdt]
 constructor
 ·rintro⟨x,G,hp⟩ h;have⟨i,hi,e⟩:=Xm G;have:=h i hi;rw[Y0,Y6 hi,X6,e,hp] at this
  cases this
 ·intro h;refine Decidable.byContradiction fun hc=>h fun i hi=>?_;have hm:xs.getD i d∈xs:=by rw[Y0,Y6 hi];exact X0 hi
  cases hp:p (xs.getD i d)
  ·rfl
  ·exact absurd ⟨_,hm,hp⟩ hc
theorem QtY {ls:List Bs} (h:∀l∈ls,l.length≤1000000) (hn:ls.length≤1000000):Q3 (ls.map tS)=some (Qcj ls):=by
 unfold Q3 Qcj;rw[QxU h hn];simp only[List.length_map]
 by_cases h16:ls.length>16
 ·rw[if_pos (by simp;omega),if_pos h16]
 rw[if_neg (by simp;omega),if_neg h16,Qa];rw[Qhd ls.length (fun i=>QaE (ls.getD i [])) (.inl ()) (.inr ()) (fun i hi _=>?_) (fun _=>by rw[if_neg (by simp)]),Qa]
 ·have e1:ls.any (fun l=>!QaE l)=!QaL ls.length fun i=>QaE (ls.getD i []):=by
   rw[Qqe ls []];simp only[Bool.not_not]
  rw[e1]
  cases hk:QaL ls.length fun i=>QaE (ls.getD i [])
  ·rfl
  rw[if_pos rfl];dsimp only;rw[QxT (s0:=1) ls.length 1 rfl (fun i=>bsl (tS (ls.getD (i-1) [])) (tS (ls.getD i []))) (.inl ()) (.inr ()) (fun i h1 hi=>?_) (fun i hi=>by rw[if_neg (by simp;omega)]),Qa]
  ·rw[show(QaL ls.length fun i=>decide (i<1)||bsl (tS (ls.getD (i-1) [])) (tS (ls.getD i [])))=Qmd ls from rfl]
   cases hs:Qmd ls
   ·rfl
   dsimp only[cond_true];rw[Qhd ls.length (fun i=>!(((ls.map Qc8).take i).any fun k=>k==(ls.map Qc8).getD i [])) (.inl ()) (.inr ()) (fun i hi _=>?_) (fun _=>by rw[if_neg (by simp)]),Qa]
   ·unfold Qvw;rw[List.length_map]
    cases QaL ls.length fun i=>!(((ls.map Qc8).take i).any fun k=>k==(ls.map Qc8).getD i [])<;>rfl
   ·have hik:i<(ls.map Qc8).length:=by rw[List.length_map];exact hi
    rw[if_pos (by simp;omega),Qd (by simp only[List.length_map];omega),Qd (by simp only[List.length_map];omega),Int.toNat_natCast,QnW,ZN hik,Qq4 (by rw[List.length_map,List.length_take];omega),Qa,QAa,Qk hi (by omega)]
    cases ((ls.map Qc8).take i).any fun k=>k==(ls.map Qc8).getD i []<;>rfl
  ·have e:=QkL hi (by omega) (by omega);rw[if_pos (by simp;omega),e,Qd (by omega),Qd (by omega),Int.toNat_natCast,Int.toNat_natCast,ZN (by omega),ZN hi,Qk hi (by omega)]
   cases bsl (tS (ls.getD (i-1) [])) (tS (ls.getD i []))<;>rfl
 ·have hik:i<(ls.map Qc8).length:=by rw[List.length_map];exact hi
  have ek:(ls.map Qc8).getD i []=Qc8 (ls.getD i []):=by
   simp[List.getD_eq_getElem?_getD,hi]
  rw[if_pos (by simp;omega),Qd (by simp only[List.length_map];omega),Int.toNat_natCast,ZN hik,ek,Qvx,Qk hi (by omega)]
  cases QaE (ls.getD i [])<;>rfl
end Go.Proofs.YtoknnjiangjccaaGreatDoor
