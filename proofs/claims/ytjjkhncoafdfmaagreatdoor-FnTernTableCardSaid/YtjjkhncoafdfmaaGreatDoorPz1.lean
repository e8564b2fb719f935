/-
  Plain Lean: what the models of functions compute; no condition.
-/
import Derived.Test.YtjjkhncoafdfmaaGreatDoorKz5
import Derived.Test.YtjjkhncoafdfmaaGreatDoorAbz8
set_option linter.all false
namespace Go.Proofs.YtjjkhncoafdfmaaGreatDoor
open Go Go.Ab
set_option maxHeartbeats 4000000
set_option maxRecDepth 100000
def Post {α:Type} (m:Option α) (Q:α->Prop):Prop:=∃x,m=some x∧Q x
theorem Post.ret {α:Type} {x:α} {Q:α->Prop} (h:Q x):Post (some x) Q:=⟨x,rfl,h⟩
theorem Post.bd {α β:Type} {m:Option α} {f:α->Option β} {Q:α->Prop} {R:β->Prop} (h:Post m Q) (k:∀x,Q x->Post (f x) R):Post (bd m f) R:=by
 have⟨x,e,I⟩:=h;rw[e,Qa];exact k x I
theorem Post.gd {α:Type} {c:Prop} [Decidable c] {m:Option α} {Q:α->Prop} (h:c) (k:Post m Q):Post (gd c m) Q:=by rwa[Qd h]
theorem Post.ite {α:Type} {c:Prop} [Decidable c] {a b:Option α} {Q:α->Prop} (I:c->Post a Q) (J:¬c->Post b Q):Post (if c then a else b) Q:=by
 by_cases h:c
 ·rw[Y4 h];exact I h
 ·rw[Y3 h];exact J h
theorem Post.mono {α:Type} {m:Option α} {Q R:α->Prop} (h:Post m Q) (k:∀x,Q x->R x):Post m R:=by
 have⟨x,e,I⟩:=h;exact⟨x,e,k x I⟩
theorem Post.lp {σ β:Type} {step:σ->Option (σ⊕β)} {s0:σ} {Q:β->Prop} (J:σ->Prop) (I:σ->Nat) (U:J s0)
  (hs:∀s,J s->Post (step s) fun r=>match r with| .inl s'=>J s'∧I s'<I s| .inr b=>Q b):Post (lp step s0) Q:=by
 have key:∀n s,I s<=n->J s->Post (Go.Ab.lp step s) Q:=by
  intro n
  induction n with
  |zero=>
   intro s hm hi;have⟨r,e,N⟩:=hs s hi
   cases r with
   |inl s'=>exact absurd N.2 (by omega)
   |inr b=>exact⟨b,Zr e,N⟩
  |succ n O=>
   intro s hm hi;have⟨r,e,N⟩:=hs s hi
   cases r with
   |inl s'=>
    rw[Ji e];exact O s' (by have:=N.2;omega) N.1
   |inr b=>exact⟨b,Zr e,N⟩
 exact key (I s0) s0 (Yh _) U
theorem QoI {α:Type} [Inhabited α] {p:α->Prop} {xs:List α} (h:∀x∈xs,p x) (I:p default) (i:Nat):p (xs.getD i default):=by
 rw[Y0];rcases hx:xs[i]? with _|x
 ·exact I
 ·exact h _ (Xb hx)
theorem Qj3 {a b:Int} (I:0<=a∧a<=4611686018427387904) (hb:0<=b∧b<=4611686018427387904):0<=bits .xor .i64 a b:=by
 unfold bits;have e1:IntKind.bits .i64=64:=rfl;have l:∀x:Int,0<=x∧x<=4611686018427387904->(BitVec.ofInt 64 x).toNat<2^63:=fun x hx=>by
  rw[BitVec.toNat_ofInt];omega
 have h:(BitVec.ofInt 64 a^^^BitVec.ofInt 64 b).toNat<2^63:=by
  rw[BitVec.toNat_xor];exact Nat.xor_lt_two_pow (l a I) (l b hb)
 show 0<=IntKind.i64.wrap (((BitVec.ofInt 64 a^^^BitVec.ofInt 64 b).toNat:Nat):Int);rw[Ql (by omega) (by omega)];omega
theorem Qxd {α β σ:Type} {step:σ->Option (σ⊕β)} (enc:α->Nat->σ) (n:Nat) (f:α->Nat->α) (d:α->β) (a0:α) (I:Nat->α->Prop) (U:I 0 a0) (hi:∀i a,i<n->I i a->I (i+1) (f a i))
  (h1:∀(i:Nat) (a:α),i<n->I i a->step (enc a i)=some (.inl (enc (f a i) (i+1)))) (h2:∀a,I n a->step (enc a n)=some (.inr (d a))):
  lp step (enc a0 0)=some (d ((List.range n).foldl f a0))∧I n ((List.range n).foldl f a0):=by
 have key:∀k i:Nat,i+k=n->∀a,I i a->lp step (enc a i)=some (d ((List.range' i k).foldl f a))∧I n ((List.range' i k).foldl f a):=by
  intro k
  induction k with
  |zero=>
   intro i N a J;have:i=n:=by omega
   subst this;exact⟨Zr (h2 a J),J⟩
  |succ k O=>
   intro i N a J;rw[Ji (h1 i a (by omega) J),List.range'_succ,Yy];exact O (i+1) (by omega) _ (hi i a (by omega) J)
 have:=key n 0 (by omega) a0 U;rwa[<-List.range_eq_range'] at this
theorem Qj4 {α β γ σ:Type} {step:σ->Option (σ⊕β)} {k:β->Option γ} {s0:σ} (enc:α->Nat->σ) (n:Nat) (f:α->Nat->α) (d:α->β) (a0:α) (I:Nat->α->Prop) (hs:s0=enc a0 0) (J:I 0 a0) (hi:∀i a,i<n->I i a->I (i+1) (f a i))
  (h1:∀(i:Nat) (a:α),i<n->I i a->step (enc a i)=some (.inl (enc (f a i) (i+1)))) (h2:∀a,I n a->step (enc a n)=some (.inr (d a))):
  bd (lp step s0) k=k (d ((List.range n).foldl f a0)):=by
 rw[hs,(Qxd enc n f d a0 I J hi h1 h2).1,Qa]
theorem getD_set {α:Type} [Inhabited α] {xs:List α} {i:Nat} {v:α} (h:i<xs.length):(xs.set i v).getD i default=v:=by
 simp[Y0,h]
structure RdOk (r:l1Rd) (k:Int):Prop where
 bytes:∀x∈r.b,Qox x
 len:r.b.length≤2000
 p0:0≤r.p
 p1:r.p≤k
theorem Qve {b:List Int} (hb:b.length<=9223372036854775807) (h:∀x∈b,Qox x):Post (Qd8 b) fun r=>RdOk r 0:=by
 unfold Qd8;refine .ite (fun h1=>.gd ?_ (.ret ⟨fun x I=>h x (Xv I),?_,X7 _,X7 _⟩)) fun h1=>.ret ⟨h,?_,X7 _,X7 _⟩
 ·simp at h1;omega
 ·simp;omega
 ·show b.length<=2000;simp at h1;omega
theorem Qvf {r:l1Rd} {n k:Int} (h:RdOk r k) (hk:k<=1099511627776) (hn:1<=n):Post (Qu r n) fun x=>(0<=x.1∧x.1<n)∧RdOk ⟨r.b,x.2.p⟩ (k+1):=by
 have⟨h1,h2,h3,h4⟩:=h;unfold Qu;have e1:IntKind.i64.wrap (r.p+1)=r.p+1:=Ql (by omega) (by omega);have e2:IntKind.i64.wrap (r.p+1-1)=r.p:=(Ql (n:=r.p+1-1) (by omega) (by omega)).trans (by omega);have e3:IntKind.i64.wrap (r.p*7)=r.p*7:=Ql (by omega) (by omega);have e4:IntKind.i64.wrap (r.p*7+3)=r.p*7+3:=Ql (by omega) (by omega);have e5:IntKind.i64.wrap (r.p*29)=r.p*29:=Ql (by omega) (by omega);rw[e1,e2,e3,e4,e5];have ok:RdOk ⟨r.b,r.p+1⟩ (k+1):=⟨h1,h2,by dsimp only;omega,by dsimp only;omega⟩;have I:∀i:Nat,0<=r.b.getD i default∧r.b.getD i default<=255:=fun i=>QoI h1 ⟨X7 _,by decide⟩ i;have O:∀i:Nat,IntKind.i64.wrap (r.b.getD i default)=r.b.getD i default:=fun i=>by have:=I i;exact Ql (by omega) (by omega)
 have Y:∀x:Int,0<=x->0<=x.tmod n∧x.tmod n<n:=fun x hx=>⟨XN _ hx,Xw _ (by omega)⟩;refine .ite (fun _=>.ret ⟨⟨X7 _,by dsimp only;omega⟩,ok⟩) fun c1=>.ite (fun c2=>.gd ⟨h3,by simpa using c2⟩ (.gd (by omega) (.ret ⟨?_,ok⟩))) fun c2=>?_
 ·rw[O];exact Y _ (I _).1
 ·have hl:(0:Int)<(r.b.length:Nat):=by
   have:r.b.length≠0:=fun e=>c1 (by rw[e];simp);omega
  have m1:0<=r.p.tmod (r.b.length:Nat)∧r.p.tmod (r.b.length:Nat)<(r.b.length:Nat):=⟨XN _ h3,Xw _ hl⟩;have m2:0<=(r.p*7+3).tmod (r.b.length:Nat)∧(r.p*7+3).tmod (r.b.length:Nat)<(r.b.length:Nat):=⟨XN _ (by omega),Xw _ hl⟩;refine .gd (by omega) (.gd m1 (.gd (by omega) (.gd m2 (.gd (by omega) (.gd (by decide) (.gd (by omega) (.ret ⟨?_,ok⟩)))))));have b1:=I (r.p.tmod (r.b.length:Nat)).toNat
  have b2:=I ((r.p*7+3).tmod (r.b.length:Nat)).toNat
  have d1:0<=r.p.tdiv (r.b.length:Nat)∧r.p.tdiv (r.b.length:Nat)<=r.p:=by
   refine⟨Int.tdiv_nonneg h3 (by omega),?_⟩;rw[Xx h3];exact Int.ediv_le_self _ h3
  rw[O,O];generalize r.b.getD (r.p.tmod (r.b.length:Nat)).toNat default=U at*;generalize r.b.getD ((r.p*7+3).tmod (r.b.length:Nat)).toNat default=J at*;generalize r.p.tdiv (r.b.length:Nat)=N at*;simp (disch:=omega) only[Ql];have hX:0<=U*131+J*1117+r.p*29+N*53∧U*131+J*1117+r.p*29+N*53<=4611686018427387904:=by omega
  generalize U*131+J*1117+r.p*29+N*53=X at*;have d2:0<=X.tdiv 64∧X.tdiv 64<=4611686018427387904:=by
   rw[Xx hX.1];omega
  rw[Ql (n:=X.tdiv 64) (by omega) (by omega)];exact Y _ (Qj3 hX d2)
structure RdOk5 (r:QCf) (k:Int):Prop where
 bytes:∀x∈r.b,Qox x
 len:r.b.length≤2000
 p0:0≤r.p
 p1:r.p≤k
theorem QtM {r:QCf} {n k:Int} (h:RdOk5 r k) (hk:k<=1099511627776) (hn:1<=n):Post (Q1 r n) fun x=>(0<=x.1∧x.1<n)∧RdOk5 ⟨r.b,x.2.p⟩ (k+1):=by
 have⟨h1,h2,h3,h4⟩:=h;unfold Q1;have e1:IntKind.i64.wrap (r.p+1)=r.p+1:=Ql (by omega) (by omega);have e2:IntKind.i64.wrap (r.p+1-1)=r.p:=(Ql (n:=r.p+1-1) (by omega) (by omega)).trans (by omega);have e3:IntKind.i64.wrap (r.p*7)=r.p*7:=Ql (by omega) (by omega);have e4:IntKind.i64.wrap (r.p*7+3)=r.p*7+3:=Ql (by omega) (by omega);have e5:IntKind.i64.wrap (r.p*29)=r.p*29:=Ql (by omega) (by omega);rw[e1,e2,e3,e4,e5];have ok:RdOk5 ⟨r.b,r.p+1⟩ (k+1):=⟨h1,h2,by dsimp only;omega,by dsimp only;omega⟩;have I:∀i:Nat,0<=r.b.getD i default∧r.b.getD i default<=255:=fun i=>QoI h1 ⟨X7 _,by decide⟩ i;have O:∀i:Nat,IntKind.i64.wrap (r.b.getD i default)=r.b.getD i default:=fun i=>by have:=I i;exact Ql (by omega) (by omega)
 have Y:∀x:Int,0<=x->0<=x.tmod n∧x.tmod n<n:=fun x hx=>⟨XN _ hx,Xw _ (by omega)⟩;refine .ite (fun _=>.ret ⟨⟨X7 _,by dsimp only;omega⟩,ok⟩) fun c1=>.ite (fun c2=>.gd ⟨h3,by simpa using c2⟩ (.gd (by omega) (.ret ⟨?_,ok⟩))) fun c2=>?_
 ·rw[O];exact Y _ (I _).1
 ·have hl:(0:Int)<(r.b.length:Nat):=by
   have:r.b.length≠0:=fun e=>c1 (by rw[e];simp);omega
  have m1:0<=r.p.tmod (r.b.length:Nat)∧r.p.tmod (r.b.length:Nat)<(r.b.length:Nat):=⟨XN _ h3,Xw _ hl⟩;have m2:0<=(r.p*7+3).tmod (r.b.length:Nat)∧(r.p*7+3).tmod (r.b.length:Nat)<(r.b.length:Nat):=⟨XN _ (by omega),Xw _ hl⟩;refine .gd (by omega) (.gd m1 (.gd (by omega) (.gd m2 (.gd (by omega) (.gd (by decide) (.gd (by omega) (.ret ⟨?_,ok⟩)))))));have b1:=I (r.p.tmod (r.b.length:Nat)).toNat
  have b2:=I ((r.p*7+3).tmod (r.b.length:Nat)).toNat
  have d1:0<=r.p.tdiv (r.b.length:Nat)∧r.p.tdiv (r.b.length:Nat)<=r.p:=by
   refine⟨Int.tdiv_nonneg h3 (by omega),?_⟩;rw[Xx h3];exact Int.ediv_le_self _ h3
  rw[O,O];generalize r.b.getD (r.p.tmod (r.b.length:Nat)).toNat default=U at*;generalize r.b.getD ((r.p*7+3).tmod (r.b.length:Nat)).toNat default=J at*;generalize r.p.tdiv (r.b.length:Nat)=N at*;simp (disch:=omega) only[Ql];have hX:0<=U*131+J*1117+r.p*29+N*53∧U*131+J*1117+r.p*29+N*53<=4611686018427387904:=by omega
  generalize U*131+J*1117+r.p*29+N*53=X at*;have d2:0<=X.tdiv 64∧X.tdiv 64<=4611686018427387904:=by
   rw[Xx hX.1];omega
  rw[Ql (n:=X.tdiv 64) (by omega) (by omega)];exact Y _ (Qj3 hX d2)
structure RdOk4 (r:QCi) (k:Int):Prop where
 bytes:∀x∈r.b,Qox x
 len:r.b.length≤2000
 p0:0≤r.p
 p1:r.p≤k
theorem QtN {r:QCi} {n k:Int} (h:RdOk4 r k) (hk:k<=1099511627776) (hn:1<=n):Post (QT r n) fun x=>(0<=x.1∧x.1<n)∧RdOk4 ⟨r.b,x.2.p⟩ (k+1):=by
 have⟨h1,h2,h3,h4⟩:=h;unfold QT;have e1:IntKind.i64.wrap (r.p+1)=r.p+1:=Ql (by omega) (by omega);have e2:IntKind.i64.wrap (r.p+1-1)=r.p:=(Ql (n:=r.p+1-1) (by omega) (by omega)).trans (by omega);have e3:IntKind.i64.wrap (r.p*7)=r.p*7:=Ql (by omega) (by omega);have e4:IntKind.i64.wrap (r.p*7+3)=r.p*7+3:=Ql (by omega) (by omega);have e5:IntKind.i64.wrap (r.p*29)=r.p*29:=Ql (by omega) (by omega);rw[e1,e2,e3,e4,e5];have ok:RdOk4 ⟨r.b,r.p+1⟩ (k+1):=⟨h1,h2,by dsimp only;omega,by dsimp only;omega⟩;have I:∀i:Nat,0<=r.b.getD i default∧r.b.getD i default<=255:=fun i=>QoI h1 ⟨X7 _,by decide⟩ i;have O:∀i:Nat,IntKind.i64.wrap (r.b.getD i default)=r.b.getD i default:=fun i=>by have:=I i;exact Ql (by omega) (by omega)
 have Y:∀x:Int,0<=x->0<=x.tmod n∧x.tmod n<n:=fun x hx=>⟨XN _ hx,Xw _ (by omega)⟩;refine .ite (fun _=>.ret ⟨⟨X7 _,by dsimp only;omega⟩,ok⟩) fun c1=>.ite (fun c2=>.gd ⟨h3,by simpa using c2⟩ (.gd (by omega) (.ret ⟨?_,ok⟩))) fun c2=>?_
 ·rw[O];exact Y _ (I _).1
 ·have hl:(0:Int)<(r.b.length:Nat):=by
   have:r.b.length≠0:=fun e=>c1 (by rw[e];simp);omega
  have m1:0<=r.p.tmod (r.b.length:Nat)∧r.p.tmod (r.b.length:Nat)<(r.b.length:Nat):=⟨XN _ h3,Xw _ hl⟩;have m2:0<=(r.p*7+3).tmod (r.b.length:Nat)∧(r.p*7+3).tmod (r.b.length:Nat)<(r.b.length:Nat):=⟨XN _ (by omega),Xw _ hl⟩;refine .gd (by omega) (.gd m1 (.gd (by omega) (.gd m2 (.gd (by omega) (.gd (by decide) (.gd (by omega) (.ret ⟨?_,ok⟩)))))));have b1:=I (r.p.tmod (r.b.length:Nat)).toNat
  have b2:=I ((r.p*7+3).tmod (r.b.length:Nat)).toNat
  have d1:0<=r.p.tdiv (r.b.length:Nat)∧r.p.tdiv (r.b.length:Nat)<=r.p:=by
   refine⟨Int.tdiv_nonneg h3 (by omega),?_⟩;rw[Xx h3];exact Int.ediv_le_self _ h3
  rw[O,O];generalize r.b.getD (r.p.tmod (r.b.length:Nat)).toNat default=U at*;generalize r.b.getD ((r.p*7+3).tmod (r.b.length:Nat)).toNat default=J at*;generalize r.p.tdiv (r.b.length:Nat)=N at*;simp (disch:=omega) only[Ql];have hX:0<=U*131+J*1117+r.p*29+N*53∧U*131+J*1117+r.p*29+N*53<=4611686018427387904:=by omega
  generalize U*131+J*1117+r.p*29+N*53=X at*;have d2:0<=X.tdiv 64∧X.tdiv 64<=4611686018427387904:=by
   rw[Xx hX.1];omega
  rw[Ql (n:=X.tdiv 64) (by omega) (by omega)];exact Y _ (Qj3 hX d2)
abbrev Bs:=List UInt8
def tB (s:Bt):Bs:=s.data.toList
def tS (l:Bs):Bt:=⟨l.toArray⟩
@[simp] theorem Qip (l:Bs):tB (tS l)=l:=by simp [tB,tS]
@[simp] theorem Qvg (s:Bt):tS (tB s)=s:=by cases s; simp [tB,tS]
@[simp] theorem Qvh (s:Bt):(tB s).length=s.size:=by cases s; simp [tB,ByteArray.size]
@[simp] theorem Qbf (l:Bs):(tS l).size=l.length:=by simp [tS,ByteArray.size]
theorem Qvi {s t:Bt} (h:tB s=tB t):s=t:=by rw[<-Qvg s,h,Qvg]
theorem Qyt {s t:Bs} (h:tS s=tS t):s=t:=by rw[<-Qip s,h,Qip]
theorem Qp0 {s t:Bt}:(s==t)=true↔s=t:=by
 constructor
 ·intro h;have h1:(s.data==t.data)=true:=h;have h2:s.data=t.data:=by simpa using h1
  cases s;cases t;simp_all
 ·intro h;subst h;show(s.data==s.data)=true;simp
instance:ReflBEq Bt:=⟨Qp0.2 rfl⟩
instance:LawfulBEq Bt:={eq_of_beq:=fun h=>Qp0.1 h}
theorem Jk (s t:Bs):(tS s==tS t)=(s==t):=by
 rw[YH];simp only[YD];exact⟨Qyt,fun h=>h▸rfl⟩
theorem QnL (s:Bt) (i j:Nat):tB (s.extract i j)=((tB s).take j).drop i:=by
 simp[tB,ByteArray.data_extract,List.extract_eq_drop_take,List.drop_take]
theorem Qxe {l:Bs} {i:Nat} (h:i<l.length):JB (tS l) i=((l.getD i 0).toNat:Int):=by
 unfold JB;have hs:i<(tS l).size:=by simpa using h
 have:(tS l)[i]? =some (l.getD i 0):=by
  rw[getElem?_pos (tS l) i hs];show some (l.toArray[i]'(by simpa using h))=_;simp[Y0,h]
 rw[this]
theorem QgW {α:Type} {q:α->Bool}:∀ {l:List α} {i:Nat},i<l.length->(∀k x,k<i->l[k]? =some x->q x=true)->(∀x,l[i]? =some x->q x=false)->l.takeWhile q=l.take i
 |[],i,h,_,_=>by simp at h
 |a::r,0,_,_,h2=>by simp[YV,h2 a rfl]
 |a::r,i+1,h,h1,h2=>by
  have:=h1 0 a (by omega) rfl;simp only[YV,this,YE,Xr];rw[QgW (l:=r) (i:=i) (by simpa using h) (fun k x hk I=>h1 (k+1) x (by omega) (by simpa using I)) fun x I=>h2 x (by simpa using I)]
theorem Qf1 {α:Type} {q:α->Bool} {l:List α} (h:∀x∈l,q x=true):l.takeWhile q=l:=by
 induction l with
 |nil=>rfl
 |cons a r I=>simp[YV,h a (by simp),I fun x J=>h x (by simp[J])]
theorem QdF {α:Type} {q:α->Bool}:∀ {l:List α},l.take (l.takeWhile q).length=l.takeWhile q
 |[]=>rfl
 |a::r=>by
  by_cases h:q a=true
  ·simp[YV,h,QdF (l:=r)]
  ·simp[YV,h]
theorem Qbi (c:UInt8):∀l:Bs,Lib.index l [c]=if c∈l then((l.takeWhile (· !=c)).length:Int) else-1
 |[]=>by simp[Lib.index]
 |b::r=>by
  have I:=Qbi c r;unfold Lib.index
  by_cases hb:b=c
  ·subst hb;simp[List.isPrefixOf]
  ·have h1:([c].isPrefixOf (b::r))=false:=by simp[List.isPrefixOf,YY hb]
   have h2:(b !=c)=true:=by simpa using hb
   rw[h1,I]
   by_cases hc:c∈r
   ·have:¬((((r.takeWhile (· !=c)).length:Int))== -1)=true:=by
     rw[YD];omega
    rw[Y4 hc,Y3 (by decide),Y3 this,Y4 (by simp[hc])];simp[h2,YV]
   ·simp[hc,YY hb]
def Qdc (c:UInt8):Bs->List Bs
 |[]=>[[]]
 |b::r=>if b=c then []::Qdc c r else match Qdc c r with
  |[]=>[[b]]
  |w::ws=>(b::w)::ws
theorem QoJ (c:UInt8):∀l,Qdc c l≠ []
 |[]=>by simp[Qdc]
 |b::r=>by
  unfold Qdc;split
  ·simp
  ·split<;>simp
theorem QeL {c:UInt8}:∀ {l:Bs},c∉l->Qdc c l=[l]
 |[],_=>rfl
 |b::r,h=>by
  have h1:b≠c:=fun e=>h (by simp[e]);have h2:c∉r:=fun e=>h (by simp[e]);simp[Qdc,h1,QeL h2]
theorem Qf2 {c:UInt8}:∀ {a r:Bs},c∉a->Qdc c (a++c::r)=a::Qdc c r
 |[],r,_=>by simp[Qdc]
 |b::a,r,h=>by
  have h1:b≠c:=fun e=>h (by simp[e]);have h2:c∉a:=fun e=>h (by simp[e]);simp[Qdc,h1,Qf2 h2]
theorem Qje {c:UInt8} {l:Bs} (h:c∈l):l=l.takeWhile (· !=c)++c::l.drop ((l.takeWhile (· !=c)).length+1)∧c∉l.takeWhile (· !=c):=by
 induction l with
 |nil=>simp at h
 |cons b r I=>
  by_cases hb:b=c
  ·subst hb;simp
  ·have hc:c∈r:=by simpa[YY hb] using h
   have⟨h1,h2⟩:=I hc;have J:(b !=c)=true:=by simpa using hb
   simp only[YV,J,YE,Y8,List.drop_succ_cons,Xq];refine⟨by rw[<-h1],?_⟩;simp[YY hb,h2]
theorem Qp1 (c:UInt8):∀(n:Nat) (l:Bs),l.length<=n->Lib.splitK [c] 0 (Lib.count l [c]) l=Qdc c l
 |n,l,hn=>by
  by_cases hc:c∈l
  ·have⟨h1,h2⟩:=Qje hc;have hi:Lib.index l [c]=((l.takeWhile (· !=c)).length:Int):=by rw[Qbi,Y4 hc]
   have hlen:(l.takeWhile (· !=c)).length+1<=l.length:=by
    have:=congrArg List.length h1;simp only[Yj,Y8] at this;omega
   rw[Lib.count_hit (by simp) hi,Y14 1]
   cases n with
   |zero=>simp at hn;subst hn;simp at hc
   |succ n=>
    have N:=Qp1 c n (l.drop ((l.takeWhile (· !=c)).length+1)) (by simp;omega);unfold Lib.splitK;rw[hi];have I:¬((((l.takeWhile (· !=c)).length:Nat):Int)== -1)=true:=by rw[YD];omega
    rw[Y3 I];simp only[Y1,X3,Y8,Yd,Yl];rw[N];have J:l.take (l.takeWhile (· !=c)).length=l.takeWhile (· !=c):=QdF;rw[J]
    conv=>rhs;rw[h1]
    rw[Qf2 h2]
  ·rw[Lib.count_miss (by rw[Qbi,Y3 hc]),QeL hc]
   rfl
theorem QoK (c:UInt8) (l:Bs):QmG (tS l) (tS [c])=(Qdc c l).map tS:=by
 have h:(QmG (tS l) (tS [c])).map tB=Qdc c l:=by
  have:=Lib.splitB_data (tS [c]) 0 (Lib.countB (tS l) (tS [c])) (tS l);unfold QmG;show(Lib.splitB (tS [c]) 0 (Lib.countB (tS l) (tS [c])) (tS l)).map (fun x=>x.data.toList)=_;rw[this];have e:Lib.countB (tS l) (tS [c])=Lib.count l [c]:=by
   show Lib.count (tB (tS l)) (tB (tS [c]))=_;rw[Qip,Qip]
  rw[e];show Lib.splitK (tB (tS [c])) 0 _ (tB (tS l))=_;rw[Qip,Qip];exact Qp1 c _ l (Yh _)
 rw[<-h,XT];have:(tS∘tB)=id:=funext fun s=>Qvg s;rw[this,List.map_id]
theorem Qre (c:UInt8) (l:Bs):Qul (tS l) (tS [c])=if c∈l then(tS (l.takeWhile (· !=c)),tS (l.drop ((l.takeWhile (· !=c)).length+1)),true) else(tS l,tS [],false):=by
 have e1:(tS l).data.toList=l:=Qip l;have J:(tS [c]).data.toList=[c]:=Qip [c];unfold Qul;rw[e1,J];unfold Lib.cut;rw[Qbi]
 by_cases hc:c∈l
 ·have⟨h1,h2⟩:=Qje hc;have I:l.take (l.takeWhile (· !=c)).length=l.takeWhile (· !=c):=QdF;simp[hc,I,tS]
 ·simp[hc,tS]
section
variable {α:Type} [Inhabited α]
noncomputable def QBp (pm:α->Option Bool) (a0:List α):Option Int:=
 bd (lp (σ:=Int) (β:=(Int⊕Unit)) (fun I=>
(if(decide (I<((a0.length:Nat):Int)))=true then
 gd ((0:Int)<=I∧I<((a0.length:Nat):Int))<|
 bd (pm (a0.getD I.toNat default)) fun N=>
(if N=true then
 some (.inr (.inl I))
else
 some (.inl (IntKind.i64.wrap (I+1))))
else
 some (.inr (.inr ())))) 0) fun O=>
(match O with
| .inl J=>
 some J
| .inr d8=>
 some (-1))
noncomputable def Qxf (pm:α->Option Bool) (a0:List α):Option Bool:=
 bd (QBp pm a0) fun I=>
 some (decide (I>=0))
noncomputable def QAY (pm:α->Option Bool) (a0:List α):Option (List α):=
 bd (QBp pm a0) fun N=>
(if(N==(-1))=true then
 some a0
else
 bd (lp (σ:=List α×Int×Int) (β:=(Nat×Int×(List α))) (fun I=>
(if(decide (I.2.2<((I.1.length:Nat):Int)))=true then
 gd ((0:Int)<=I.2.2∧I.2.2<((I.1.length:Nat):Int))<|
 bd (pm (I.1.getD I.2.2.toNat default)) fun O=>
(if(!O)=true then
 gd ((0:Int)<=I.2.1∧I.2.1<((I.1.length:Nat):Int))<|
 some (.inl (I.1.set I.2.1.toNat (I.1.getD I.2.2.toNat default),IntKind.i64.wrap (I.2.1+1),IntKind.i64.wrap (I.2.2+1)))
else
 some (.inl (I.1,I.2.1,IntKind.i64.wrap (I.2.2+1))))
else
 some (.inr (I.1.length,I.2.1,I.1)))) (a0,N,IntKind.i64.wrap (N+1))) fun J=>
 gd ((0:Int)<=J.2.1∧J.2.1<=((J.1:Nat):Int)∧((J.1:Nat):Int)<=((J.1:Nat):Int))<|
 gd ((0:Int)<=(0:Int)∧(0:Int)<=J.2.1∧J.2.1<=((J.1:Nat):Int))<|
 some ((Qph J.2.2 J.2.1.toNat (QbP ((J.1:Nat):Int) J.2.1)).take J.2.1.toNat))
theorem Q0 {xs:List α} {i:Nat} (h:i<xs.length):xs.getD i default∈xs:=by
 rw[Y0,Y5 h];exact Xj h
theorem Qyu {pm:α->Option Bool} {p:α->Bool} {xs:List α} (hp:∀x∈xs,pm x=some (p x)) (h:xs.length<=1048576):
  QBp pm xs=some (match Zi (fun i=>p (xs.getD i default)) xs.length with|some i=>(i:Int)|none=>-1):=by
 unfold QBp;rw[Z8 xs.length (fun i=>p (xs.getD i default)) (fun i=>Sum.inl (i:Int)) (.inr ()) (fun i hi=>?_) (by rw[Y3 (by simp)]),Qa]
 ·cases Zi (fun i=>p (xs.getD i default)) xs.length<;>rfl
 ·rw[Y4 (by simp;omega),Qd (by omega),Y1,Qf hi (by omega),hp _ (Q0 hi),Qa];split<;>simp_all
theorem Qfx {p:α->Bool} {xs:List α}:xs.any p=(Zi (fun i=>p (xs.getD i default)) xs.length).isSome:=by
 cases h:Zi (fun i=>p (xs.getD i default)) xs.length with
 |none=>
  have:=JV h;simp only[Option.isSome_none,Y06];intro x I;have⟨i,hi,e⟩:=XA I;have:=this i hi;rw[Y0,Y5 hi] at this;rw[<-e];simpa using this
 |some i=>
  have⟨h1,h2,_⟩:=Z5 h;simp only[Option.isSome_some,X0];exact⟨_,Q0 h1,h2⟩
theorem Qmf {pm:α->Option Bool} {p:α->Bool} {xs:List α} (hp:∀x∈xs,pm x=some (p x)) (h:xs.length<=1048576):Qxf pm xs=some (xs.any p):=by
 unfold Qxf;rw[Qyu hp h,Qa,Qfx]
 cases Zi (fun i=>p (xs.getD i default)) xs.length with
 |none=>simp
 |some i=>simp
structure DlW (xs0:List α) (k:α→Bool) (xs:List α) (i j:Nat):Prop where
 lt:i<j
 le:j≤xs0.length
 len:xs.length=xs0.length
 take:xs.take i=(xs0.take j).filter k
 drop:∀q,j≤q→xs.getD q default=xs0.getD q default
theorem DlW.keep {xs0:List α} {k:α->Bool} {xs:List α} {i j:Nat} (h:DlW xs0 k xs i j) (J:j<xs0.length) (N:k (xs.getD j default)=true):DlW xs0 k (xs.set i (xs.getD j default)) (i+1) (j+1):=by
 have I:=h.drop j (Yh _);have hlt:=h.lt;have hl:=h.len;refine⟨by omega,J,by simp[h.len],?_,fun q hq=>?_⟩
 ·rw[XZ,List.take_set_of_le (Yh _),h.take,XZ (i:=j),Xy,I];rw[I] at N;have e1:(xs.set i (xs0.getD j default))[i]? =some (xs0.getD j default):=by rw[Y15,Y4 rfl,Y4 (by omega)]
  have O:xs0[j]? =some (xs0.getD j default):=by simp[Y0,J]
  rw[e1,O];show _++[xs0.getD j default]=_++([xs0.getD j default]).filter k;rw[X1,Y4 N]
  rfl
 ·have:(xs.set i (xs.getD j default)).getD q default=xs.getD q default:=by
   simp[Y0,Y15,show i≠q by omega]
  rw[this];exact h.drop q (by omega)
theorem DlW.skip {xs0:List α} {k:α->Bool} {xs:List α} {i j:Nat} (h:DlW xs0 k xs i j) (I:j<xs0.length) (J:k (xs.getD j default)=false):DlW xs0 k xs i (j+1):=by
 have N:=h.drop j (Yh _);have hlt:=h.lt;rw[N] at J;refine⟨by omega,I,h.len,?_,fun q hq=>h.drop q (by omega)⟩;have O:xs0[j]? =some (xs0.getD j default):=by simp[Y0,I]
 rw[XZ,Xy,<-h.take,O];show _=_++([xs0.getD j default]).filter k;rw[X1,Y3 (by rw[J];decide)];simp
theorem Qkw {k:α->Bool} {xs:List α} {n:Nat} (h:∀q,q<n->q<xs.length->k (xs.getD q default)=true):(xs.take n).filter k=xs.take n:=by
 refine List.filter_eq_self.2 fun x J=>?_;have⟨q,I,e⟩:=XA J;rw[Ym] at I;have:=h q (by omega) (by omega);rw[Y0,Y5 (by omega)] at this;rw[<-e,List.getElem_take];exact this
theorem Qp2 {xs:List α} {i l:Nat}:(Qph xs i l).take i=xs.take i:=by
 apply Y11
 intro q
 by_cases J:q<i
 ·by_cases I:q<xs.length
  ·simp[Qph,YP,J,I,show ¬i<=q by omega,Y0]
  ·rw[Xe (by simp;omega),Xe (by simp;omega)]
 ·rw[Xe (by simp;omega),Xe (by simp;omega)]
theorem Qvj {pm:α->Option Bool} {p:α->Bool} {xs:List α} (hp:∀x∈xs,pm x=some (p x)) (h:xs.length<=1048576):QAY pm xs=some (xs.filter fun x=>!p x):=by
 unfold QAY;rw[Qyu hp h,Qa]
 cases hf:Zi (fun i=>p (xs.getD i default)) xs.length with
 |none=>
  have:=JV hf;dsimp only;rw[Y4 (by decide)];have e:=Qkw (k:=fun r=>!p r) (xs:=xs) (n:=xs.length) fun q U _=>by simpa using this q U
  rw[X4] at e;rw[e]
 |some i=>
  have⟨h1,h2,h3⟩:=Z5 hf;dsimp only;rw[Y3 (by simp<;>omega)];have J:DlW xs (fun r=>!p r) xs i (i+1):=by
   refine⟨Nat.lt_succ_self _,h1,rfl,?_,fun _ _=>rfl⟩;have e2:xs[i]? =some (xs.getD i default):=by simp[Y0,h1]
   rw[XZ,Xy,e2,Qkw fun q U _=>by simpa using h3 q U];show _=_++([xs.getD i default]).filter (fun r=>!p r);rw[X1,Y3 (by rw[h2];decide)];simp
  have key:Post (lp (σ:=List α×Int×Int) (β:=(Nat×Int×(List α))) (fun I=>
    (if(decide (I.2.2<((I.1.length:Nat):Int)))=true then
    gd ((0:Int)<=I.2.2∧I.2.2<((I.1.length:Nat):Int))<|
    bd (pm (I.1.getD I.2.2.toNat default)) fun x7=>
    (if(!x7)=true then
    gd ((0:Int)<=I.2.1∧I.2.1<((I.1.length:Nat):Int))<|
    some (.inl (I.1.set I.2.1.toNat (I.1.getD I.2.2.toNat default),IntKind.i64.wrap (I.2.1+1),IntKind.i64.wrap (I.2.2+1)))
    else
    some (.inl (I.1,I.2.1,IntKind.i64.wrap (I.2.2+1))))
    else
    some (.inr (I.1.length,I.2.1,I.1)))) (xs,(i:Int),IntKind.i64.wrap ((i:Int)+1))) fun x=>∃q:Nat,x.2.1=(q:Int)∧q<=x.1∧x.2.2.take q=xs.filter (fun r=>!p r):=by
   rw[Qf h1 (by omega)];refine .lp (fun s=>∃q j:Nat,s.2.1=(q:Int)∧s.2.2=(j:Int)∧DlW xs (fun r=>!p r) s.1 q j) (fun s=>xs.length-s.2.2.toNat) ⟨i,i+1,rfl,rfl,J⟩ fun s ⟨q,j,Y,ej,D⟩=>?_;have⟨ys,sp,sj⟩:=s;dsimp only at Y ej D|-;subst Y ej;have hlt:=D.lt;have hle:=D.le;have hlen:=D.len;refine .ite (fun c=>?_) fun c=>.ret ?_
   ·have c:=YN c;have N:j<xs.length:=by omega
    refine .gd (by omega) ?_;have O:pm (ys.getD j default)=some (p (ys.getD j default)):=by rw[D.drop j (Yh _)];exact hp _ (Q0 N)
    rw[Y1,O,Qa,Qf (n:=xs.length) N (by omega)];refine .ite (fun k=>.gd (by omega) ?_) fun k=>.ret ⟨⟨q,j+1,rfl,rfl,D.skip N (by simpa using k)⟩,by dsimp only;omega⟩;rw[Y1,Qf (n:=xs.length) (by omega) (by omega)];exact .ret ⟨⟨q+1,j+1,rfl,rfl,D.keep N k⟩,by dsimp only;omega⟩
   ·have:j=xs.length:=by
     simp only[Y6] at c;omega
    refine⟨q,rfl,by dsimp only;omega,?_⟩;have t:=D.take;rw[this,X4] at t;exact t
  have⟨x,e,q,e1,e2,e3⟩:=key;refine(congrArg (fun m=>bd m _) e).trans ?_;rw[Qa,e1,Qd (by omega),Qd (by omega),Y1,Qp2,e3]
end
def iB (b:UInt8):Int:=(b.toNat:Int)
theorem Qxg (b:UInt8):0<=iB b∧iB b<=255:=by
 have:=b.toNat_lt;unfold iB;omega
theorem QAZ {a b:UInt8} (h:iB a=iB b):a=b:=by
 unfold iB at h;exact UInt8.toNat_inj.1 (by omega)
theorem Qmg {a b:UInt8}:(iB a==iB b)=(a==b):=by
 rw[YH];simp only[YD];exact⟨QAZ,fun h=>h▸rfl⟩
theorem QeM {l:Bs} {i:Nat} (h:i<l.length):JB (tS l) i=iB (l.getD i 0):=Qxe h
theorem Qsu:∀(I:List Int) (s:Bt),I.foldl (fun r n=>r.push (UInt8.ofNat n.toNat)) s=tS (tB s++I.map fun n=>UInt8.ofNat n.toNat)
 |[],s=>by simp
 |n::r,s=>by
  rw[Yy,Qsu r]
  congr 1
  simp[tB,ByteArray.push]
theorem Qxh (I:List Int):Qgq I=tS (I.map fun n=>UInt8.ofNat n.toNat):=by
 unfold Qgq;rw[Qsu]
 rfl
theorem Qmh (w:Bs):Qgq (QqF (w.map iB).length (rows Qo (w.map iB)))=tS w:=by
 rw[Qxh]
 congr 1
 apply Y11
 intro i
 by_cases h:i<w.length
 ·simp[QqF,QyY,h,iB,Y0]
 ·simp[QqF,h]
def Qa8 (l:Bs):List Bs:=(Qdc 32 l).filter fun w=>!w.isEmpty
def okB (b:UInt8):Bool:=decide (32<=b.toNat)&&decide (b.toNat<=126)
def stripL (l:Bs):Bs:=l.takeWhile (· !=35)
def QA0 (ws:List Bs):Bool:=decide (ws.length<=8)&&ws.all fun w=>decide (w.length<=24)
def Qiq (l:Bs):Option (List Bs):=if(stripL l).all okB=true∧QA0 (Qa8 (stripL l))=true then some (Qa8 (stripL l)) else none
theorem QtO {α:Type} (l:List α) (d:α) (p:α->Bool):(match Zi (fun i=>p (l.getD i d)) l.length with|some i=>l.take i|none=>l)=l.takeWhile fun x=>!p x:=by
 cases h:Zi (fun i=>p (l.getD i d)) l.length with
 |none=>
  have:=JV h;refine(Qf1 fun x I=>?_).symm;have⟨i,hi,e⟩:=XA I;have:=this i hi;rw[Y0,Y5 hi,YU,e] at this;simp[this]
 |some i=>
  have⟨h1,h2,h3⟩:=Z5 h;refine(QgW h1 (fun k x J I=>?_) fun x I=>?_).symm
  ·have:=h3 k J;rw[Y0,I,YU] at this;simp[this]
  ·rw[Y0,I,YU] at h2;simp[h2]
theorem QzA {l:Bs} (h:l.length<=1073741824):Qcw (tS l)=some (tS (stripL l)):=by
 unfold Qcw;rw[Z8 l.length (fun i=>l.getD i 0==35) (fun i=>Sum.inl ((tS l).extract 0 i)) (.inr ()) (fun i hi=>?_) (by rw[Y3 (by simp)]),Qa]
 ·have e:=QtO l 0 (fun x=>x==35);have I:stripL l=l.takeWhile fun x=>!(x==35):=rfl;rw[I,<-e]
  cases hf:Zi (fun i=>l.getD i 0==35) l.length with
  |none=>rfl
  |some i=>
   refine congrArg some (Qvi ?_);rw[QnL,Qip,Qip,XP]
 ·rw[Y4 (by simp;omega),Qd (by simp;omega),Y1,QeM hi,Qf hi (by omega)];have e:(iB (l.getD i 0)==35)=(l.getD i 0==35):=Qmg (b:=35);rw[e,Qd (by simp;omega)];split<;>simp_all
def Qvk:Bs->List Bs->Bs->Option (List Bs)
 |w,out,[]=>if w.length=0 then some out else if out.length+1>8 then none else some (out++[w])
 |w,out,c::r=>if okB c=false then none else if c≠32 then(if w.length+1>24 then none else Qvk (w++[c]) out r)
   else if w.length=0 then Qvk w out r else if out.length+1>8 then none else Qvk [] (out++[w]) r
theorem Qvl {c:UInt8} {a:Bs}:c∉a->∀r,Qdc c (a++r)=match Qdc c r with|[]=>[a]|x::xs=>(a++x)::xs:=by
 induction a with
 |nil=>
  intro _ r
  cases h:Qdc c r with
  |nil=>exact absurd h (QoJ c r)
  |cons x xs=>simp[h]
 |cons b a I=>
  intro h r;have h1:b≠c:=fun e=>h (by simp[e]);have h2:c∉a:=fun e=>h (by simp[e]);rw[Xq,Qdc,Y3 h1,I h2 r]
  cases h:Qdc c r with
  |nil=>exact absurd h (QoJ c r)
  |cons x xs=>simp
theorem Qrf {w:Bs} (h:(32:UInt8)∉w):Qa8 w=if w.isEmpty then [] else [w]:=by
 unfold Qa8;rw[QeL h]
 cases w<;>rfl
theorem Qp3 (r:Bs):Qa8 (32::r)=Qa8 r:=by
 unfold Qa8;rw[Qdc,Y4 rfl]
 rfl
theorem QtP {w:Bs} (h:(32:UInt8)∉w) (I:w.isEmpty=false) (r:Bs):Qa8 (w++32::r)=w::Qa8 r:=by
 unfold Qa8;rw[Qf2 h,X1,Y4 (by simp[I])]
theorem Qrg {w:Bs} (h:(32:UInt8)∉w) (I:w.isEmpty=false) (r:Bs):∃x∈Qa8 (w++r),w.length<=x.length:=by
 unfold Qa8;rw[Qvl h]
 cases hs:Qdc 32 r with
 |nil=>exact absurd hs (QoJ _ r)
 |cons x xs=>
  refine⟨w++x,Yp.2 ⟨by simp,?_⟩,by simp⟩
  cases w with
  |nil=>simp at I
  |cons _ _=>rfl
theorem QoL:∀(r w:Bs) (out:List Bs),(32:UInt8)∉w->w.length<=24->out.length<=8->
  Qvk w out r=if r.all okB=true∧(out++Qa8 (w++r)).length<=8∧(Qa8 (w++r)).all (fun w=>decide (w.length<=24))=true then some (out++Qa8 (w++r)) else none
 |[],w,out,h,hw,ho=>by
  rw[Qvk,Xp,Qrf h]
  cases w with
  |nil=>simp[ho]
  |cons b w=>
   have hl:w.length+1<=24:=by simpa using hw
   by_cases U:out.length+1>8
   ·have:¬out.length+1<=8:=by omega
    simp[U,this]
   ·have:out.length+1<=8:=by omega
    simp[U,this,hl]
 |c::r,w,out,h,hw,ho=>by
  rw[Qvk]
  by_cases hc:okB c=false
  ·simp[hc]
  have N:okB c=true:=by simpa using hc
  rw[Y3 hc]
  by_cases J:c=32
  ·subst J;rw[Y3 (by simp)]
   cases I:w with
   |nil=>
    rw[Y4 (c:=([]:Bs).length=0) rfl,QoL r [] out (by simp) (by simp) ho,YA,YA,Qp3];simp[N]
   |cons b w'=>
    rw[<-I];have a2:w.isEmpty=false:=by rw[I];rfl
    rw[Y3 (by rw[I];simp),QtP h a2]
    by_cases U:out.length+1>8
    ·rw[Y4 U,Y3];rintro⟨_,h2,_⟩;simp at h2;omega
    ·rw[Y3 U,QoL r [] (out++[w]) (by simp) (by simp) (by simp;omega),YA];have Y:decide (w.length<=24)=true:=Yq hw;simp only[XK,N,Y,Yn,X5,List.singleton_append]
  ·rw[Y4 J];have a1:(32:UInt8)∉w++[c]:=by simp[h,YY J]
   have e:w++c::r=(w++[c])++r:=by simp
   by_cases O:w.length+1>24
   ·rw[Y4 O,Y3];rintro⟨_,_,h3⟩;have⟨x,hx,hl⟩:=Qrg a1 (by simp) r;rw[e] at h3;have:=Ye.1 h3 x hx;simp at this hl;omega
   ·rw[Y3 O,QoL r (w++[c]) out a1 (by simp;omega) ho,e];simp[N]
theorem QoM {l:Bs} (h:l.length<=1073741824):Jq (tS l)=some (match Qiq l with|some ws=>(ws.map tS,true)|none=>([],false)):=by
 unfold Jq;rw[QzA h,Qa];have b2:(stripL l).length<=1073741824:=Xl (XU (XV _)) h;have hc:Qiq l=Qvk [] [] (stripL l):=by
  rw[QoL _ _ _ (by simp) (by simp) (by simp)];unfold Qiq QA0;simp only[YA,Y2,Y6]
 rw[hc];generalize stripL l=t at b2;have key:∀(k i:Nat) (w:Bs) (out:List Bs),i+k=t.length->w.length<=24->out.length<=8->
   lp (σ:=List Int×List Bt×Int) (β:=(Unit⊕(Nat×(List Bt)))) (fun I=>
(if(decide (I.2.2<=(((tS t).size:Nat):Int)))=true then
 gd ((decide (I.2.2<(((tS t).size:Nat):Int)))=true->((0:Int)<=I.2.2∧I.2.2<(((tS t).size:Nat):Int)))<|
 gd ((decide ((JB (tS t) I.2.2.toNat)<32))=false->((decide (I.2.2<(((tS t).size:Nat):Int)))=true->((0:Int)<=I.2.2∧I.2.2<(((tS t).size:Nat):Int))))<|
(if((decide (I.2.2<(((tS t).size:Nat):Int)))&&((decide ((JB (tS t) I.2.2.toNat)<32))||(decide ((JB (tS t) I.2.2.toNat)>126))))=true then
 some (.inr (.inl ()))
else
 gd ((decide (I.2.2<(((tS t).size:Nat):Int)))=true->((0:Int)<=I.2.2∧I.2.2<(((tS t).size:Nat):Int)))<|
(if((decide (I.2.2<(((tS t).size:Nat):Int)))&&((JB (tS t) I.2.2.toNat) !=32))=true then
 gd ((0:Int)<=I.2.2∧I.2.2<(((tS t).size:Nat):Int))<|
 gd (((I.1.length)+(([(JB (tS t) I.2.2.toNat)]:List Int).length))*(1+1)<=70368744177664)<|
(if(decide ((((I.1++([(JB (tS t) I.2.2.toNat)]:List Int)).length:Nat):Int)>24))=true then
 some (.inr (.inl ()))
else
 some (.inl ((I.1++([(JB (tS t) I.2.2.toNat)]:List Int)),I.2.1,IntKind.i64.wrap (I.2.2+1))))
else
(if(decide (((I.1.length:Nat):Int)>0))=true then
 gd (((I.2.1.length)+(([(Qgq (QqF I.1.length (rows Qo I.1)))]:List Bt).length))*(16+1)<=70368744177664)<|
(if(decide ((((I.2.1++([(Qgq (QqF I.1.length (rows Qo I.1)))]:List Bt)).length:Nat):Int)>8))=true then
 some (.inr (.inl ()))
else
 some (.inl (([]:List Int),(I.2.1++([(Qgq (QqF I.1.length (rows Qo I.1)))]:List Bt)),IntKind.i64.wrap (I.2.2+1))))
else
 some (.inl (I.1,I.2.1,IntKind.i64.wrap (I.2.2+1))))))
else
 some (.inr (.inr (I.2.1.length,I.2.1))))) (w.map iB,out.map tS,(i:Int))=some (match Qvk w out (t.drop i) with|some o=>.inr (o.length,o.map tS)|none=>.inl ()):=by
  intro k
  induction k with
  |zero=>
   intro i w out hi hw ho;have hi:i=t.length:=by omega
   subst hi;have hd:t.drop t.length=[]:=by simp
   rw[hd,Qvk];have a6:∀(u:List Int) (v:List Bt),IntKind.i64.wrap ((t.length:Int)+1)=((t.length+1:Nat):Int):=fun _ _=>Qf (n:=t.length+1) (by omega) (by omega);have a5:decide ((t.length:Int)<(((tS t).size:Nat):Int))=false:=by simp
   have N:decide ((t.length:Int)<=(((tS t).size:Nat):Int))=true:=by simp
   by_cases O:w.length=0
   ·rw[Y4 O];have b3:w=[]:=YL O;subst b3;rw[Ji (s':=(([]:Bs).map iB,out.map tS,((t.length+1:Nat):Int)))]
    ·refine Zr ?_;have:decide (((t.length+1:Nat):Int)<=(((tS t).size:Nat):Int))=false:=by simp<;>omega
     simp only[this,Yw,Xi,Yb]
    ·simp only[N,a5,YE,Yv,Yw,Xi];rw[Qd (by simp),Qd (by simp),Qd (by simp)];simp[a6 [] []]
   ·rw[Y3 O]
    by_cases h8:out.length+1>8
    ·rw[Y4 h8];refine Zr ?_;simp only[N,a5,YE,Yv,Yw,Xi];rw[Qd (by simp),Qd (by simp),Qd (by simp),Y4 (by simp;omega),Qd (by simp;omega),Y4 (by simp;omega)]
    ·rw[Y3 h8,Ji (s':=(([]:List Int),(out++[w]).map tS,((t.length+1:Nat):Int)))]
     ·refine Zr ?_;have:decide (((t.length+1:Nat):Int)<=(((tS t).size:Nat):Int))=false:=by simp<;>omega
      simp only[this,Yw,Xi,Yb]
     ·simp only[N,a5,YE,Yv,Yw,Xi];rw[Qd (by simp),Qd (by simp),Qd (by simp),Y4 (by simp;omega),Qd (by simp;omega),Y3 (by simp;omega),Qmh,a6 [] []];simp
  |succ k ih=>
   intro i w out hi hw ho;have a9:i<t.length:=by omega
   have hd:t.drop i=t.getD i 0::t.drop (i+1):=by
    rw[X2 a9,Y0,Y5 a9];rfl
   have a1:decide ((i:Int)<(((tS t).size:Nat):Int))=true:=by simp;omega
   have N:decide ((i:Int)<=(((tS t).size:Nat):Int))=true:=by simp;omega
   have J:(0:Int)<=i∧(i:Int)<(((tS t).size:Nat):Int):=by simp;omega
   have b0:IntKind.i64.wrap ((i:Int)+1)=((i+1:Nat):Int):=Qf a9 (by omega);rw[hd,Qvk];generalize b4:t.getD i 0=c;have Y:JB (tS t) (i:Int).toNat=iB c:=by rw[Y1,QeM a9,b4]
   have U:(decide (iB c<32)||decide (iB c>126))=!okB c:=by
    unfold okB iB
    by_cases h1:32<=c.toNat<;>by_cases h2:c.toNat<=126<;>simp[h1,h2]<;>omega
   have a2:(iB c !=32)=(c !=32):=by
    have:(iB c==32)=(c==32):=Qmg (b:=32);simp only[bne,this]
   by_cases hc:okB c=false
   ·rw[Y4 hc];refine Zr ?_;simp only[N,a1,YE,Y,Yn,U,hc];rw[Qd (fun _=>J),Qd (fun _ _=>J),Y4 (by simp)]
   have a7:okB c=true:=by simpa using hc
   rw[Y3 hc]
   by_cases a8:c=32
   ·rw[Y3 (by simp[a8])];have hb:(c !=32)=false:=by simp[a8]
    by_cases O:w.length=0
    ·rw[Y4 O,<-ih (i+1) w out (by omega) hw ho];refine Ji ?_;simp only[N,a1,YE,Y,Yn,U,a7,a2,hb];rw[Qd (fun _=>J),Qd (fun _ _=>J),Y3 (by simp),Qd (fun _=>J),Y3 (by simp),Y3 (by simp[O]),b0]
    ·rw[Y3 O]
     by_cases h8:out.length+1>8
     ·rw[Y4 h8];refine Zr ?_;simp only[N,a1,YE,Y,Yn,U,a7,a2,hb];rw[Qd (fun _=>J),Qd (fun _ _=>J),Y3 (by simp),Qd (fun _=>J),Y3 (by simp),Y4 (by simp;omega),Qd (by simp;omega),Y4 (by simp;omega)]
     ·rw[Y3 h8,<-ih (i+1) [] (out++[w]) (by omega) (by simp) (by simp;omega)];refine Ji ?_;simp only[N,a1,YE,Y,Yn,U,a7,a2,hb];rw[Qd (fun _=>J),Qd (fun _ _=>J),Y3 (by simp),Qd (fun _=>J),Y3 (by simp),Y4 (by simp;omega),Qd (by simp;omega),Y3 (by simp;omega),Qmh,b0];simp
   ·rw[Y4 a8];have hb:(c !=32)=true:=by simp[a8]
    by_cases b1:w.length+1>24
    ·rw[Y4 b1];refine Zr ?_;simp only[N,a1,YE,Y,Yn,U,a7,a2,hb];rw[Qd (fun _=>J),Qd (fun _ _=>J),Y3 (by simp),Qd (fun _=>J),Qd J,Qd (by simp;omega),Y4 (by simp;omega)]
    ·rw[Y3 b1,<-ih (i+1) (w++[c]) out (by omega) (by simp;omega) ho];refine Ji ?_;simp only[N,a1,YE,Y,Yn,U,a7,a2,hb];rw[Qd (fun _=>J),Qd (fun _ _=>J),Y3 (by simp),Qd (fun _=>J),Qd J,Qd (by simp;omega),Y3 (by simp;omega),b0];simp
 have k0:=key t.length 0 [] [] (by omega) (by simp) (by simp);rw[XP] at k0;refine(congrArg (fun m=>bd m _) k0).trans ?_;rw[Qa]
 cases Qvk [] [] t<;>rfl
def QgX (b:UInt8):Bool:=decide (48<=b.toNat)&&decide (b.toNat<=57)
def QqC (n:Nat) (w:Bs):Nat:=w.foldl (fun n b=>n*10+(b.toNat-48)) n
def valL (w:Bs):Nat:=QqC 0 w
def Qj5 (w:Bs):Bool:=!w.isEmpty&&w.all QgX&&(decide (w.length=1)||w.getD 0 0 !=48)
def inI (a lo hi:Int):Bool:=decide (lo<=a)&&decide (a<=hi)
theorem Qbw {a lo hi:Int}:inI a lo hi=true↔lo<=a∧a<=hi:=by simp[inI]
def JA (w:Bs):Int:=if Qj5 w=true∧w.length<=6 then(valL w:Int) else-1
def Qm7 (w:Bs):Int:=if Qj5 w=true∧valL w<9223372036854775808 then(valL w:Int) else-1
def isN (w:Bs) (lo hi:Int):Bool:=inI (JA w) lo hi
theorem Qxi (n:Nat) (w:Bs) (b:UInt8):QqC n (w++[b])=QqC n w*10+(b.toNat-48):=by simp[QqC]
theorem Qlb (w:Bs) (b:UInt8):valL (w++[b])=valL w*10+(b.toNat-48):=Qxi 0 w b
theorem Qrh:∀(w:Bs) (n:Nat),n<=QqC n w
 |[],n=>Yh _
 |b::r,n=>by
  have:=Qrh r (n*10+(b.toNat-48));show n<=QqC (n*10+(b.toNat-48)) r;omega
theorem Qri:∀(n:Nat) (w:Bs),w.length=n->w.all QgX=true->valL w<10^n
 |0,w,h,_=>by
  have:w=[]:=YL h;subst this;decide
 |n+1,w,h,hd=>by
  rcases List.eq_nil_or_concat w with rfl|⟨u,b,e⟩
  ·simp at h
  ·rw[List.concat_eq_append] at e;subst e;simp at h;simp only[List.all_append,Y2,XK,List.all_nil,YT] at hd;have ih:=Qri n u h hd.1;have hb:=hd.2;simp only[QgX,Y2,Y6] at hb;rw[Qlb,Y16];omega
theorem Qvm {b:UInt8} (h:48<=b.toNat∧b.toNat<=57):QgX b=true:=by simp[QgX,h]
theorem Qxj {n:Nat} (h:n<256):(UInt8.ofNat n).toNat=n:=by
 simp[UInt8.toNat_ofNat,Y0t h]
theorem Qvn:∀(n:Nat),(Lib.decDigits n).all QgX=true∧valL (Lib.decDigits n)=n∧Lib.decDigits n≠ []∧(0<n->(Lib.decDigits n).getD 0 0≠48)∧(n<10->(Lib.decDigits n).length=1)
 |n=>by
  unfold Lib.decDigits
  by_cases h:n<10
  ·rw[dif_pos h];have e:=Qxj (n:=48+n) (by omega);refine⟨?_,?_,by simp,fun h0 h1=>?_,fun _=>rfl⟩
   ·simp only[XK,List.all_nil,YT];exact Qvm (by rw[e];omega)
   ·show 0*10+((UInt8.ofNat (48+n)).toNat-48)=n;rw[e];omega
   ·have:=congrArg UInt8.toNat h1;rw[Xs,e] at this;have h48:(48:UInt8).toNat=48:=rfl;omega
  ·rw[dif_neg h];have hlt:n/10<n:=by omega
   have⟨h1,h2,h3,h4,_⟩:=Qvn (n/10);have e:=Qxj (n:=48+n%10) (by omega);refine⟨?_,?_,by simp,fun _=>?_,fun J=>absurd J h⟩
   ·rw[List.all_append,h1];simp only[XK,List.all_nil,YT,Yn];exact Qvm (by rw[e];omega)
   ·rw[Qlb,h2,e];omega
   ·have:=h4 (by omega)
    cases I:Lib.decDigits (n/10) with
    |nil=>exact absurd I h3
    |cons x xs=>rw[I] at this;simpa using this
termination_by n=>n
theorem QzB (n:Nat):Qj5 (Lib.decDigits n)=true:=by
 have⟨h1,h2,h3,h4,h5⟩:=Qvn n;unfold Qj5;rw[h1];have e:(Lib.decDigits n).isEmpty=false:=by cases I:Lib.decDigits n with|nil=>exact absurd I h3|cons _ _=>rfl
 rw[e]
 by_cases h:n<10
 ·simp[h5 h]
 ·have hb:((Lib.decDigits n).getD 0 0 !=48)=true:=by rw[bne_iff_ne];exact h4 (by omega)
  rw[hb];simp
theorem Qvo {u:Bs} {b:UInt8} (J:u≠ []) (h:Qj5 (u++[b])=true):Qj5 u=true∧QgX b=true∧u.getD 0 0≠48:=by
 simp only[Qj5,Y2,List.all_append,XK,List.all_nil,YT] at h;have⟨⟨_,h1,h2⟩,h3⟩:=h;have I:¬(u++[b]).length=1:=by
  cases u with|nil=>exact absurd rfl J|cons _ _=>simp
 have N:(u++[b]).getD 0 0=u.getD 0 0:=by cases u with|nil=>exact absurd rfl J|cons _ _=>simp
 rw[N] at h3;have h4:u.getD 0 0≠48:=by
  simp only[Yz I,YJ] at h3;simpa using h3
 refine⟨?_,h2,h4⟩;unfold Qj5;rw[h1]
 cases u with
 |nil=>exact absurd rfl J
 |cons x xs=>simp at h4|-;simp[h4]
theorem Qvp {u:Bs} (J:u≠ []) (I:u.all QgX=true) (h:u.getD 0 0≠48):1<=valL u:=by
 cases u with
 |nil=>exact absurd rfl J
 |cons x xs=>
  simp only[XK,Y2,QgX,Y6] at I;have hx:x.toNat≠48:=fun e=>h (by simp;exact UInt8.toNat_inj.1 e);have:=Qrh xs (0*10+(x.toNat-48));show 1<=QqC (0*10+(x.toNat-48)) xs;omega
theorem QbL {w:Bs} (h:Qj5 w=true):w.all QgX=true∧w≠ []:=by
 simp only[Qj5,Y2] at h;refine⟨h.1.2,fun e=>?_⟩;subst e;simp at h
theorem Qhg:∀(n:Nat) (w:Bs),w.length=n->Qj5 w=true->Lib.decDigits (valL w)=w
 |n,w,hn,h=>by
  rcases List.eq_nil_or_concat w with rfl|⟨u,b,e⟩
  ·simp[Qj5] at h
  ·rw[List.concat_eq_append] at e;subst e
   by_cases I:u=[]
   ·subst I;have J:=(QbL h).1;simp only[YA,XK,List.all_nil,YT,QgX,Y2,Y6] at J;have e:valL ([]++[b])=b.toNat-48:=by simp[valL,QqC]
    rw[e,Lib.decDigits,dif_pos (by omega)];show [_]=[b]
    congr 1
    apply UInt8.toNat_inj.1
    rw[Qxj (by have:=b.toNat_lt;omega)];omega
   ·have⟨h1,h2,h3⟩:=Qvo I h;have hlen:u.length<n:=by simp at hn;omega
    have N:=Qhg u.length u rfl h1;have hp:=Qvp I (QbL h1).1 h3;simp only[QgX,Y2,Y6] at h2;rw[Qlb,Lib.decDigits,dif_neg (by omega)];have e1:(valL u*10+(b.toNat-48))/10=valL u:=by omega
    have O:(valL u*10+(b.toNat-48))%10=b.toNat-48:=by omega
    rw[e1,O,N]
    congr 1
    show [_]=[b]
    congr 1
    apply UInt8.toNat_inj.1
    rw[Qxj (by have:=b.toNat_lt;omega)];omega
termination_by n=>n
theorem Qvq {w:Bs} (h:Qj5 w=true) (h2:2<=w.length):10^(w.length-1)<=valL w:=by
 have key:∀(n:Nat) (w:Bs),w.length=n+1->w.all QgX=true->w.getD 0 0≠48->10^n<=valL w:=by
  intro n
  induction n with
  |zero=>intro w J N I;have:=Qvp (u:=w) (by intro e;subst e;simp at J) N I;simpa using this
  |succ n U=>
   intro w J N I;rcases List.eq_nil_or_concat w with rfl|⟨u,b,e⟩
   ·simp at J
   ·rw[List.concat_eq_append] at e;subst e;simp at J;simp only[List.all_append,Y2] at N;have O:u≠ []:=by intro e;subst e;simp at J
    have Y:(u++[b]).getD 0 0=u.getD 0 0:=by cases u with|nil=>exact absurd rfl O|cons _ _=>simp
    rw[Y] at I;have:=U u (by omega) N.1 I;rw[Qlb,Y16];omega
 have⟨h3,_⟩:=QbL h;have I:w.getD 0 0≠48:=by
  simp only[Qj5,Y2] at h;have:=h.2;rw[Yz (by omega:¬w.length=1),YJ] at this;simpa using this
 exact key (w.length-1) w (by omega) h3 I
theorem Qxk {w:Bs} (h:Qj5 w=true) (hv:valL w<1000000):w.length<=6:=by
 rcases YW w.length 7 with I|I
 ·omega
 ·have:=Qvq h (by omega);have h6:10^6<=10^(w.length-1):=Xd (by omega) (by omega);omega
theorem Qsv:∀(w:Bs) (I:Nat),w.all QgX=true->QqC I w<9223372036854775808->Lib.parseUint10 I w=.ok (QqC I w)
 |[],I,_,_=>rfl
 |c::r,I,hd,hv=>by
  simp only[XK,Y2] at hd;have hc:=hd.1;simp only[QgX,Y2,Y6] at hc;have J:QqC (I*10+(c.toNat-48)) r<9223372036854775808:=hv;have hle:=Qrh r (I*10+(c.toNat-48));unfold Lib.parseUint10;rw[Y4 hc,Y3 (by omega),Y3 (by omega)];exact Qsv r _ hd.2 J
theorem QzC {w:Bs} (h:Qj5 w=true) (hv:valL w<9223372036854775808):Lib.atoiAll w=.ok (valL w:Int):=by
 have⟨J,I⟩:=QbL h
 cases w with
 |nil=>exact absurd rfl I
 |cons c r=>
  have hc:QgX c=true:=by simp only[XK,Y2] at J;exact J.1
  simp only[QgX,Y2,Y6] at hc;unfold Lib.atoiAll;have h1:¬(c.toNat=43∨c.toNat=45):=by omega
  have h2:¬c.toNat=45:=by omega
  have hp:Lib.parseMag (c::r)=.ok (valL (c::r)):=by
   unfold Lib.parseMag;rw[Y3 (by simp)];exact Qsv _ _ J hv
  have h3:(if c.toNat=43∨c.toNat=45 then r else c::r)=c::r:=Y3 h1;simp only[h3];rw[hp];simp only[h2,not_false_iff,true_and,false_and,Xi];rw[Y3 (by omega)]
theorem QzD (w:Bs):QAo (tS w)=Qm7 w:=by
 have e1:(tS w).data.toList=w:=Qip w;unfold QAo Qm7;rw[e1]
 by_cases hc:Qj5 w=true∧valL w<9223372036854775808
 ·rw[Y4 hc,QzC hc.1 hc.2];have:Qn4 (valL w:Int)=tS w:=by
   unfold Qn4 Lib.itoa;rw[Y3 (by omega),Y1,Qhg _ w rfl hc.1]
   rfl
  dsimp only;rw[Y3];rintro(h|h)
  ·omega
  ·exact h this
 ·rw[Y3 hc]
  cases O:Lib.atoiAll w with
  |ok v=>
   by_cases I:v<0∨Qn4 v≠tS w
   ·simp only[Y4 I]
   ·exfalso;have hv:0<=v:=by have:=fun h=>I (.inl h);omega
    have N:Qn4 v=tS w:=Decidable.byContradiction fun h=>I (.inr h);have J:w=Lib.decDigits v.toNat:=by
     have:tS (Lib.itoa v)=tS w:=N;have:=Qyt this;rw[<-this];unfold Lib.itoa;rw[Y3 (by omega)]
    have hf:=Qpi O;refine hc ⟨?_,?_⟩
    ·rw[J];exact QzB _
    ·rw[J,(Qvn _).2.1];omega
  |_=>rfl
theorem Qsw {w:Bs} (h:w.length<=6):Qm7 w=JA w:=by
 unfold Qm7 JA
 by_cases hc:Qj5 w=true
 ·have:=Qri w.length w rfl (QbL hc).1;have h6:10^w.length<=10^6:=Xd (by omega) h;rw[Y4 ⟨hc,by omega⟩,Y4 ⟨hc,h⟩]
 ·rw[Y3 (fun h=>hc h.1),Y3 (fun h=>hc h.1)]
theorem Qrj {w:Bs} {lo hi:Int} (h0:0<=lo) (h1:hi<=999999):inI (Qm7 w) lo hi=inI (JA w) lo hi∧(inI (Qm7 w) lo hi=true->Qm7 w=JA w):=by
 by_cases hc:Qj5 w=true
 ·by_cases hv:valL w<1000000
  ·have hs:=Qxk hc hv;rw[Qsw hs];exact⟨rfl,fun _=>rfl⟩
  ·have e1:inI (Qm7 w) lo hi=false:=by
    unfold Qm7 inI;split<;>simp<;>omega
   have I:inI (JA w) lo hi=false:=by
    have:¬w.length<=6:=fun h=>by
     have:=Qri w.length w rfl (QbL hc).1;have h6:10^w.length<=10^6:=Xd (by omega) h;omega
    unfold JA inI;rw[Y3 (fun h=>this h.2)];simp;omega
   rw[e1,I];exact⟨rfl,fun h=>by cases h⟩
 ·have e1:Qm7 w=-1:=by unfold Qm7;rw[Y3 (fun h=>hc h.1)]
  have I:JA w=-1:=by unfold JA;rw[Y3 (fun h=>hc h.1)]
  rw[e1,I];exact⟨rfl,fun _=>rfl⟩
theorem QoN (b:UInt8):IntKind.i64.wrap (iB b)=iB b:=by
 have:=Qxg b;exact Ql (by omega) (by omega)
theorem Qxl (b:UInt8) {lo hi:Nat}:inI (iB b) lo hi=(decide (lo<=b.toNat)&&decide (b.toNat<=hi)):=by
 unfold inI iB;rw[YH];simp only[Y2,Y6];omega
theorem Qjf (c:UInt8):∀l,(Qdc c l).length<=l.length+1
 |[]=>by simp[Qdc]
 |b::r=>by
  have I:=Qjf c r;unfold Qdc;split
  ·simp;omega
  ·split
   ·simp
   ·rename_i h;rw[h] at I;simp at I|-;omega
theorem QzE (c:UInt8) (l:Bs):(Qul (tS l) (tS [c])).1=tS (l.takeWhile (· !=c)):=by
 rw[Qre]
 by_cases h:c∈l
 ·rw[Y4 h]
 ·rw[Y3 h,Qf1];intro x I;simp only[bne_iff_ne];exact fun e=>h (e▸I)
theorem Qvr {t:Bs} {p:UInt8->Bool}:t.all p=(Zi (fun i=>!p (t.getD i 0)) t.length).isNone:=by
 have h:t.any (fun x=>!p x)=(Zi (fun i=>!p (t.getD i 0)) t.length).isSome:=Qfx (p:=fun x=>!p x) (xs:=t);rw[<-Option.not_isSome,<-h];simp[List.not_any_eq_all_not]
theorem QoO {β:Type} {step:Int->Option (Int⊕β)} {t:Bs} {p:UInt8->Bool} {e d:β} (h1:∀i:Nat,i<t.length->step i=some (if p (t.getD i 0)=true then .inl ((i+1:Nat):Int) else .inr e)) (h2:step t.length=some (.inr d)):lp step 0=some (if t.all p=true then d else e):=by
 rw[Z8 t.length (fun i=>!p (t.getD i 0)) (fun _=>e) d (fun i hi=>?_) h2,Qvr]
 ·cases Zi (fun i=>!p (t.getD i 0)) t.length<;>simp
 ·rw[h1 i hi]
  cases p (t.getD i 0)<;>rfl
theorem Qir (w:Bs):(tS w==(⟨#[]⟩:Bt))=w.isEmpty:=by
 have:(tS w==tS [])=(w==[]):=Jk w [];refine this.trans ?_
 cases w<;>rfl
theorem Qxm {l:Bs} (h:l.length<=1000000):Qb9 (tS l)=some (match Qiq l with|some ws=>(ws.map tS,true)|none=>([],false)):=by
 have N:(⟨#[35]⟩:Bt)=tS [35]:=rfl;have J:(⟨#[32]⟩:Bt)=tS [32]:=rfl;have hs:(stripL l).length<=1000000:=Xl (XU (XV _)) h;have Y:(Qul (tS l) (tS [35])).1=tS (stripL l):=QzE 35 l;unfold Qb9 Qai ZI;rw[N,J,Qd (by simp;omega),Qa,Y];unfold Qiq;generalize stripL l=t at hs;rw[QoO (t:=t) (p:=okB) (e:=.inl ()) (d:=.inr ()) (fun i hi=>?_) (by rw[Y3 (by simp)]),Qa]
 ·by_cases ho:t.all okB=true
  ·rw[Y4 ho];dsimp only;have O:QH ((Qdc 32 t).map tS)=some ((Qa8 t).map tS):=by
    have e:QH=QAY Jm:=rfl;rw[e,Qvj (pm:=Jm) (p:=fun x=>x==(⟨#[]⟩:Bt)) (fun x _=>rfl) (by have:=Qjf 32 t;simp;omega),Y0w];refine congrArg (fun q=>some ((List.filter q (Qdc 32 t)).map tS)) (funext fun w=>?_);simp only[Function.comp,Qir]
   have hl:(Qa8 t).length<=1000001:=by
    have h1:=Qjf 32 t;have h2:(Qa8 t).length<=(Qdc 32 t).length:=XB _ _;omega
   have hc:QN ((Qa8 t).map tS)=some ((Qa8 t).any fun w=>decide (w.length>24)):=by
    have e:QN=Qxf Qaj:=rfl;rw[e,Qmf (pm:=Qaj) (p:=fun x:Bt=>decide (((x.size:Nat):Int)>24)) (fun x _=>rfl) (by simp;omega),Y0g]
    congr 2
    funext w
    simp only[Function.comp,Qbf];rw[YG];omega
   rw[Qd (by simp;omega),Qa,QoK,O,Qa,hc];have U:QA0 (Qa8 t)=!(decide ((((Qa8 t).map tS).length:Int)>8)||(Qa8 t).any fun w=>decide (w.length>24)):=by
    unfold QA0;rw[YH];simp only[Y2,Y6,Ye,YF,XH,Y0d,Y06,Yb]
    constructor
    ·rintro⟨a,b⟩;exact⟨by omega,fun x I=>by have:=b x I;omega⟩
    ·rintro⟨a,b⟩;exact⟨by omega,fun x I=>by have:=b x I;omega⟩
   rw[U]
   cases h8:decide ((((Qa8 t).map tS).length:Int)>8)
   ·rw[Qs rfl,Qa,YJ]
    cases (Qa8 t).any fun w=>decide (w.length>24)
    ·rw[Y3 (by decide),Y4 ⟨ho,rfl⟩]
    ·rw[Y4 rfl,Y3 (by simp)]
   ·rw[QS (by decide),Qa,Y4 (by simp),Y3 (by simp)]
  ·rw[Y3 ho,Y3 fun h=>ho h.1]
 ·have e:QV (iB (t.getD i 0)) 32 126=some (okB (t.getD i 0)):=congrArg some (Qxl (lo:=32) (hi:=126) (t.getD i 0));rw[Y4 (by simp;omega),Qd (by simp;omega),Y1,QeM hi,QoN,Qf hi (by omega),e,Qa]
  cases okB (t.getD i 0)<;>rfl
def nmB (b:UInt8):Bool:=(decide (97<=b.toNat)&&decide (b.toNat<=122))||(decide (48<=b.toNat)&&decide (b.toNat<=57))||b==45
def Qf3 (w:Bs):Bool:=inI w.length 1 8&&w.all nmB
theorem QzF {w:Bs} (h:w.length<=1000000):Qee (tS w)=some (Qf3 w):=by
 unfold Qee;rw[QoO (t:=w) (p:=nmB) (e:=.inl ()) (d:=.inr ()) (fun i hi=>?_) (by rw[Y3 (by simp)]),Qa]
 ·have e:QV ((w.length:Nat):Int) 1 8=some (inI w.length 1 8):=rfl;unfold Qf3
  by_cases I:w.all nmB=true
  ·rw[Y4 I,I,YT];dsimp only;rw[Qbf,e,Qa]
  ·rw[Y3 I,YR.2 I,XO]
 ·rw[Y4 (by simp;omega),Qd (by simp;omega),Y1,QeM hi,Qf hi (by omega)];have J:(iB (w.getD i 0) !=45)=!(w.getD i 0==45):=by
   have:(iB (w.getD i 0)==45)=(w.getD i 0==45):=Qmg (b:=45);simp only[bne,this]
  have e:(((iB (w.getD i 0) !=45)&&(decide (iB (w.getD i 0)<97)||decide (iB (w.getD i 0)>122)))&&(decide (iB (w.getD i 0)<48)||decide (iB (w.getD i 0)>57)))=!nmB (w.getD i 0):=by
   rw[J];generalize w.getD i 0=b;unfold nmB iB
   cases b==45
   ·rw[YH];simp;omega
   ·simp
  rw[e]
  cases nmB (w.getD i 0)<;>rfl
theorem Qmi (a lo hi:Int):JI a lo hi=some (inI a lo hi):=rfl
theorem Qmj (a lo hi:Int):QV a lo hi=some (inI a lo hi):=rfl
theorem QoP {w:Bs} (h:w.length<=1000000):Qas (tS w)=some (Qf3 w):=by
 unfold Qas;rw[Qmi,Qa,Qbf];unfold Qf3
 cases h1:inI (w.length:Int) 1 8
 ·rfl
 rw[Y3 (by decide)];rw[QoO (t:=w) (p:=nmB) (e:=.inl ()) (d:=.inr ()) (fun i hi=>?_) (by rw[Y3 (by simp)]),Qa]
 ·rw[Yn]
  cases w.all nmB<;>rfl
 ·rw[Y4 (by simp;omega),Qd (by omega),Y1,QeM hi,Qf hi (by omega),QoN,Qmi,Qmi,Qa,Qd (fun _=>by omega)];have I:(iB (w.getD i 0) !=45)=!(w.getD i 0==45):=by
   have:(iB (w.getD i 0)==45)=(w.getD i 0==45):=Qmg (b:=45);simp only[bne,this]
  have e:(!inI (iB (w.getD i 0)) 97 122&& !inI (iB (w.getD i 0)) 48 57&&(iB (w.getD i 0) !=45))=!nmB (w.getD i 0):=by
   rw[I,show inI (iB (w.getD i 0)) 97 122=_ from Qxl (lo:=97) (hi:=122) _,show inI (iB (w.getD i 0)) 48 57=_ from Qxl (lo:=48) (hi:=57) _];unfold nmB;simp only[Bool.not_or]
  rw[Qmc,Qa,Qd (fun _=>by omega)];have J:(!inI (iB (w.getD i 0)) 97 122&& !(!inI (iB (w.getD i 0)) 97 122&&inI (iB (w.getD i 0)) 48 57)&&(iB (w.getD i 0) !=45))=!nmB (w.getD i 0):=by
   rw[<-e];cases inI (iB (w.getD i 0)) 97 122<;>rfl
  rw[J]
  cases nmB (w.getD i 0)<;>rfl
theorem Qrk {l:Bs} {i:Nat} (h:i<l.length):l.drop i=l.getD i 0::l.drop (i+1):=by
 rw[X2 h,Y0,Y5 h];rfl
theorem Qyv (l:Bs) (i j:Nat):(tS l).extract i j=tS ((l.take j).drop i):=Qvi (by rw[QnL,Qip,Qip])
def Qp4 (c:UInt8):Bs->Bs->List Bs
 |w,[]=>[w]
 |w,b::r=>if b=c then w::Qp4 c [] r else Qp4 c (w++[b]) r
theorem QoQ (c:UInt8):∀(r w:Bs),c∉w->Qp4 c w r=Qdc c (w++r)
 |[],w,h=>by rw[Qp4,Xp,QeL h]
 |b::r,w,h=>by
  rw[Qp4]
  by_cases hb:b=c
  ·subst hb;rw[Y4 rfl,Qf2 h,QoQ b r [] (by simp),YA]
  ·rw[Y3 hb,QoQ c r (w++[b]) (by simp[h,YY hb])];simp
theorem Qp5 {l:Bs} (c:UInt8) (h:l.length<=1000000):JC (tS l) (iB c)=some ((Qdc c l).map tS):=by
 unfold JC;have key:∀(k i j:Nat) (out:List Bs),i+k=l.length->j<=i->out.length+k<=l.length->
   ∃x:Nat×Int×List Bt,lp (σ:=List Bt×Int×Int) (β:=(Nat×Int×(List Bt))) (fun I=>
(if(decide (I.2.2<(((tS l).size:Nat):Int)))=true then
 gd ((0:Int)<=I.2.2∧I.2.2<(((tS l).size:Nat):Int))<|
(if((JB (tS l) I.2.2.toNat)==iB c)=true then
 gd ((0:Int)<=I.2.1∧I.2.1<=I.2.2∧I.2.2<=(((tS l).size:Nat):Int))<|
 gd (((I.1.length)+(([((tS l).extract I.2.1.toNat I.2.2.toNat)]:List Bt).length))*(16+1)<=70368744177664)<|
 some (.inl ((I.1++([((tS l).extract I.2.1.toNat I.2.2.toNat)]:List Bt)),IntKind.i64.wrap (I.2.2+1),IntKind.i64.wrap (I.2.2+1)))
else
 some (.inl (I.1,I.2.1,IntKind.i64.wrap (I.2.2+1))))
else
 some (.inr (I.1.length,I.2.1,I.1)))) (out.map tS,(j:Int),(i:Int))=some x∧x.1=x.2.2.length∧(x.1<=l.length)∧(∃q:Nat,x.2.1=(q:Int)∧q<=l.length∧x.2.2++[tS (l.drop q)]=(out++Qp4 c ((l.take i).drop j) (l.drop i)).map tS):=by
  intro k
  induction k with
  |zero=>
   intro i j out hi hj ho;have hi:i=l.length:=by omega
   subst hi;refine⟨(out.length,(j:Int),out.map tS),Zr ?_,by simp,by dsimp only;omega,j,rfl,hj,?_⟩
   ·rw[Y3 (by simp)];simp
   ·rw[Y0e,Qp4,X4];simp
  |succ k ih=>
   intro i j out hi hj ho;have J:i<l.length:=by omega
   have hb:(iB (l.getD i 0)==iB c)=(l.getD i 0==c):=Qmg;have U:IntKind.i64.wrap ((i:Int)+1)=((i+1:Nat):Int):=Qf J (by omega);rw[Qrk J,Qp4]
   by_cases hc:l.getD i 0=c
   ·rw[Y4 hc];have⟨x,h1,h2⟩:=ih (i+1) (i+1) (out++[(l.take i).drop j]) (by omega) (Yh _) (by simp;omega);refine⟨x,(Ji ?_).trans h1,h2.1,h2.2.1,?_⟩
    ·dsimp only;rw[Y4 (by simp;omega),Qd (by simp;omega),Y1,QeM J,hb,Y4 (YD.2 hc),Qd (by simp;omega),Qd (by simp;omega),Y1,Qyv,U];simp
    ·have⟨q,N,Y,O⟩:=h2.2.2;refine⟨q,N,Y,?_⟩;rw[O];have:(l.take (i+1)).drop (i+1)=[]:=by simp
     rw[this];simp
   ·rw[Y3 hc];have⟨x,h1,h2⟩:=ih (i+1) j out (by omega) (by omega) (by omega);have a1:(l.getD i 0==c)=false:=by simpa using hc
    refine⟨x,(Ji ?_).trans h1,h2.1,h2.2.1,?_⟩
    ·dsimp only;rw[Y4 (by simp;omega),Qd (by simp;omega),Y1,QeM J,hb,a1,Y3 (by simp),U]
    ·have⟨q,N,Y,O⟩:=h2.2.2;refine⟨q,N,Y,?_⟩;rw[O];have:(l.take (i+1)).drop j=(l.take i).drop j++[l.getD i 0]:=by
      rw[XZ,List.drop_append_of_le_length (by simp;omega),Y0,Y5 J]
      rfl
     rw[this]
 have⟨x,e,h1,h2,q,N,Y,O⟩:=key l.length 0 0 [] (by omega) (Yh _) (by simp);refine(congrArg (fun m=>bd m _) e).trans ?_;rw[Qa,N,Qd (by simp;omega),Qd (by simp;omega),Y1,Y1,Qyv,Qbf,X4,O];rw[List.take_zero,XP,YA,QoQ _ _ _ (by simp),YA]
 rfl
theorem Qyw {xs:List Bt} {a:Bt} (h:xs.length<=1048576):Qcy xs a=some (xs.any (· ==a)):=by
 unfold Qcy;rw[Z8 xs.length (fun i=>xs.getD i default==a) (fun i=>.inl ()) (.inr ()) (fun i hi=>?_) (by rw[Y3 (by simp)]),Qa,Qfx]
 ·cases Zi (fun i=>xs.getD i default==a) xs.length<;>rfl
 ·rw[Y4 (by simp;omega),Qd (by omega),Y1,Qf hi (by omega)]
  cases xs.getD i default==a<;>rfl
theorem Qyx {xs:List Bt} {a:Bt} (h:xs.length<=1048576):Q2 xs a=some (xs.any (· ==a)):=by
 unfold Q2 JD;rw[Z8 xs.length (fun i=>xs.getD i default==a) (fun i=>.inl (i:Int)) (.inr ()) (fun i hi=>?_) (by rw[Y3 (by simp)]),Qa,Qfx]
 ·cases Zi (fun i=>xs.getD i default==a) xs.length
  ·rfl
  ·simp
 ·have e:(a==xs.getD i default)=(xs.getD i default==a):=by rw[YH];simp only[YD];exact eq_comm
  rw[Y4 (by simp;omega),Qd (by omega),Y1,Qf hi (by omega),e]
  cases xs.getD i default==a<;>rfl
def heads:List Bt:=[⟨#[100,111,111,114]⟩,⟨#[104,111,115,116]⟩,⟨#[110,97,116]⟩,⟨#[112,101,101,114]⟩,⟨#[112,111,114,116]⟩,⟨#[114,111,117,116,101]⟩,⟨#[114,117,108,101]⟩,⟨#[117,115,101,114]⟩]
def Qxn (ps:List Bt) (i:Nat):Bool:=!(heads.any (· ==ps.getD i default))||(decide (0<i)&& !(bsl (ps.getD (i-1) default) (ps.getD i default)))
def Qmk (ps:List Bt):Bool:=(Zi (Qxn ps) ps.length).isNone
def QzG (w:Bs):Bool:=(tS w==⟨#[97,108,108]⟩)||(tS w==⟨#[110,111,110,101]⟩)
def Qml (w:Bs):Bool:=QzG w||Qmk ((Qdc 44 w).map tS)
theorem Qyy {ps:List Bt} {i:Nat} (hi:i<ps.length) (h:ps.length<=1048576):(!(heads.any (· ==ps.getD i default))||(decide ((i:Int)>0)&& !(bsl (ps.getD ((IntKind.i64.wrap ((i:Int) -1)).toNat) default) (ps.getD i default))))=Qxn ps i:=by
 unfold Qxn
 cases i with
 |zero=>simp
 |succ i=>
  rw[Qa0 hi (by omega) (by omega),Y1];have:decide (((i+1:Nat):Int)>0)=decide (0<i+1):=by simp<;>omega
  rw[this]
theorem Qvs {i:Nat} {n:Nat} {b:Bool} (hi:i<n) (h:n<=1048576):(decide ((i:Int)>0))=true->((!b)=false->((0:Int)<=IntKind.i64.wrap ((i:Int) -1)∧IntKind.i64.wrap ((i:Int) -1)<((n:Nat):Int))):=by
 intro I _;have I:=YN I;rw[Ql (by omega) (by omega)];omega
theorem Qrl {w:Bs} (h:w.length<=1000000):QcI (tS w)=some (if QzG w=true then([tS w],true) else if Qmk ((Qdc 44 w).map tS)=true then((Qdc 44 w).map tS,true) else([],false)):=by
 have J:(⟨#[44]⟩:Bt)=tS [44]:=rfl;unfold QcI ZI;show(if QzG w=true then _ else _)=_
 by_cases I:QzG w=true
 ·rw[Y4 I,Y4 I]
 rw[Y3 I,Y3 I,J,Qd (by simp;omega),Qa,QoK];have hl:((Qdc 44 w).map tS).length<=1048576:=by have:=Qjf 44 w;simp;omega
 unfold Qmk;generalize (Qdc 44 w).map tS=ps at hl;rw[Z8 ps.length (Qxn ps) (fun _=>.inl ()) (.inr ()) (fun i hi=>?_) (by rw[Y3 (by simp)]),Qa]
 ·cases Zi (Qxn ps) ps.length<;>rfl
 ·rw[Y4 (by simp;omega),Qd (by omega),Y1,Qf hi (by omega),show Q2 [_,_,_,_,_,_,_,_] (ps.getD i default)=_ from Qyx (xs:=heads) (by decide),Qa,Qd (Qvs hi hl),Qyy hi hl]
  cases Qxn ps i<;>rfl
theorem Qvt {w:Bs} (h:w.length<=1000000):QcJ (tS w)=some (Qml w):=by
 unfold QcJ;rw[Qrl h,Qa];unfold Qml
 cases QzG w
 ·cases Qmk ((Qdc 44 w).map tS)<;>rfl
 ·rfl
theorem Qvu {w:Bs} (h:w.length<=1000000):Qb7 (tS w)=some (Qml w):=by
 unfold Qb7;show(if QzG w=true then _ else _)=_;unfold Qml
 by_cases I:QzG w=true
 ·rw[Y4 I,I];rfl
 rw[Y3 I,YR.2 I,YJ];have hl:((Qdc 44 w).map tS).length<=1048576:=by have:=Qjf 44 w;simp;omega
 rw[show JC (tS w) 44=_ from Qp5 44 h,Qa];unfold Qmk;generalize (Qdc 44 w).map tS=ps at hl;rw[Z8 ps.length (Qxn ps) (fun _=>.inl ()) (.inr ()) (fun i hi=>?_) (by rw[Y3 (by simp)]),Qa]
 ·cases Zi (Qxn ps) ps.length<;>rfl
 ·rw[Y4 (by simp;omega),show Qcx=some heads from rfl,Qa,Qd (by omega),Y1,Qyw (xs:=heads) (by decide),Qa,Qd (Qvs hi hl),Qd (fun _ _=>by omega),Qf hi (by omega),Qyy hi hl]
  cases Qxn ps i<;>rfl
theorem Qp6 (n:Nat) (b:UInt8) (r:Bs):QqC n (b::r)=QqC (n*10+(b.toNat-48)) r:=by
 unfold QqC;rw[Yy]
theorem Qyz {n:Int} (h1:0<=n) (h2:n<=255):IntKind.u8.wrap n=n:=by
 have e1:IntKind.bits .u8=8:=rfl;have I:IntKind.signed .u8=false:=rfl;unfold IntKind.wrap;simp only[e1,I,Yv];rw[Int.emod_eq_of_lt h1 (by omega)]
 rfl
theorem Qvv (b:UInt8):inI (iB b) 48 57=QgX b:=Qxl (lo:=48) (hi:=57) b
theorem Qp7 (w:Bs) (h:w.length<=1000000):Zg (tS w)=some (JA w):=by
 unfold Zg;rw[Qmi,Qa,Qbf];unfold JA;rcases XE (inI (w.length:Int) 1 6) with h1|h1
 ·have hr:=Qbw.1 h1;have h0:JB (tS w) 0=iB (w.getD 0 0):=QeM (by omega);have a1:(iB (w.getD 0 0)==48)=(w.getD 0 0==48):=Qmg (b:=48);rw[h1,Qd (fun _ _=>by omega),h0,a1,Y0j,YJ]
  by_cases O:(decide ((w.length:Int)>1)&&(w.getD 0 0==48))=true
  ·rw[Y4 O,Y3];rintro⟨hc,_⟩;simp only[Qj5,Y2,Yr,Y6,bne_iff_ne,YD] at hc O;rcases hc.2 with h|h
   ·omega
   ·exact h O.2
  rw[Y3 O];have U:Qj5 w=w.all QgX:=by
   unfold Qj5;have e1:w.isEmpty=false:=by cases w with|nil=>simp at hr|cons _ _=>rfl
   have e2:(decide (w.length=1)||w.getD 0 0 !=48)=true:=by
    rcases YW 1 w.length with hl|hl
    ·have:decide ((w.length:Int)>1)=true:=Yq (by omega);rw[this,Yn] at O;have:(w.getD 0 0 !=48)=true:=by simpa[bne] using O
     rw[this,Y0r]
    ·rw[Yq (by omega),Y08]
   rw[e1,e2,YT];rfl
  have key:∀(k i v:Nat),i+k=w.length->v<10^i->lp (σ:=Int×Int) (β:=(Unit⊕Int)) (fun I=>
 (if(decide (I.2<((w.length:Nat):Int)))=true then
 gd ((0:Int)<=I.2∧I.2<((w.length:Nat):Int))<|
 bd (JI (IntKind.i64.wrap (JB (tS w) I.2.toNat)) 48 57) fun x8=>
 (if(!x8)=true then
 some (.inr (.inl ()))
 else
 gd ((0:Int)<=I.2∧I.2<((w.length:Nat):Int))<|
 some (.inl (IntKind.i64.wrap ((IntKind.i64.wrap (I.1*10))+(IntKind.i64.wrap (IntKind.u8.wrap ((JB (tS w) I.2.toNat) -48)))),IntKind.i64.wrap (I.2+1))))
 else
 some (.inr (.inr I.1)))) ((v:Int),(i:Int))=some (if(w.drop i).all QgX=true then .inr ((QqC v (w.drop i):Nat):Int) else .inl ()):=by
   intro k
   induction k with
   |zero=>
    intro i v hi hv;have hi:i=w.length:=by omega
    subst hi;rw[Zr (b:=.inr (v:Int)) (by rw[Y3 (by simp)])];rw[Y0e];rfl
   |succ k ih=>
    intro i v hi hv;have N:i<w.length:=by omega
    have hi6:10^i<=10^6:=Xd (by omega) (by omega);rw[Qrk N,XK,Qp6];generalize a5:w.getD i 0=c;have Y:JB (tS w) ((i:Int)).toNat=iB c:=by rw[Y1,QeM N,a5]
    cases J:QgX c
    ·rw[Yv,Y3 (by decide)];refine Zr ?_;dsimp only;rw[Y4 (by simp;omega),Qd (by omega),Y,QoN,Qmi,Qa,Qvv,J,Y4 (by rfl)]
    ·have a2:=J;simp only[QgX,Y2,Y6] at a2;rw[Yn,<-ih (i+1) (v*10+(c.toNat-48)) (by omega) (by rw[Y16];omega)];refine Ji ?_;dsimp only;rw[Y4 (by simp;omega),Qd (by omega),Y,QoN,Qmi,Qa,Qvv,J,Y3 (by decide),Qd (by omega),Qf N (by omega)];have e1:IntKind.u8.wrap (iB c-48)=((c.toNat-48:Nat):Int):=by
      unfold iB;rw[Qyz (by omega) (by omega)];omega
     have e2:IntKind.i64.wrap ((v:Int)*10)=(v:Int)*10:=Ql (by omega) (by omega);rw[e1,e2,Ql (n:=((c.toNat-48:Nat):Int)) (by omega) (by omega),Ql (by omega) (by omega)];simp
  have k0:=key w.length 0 0 (by omega) (by decide);refine(congrArg (fun m=>bd m _) k0).trans ?_;rw[Qa,XP,U]
  by_cases J:w.all QgX=true
  ·rw[Y4 J,Y4 ⟨J,by omega⟩];rfl
  ·rw[Y3 J,Y3 fun h=>J h.1]
 ·rw[h1,Qd (fun _ h=>by cases h),Y4 (by rfl),Y3];rintro⟨hc,hl⟩;have h1:=fun h=>YR.1 h1 (Qbw.2 h);refine h1 ?_;have⟨_,a6⟩:=QbL hc;have:w.length≠0:=fun e=>a6 (YL e);omega
theorem Qis {w:Bs} {lo hi:Int} (h:w.length<=1000000):Ze (tS w) lo hi=some (isN w lo hi):=by
 unfold Ze;rw[Qp7 w h,Qa,Qmi,Qa]
 rfl
theorem Qmm {w:Bs} (h:w.length<=1000000):JK (tS w)=some (Qm7 w):=by
 unfold JK;rw[Qd (by simp;omega),QzD]
theorem Qp8 {w:Bs} (h:w.length<=1000000):Z3 (tS w)=some (JA w):=by
 unfold Z3;rw[Qbf]
 by_cases h6:w.length<=6
 ·rw[Y3 (by simp;omega),Qmm h,Qa,Qsw h6]
 ·rw[Y4 (by simp;omega)];unfold JA;rw[Y3 fun h=>h6 h.2]
theorem QBO {w:Bs} {lo hi:Int} (h:w.length<=1000000):Qcb (tS w) lo hi=some (isN w lo hi):=by
 unfold Qcb;rw[Qp8 h,Qa,Qmj,Qa]
 rfl
def Qrm (c:UInt8) (w:Bs):Option (Bs×Bs):=match Qdc c w with
 |[a,b]=>some (a,b)
 |_=>none
def QW (w:Bs):Int:=match Qrm 46 w with
 |some (a,b)=>if isN a 0 255=true∧isN b 0 255=true then 256*JA a+JA b else-1
 |none=>-1
theorem QgY {c:UInt8} {w a b:Bs} (h:Qrm c w=some (a,b)):Qdc c w=[a,b]:=by
 unfold Qrm at h;split at h
 ·rename_i e;simp only[Yc,YX] at h;rw[e,h.1,h.2]
 ·cases h
theorem Qfy (c:UInt8):∀(l x:Bs),x∈Qdc c l->x.length<=l.length
 |[],x,h=>by simp[Qdc] at h;simp[h]
 |b::r,x,h=>by
  unfold Qdc at h;split at h
  ·rcases Yi.1 h with rfl|h
   ·simp
   ·have:=Qfy c r x h;simp;omega
  ·split at h
   ·simp at h;subst h;simp
   ·rename_i w ws e;rcases Yi.1 h with rfl|h
    ·have:=Qfy c r w (by rw[e];simp);simp;omega
    ·have:=Qfy c r x (by rw[e];simp[h]);simp;omega
theorem Qlc {c:UInt8} {w a b:Bs} (h:Qrm c w=some (a,b)):a.length<=w.length∧b.length<=w.length:=by
 have e:=QgY h;exact⟨Qfy c w a (by rw[e];simp),Qfy c w b (by rw[e];simp)⟩
theorem QoR {c:UInt8} {l:Bs}:Qrm c l=if c∈l∧c∉l.drop ((l.takeWhile (· !=c)).length+1) then some (l.takeWhile (· !=c),l.drop ((l.takeWhile (· !=c)).length+1)) else none:=by
 by_cases hc:c∈l
 ·have⟨h1,h2⟩:=Qje hc;generalize l.takeWhile (· !=c)=a at h1 h2;generalize l.drop (a.length+1)=r at h1;subst h1;unfold Qrm;rw[Qf2 h2]
  by_cases I:c∈r
  ·rw[Y3 (fun h=>h.2 I)];have⟨h3,h4⟩:=Qje I;rw[h3,Qf2 h4]
   cases hs:Qdc c (List.drop ((List.takeWhile (fun x=>x !=c) r).length+1) r) with
   |nil=>exact absurd hs (QoJ _ _)
   |cons x xs=>rfl
  ·rw[Y4 ⟨hc,I⟩,QeL I]
 ·rw[Y3 fun h=>hc h.1];unfold Qrm;rw[QeL hc]
theorem Qbx {w:Bs} {lo hi:Int} (h:isN w lo hi=true):lo<=JA w∧JA w<=hi:=Qbw.1 h
theorem Qco (w:Bs):-1<=QW w∧QW w<=65535:=by
 unfold QW;split
 ·split
  ·rename_i h;have h1:=Qbx h.1;have h2:=Qbx h.2;omega
  ·omega
 ·omega
theorem QoS {c:UInt8} {w:Bs} (h:Qrm c w=none):(Qdc c w).length≠2:=by
 unfold Qrm at h;split at h
 ·cases h
 ·rename_i I;intro hl
  match hs:Qdc c w,hl with
  |[a,b],_=>exact I a b hs
theorem Qj6 {w:Bs} (h:w.length<=1000000):Q6 (tS w)=some (QW w):=by
 unfold Q6;rw[show JC (tS w) 46=_ from Qp5 46 h,Qa];unfold QW
 cases hc:Qrm 46 w with
 |none=>
  have hn:=QoS hc;have e:((((Qdc 46 w).map tS).length:Int) !=2)=true:=by simp;omega
  rw[e,Qd (fun h=>by cases h),QS (by decide),Qa];simp only[Y08];rw[Qd (fun h=>by cases h),QS (by decide),Qa,Y4 (by simp)]
 |some p=>
  have⟨a,b⟩:=p;have e:=QgY hc;have⟨l1,l2⟩:=Qlc hc;rw[e];have J:((([a,b].map tS).length:Int) !=2)=false:=by rfl
  have N:([a,b].map tS).getD 0 default=tS a:=rfl;have O:([a,b].map tS).getD 1 default=tS b:=rfl;have hl:(([a,b].map tS).length:Int)=2:=rfl;rw[J,N,O,Qd (fun _=>by rw[hl];decide),Qs rfl,Qis (by omega),Qa,YJ,Qis (by omega),Qd (fun _=>by rw[hl];decide),Qjd,Qa];dsimp only
  cases I:isN a 0 255
  ·simp
  ·cases hb:isN b 0 255
   ·simp
   ·have h1:=Qbx I;have h2:=Qbx hb;have e1:IntKind.i64.wrap (256*JA a)=256*JA a:=Ql (by omega) (by omega);rw[Y3 (by decide),Qd (by rw[hl];decide),Qp7 a (by omega),Qa,Qd (by rw[hl];decide),Qp7 b (by omega),Qa,e1,Ql (by omega) (by omega),Y4 ⟨rfl,rfl⟩]
theorem Qp9 {w:Bs} {c:UInt8} (hc:c∈w) (I:QgX c=false):Qm7 w=-1:=by
 unfold Qm7;rw[Y3];rintro⟨h,_⟩;have:=Ye.1 (QbL h).1 c hc;rw[I] at this;cases this
theorem Qit {w:Bs} (h:w.length<=1000000):ZJ (tS w)=some (QW w):=by
 have N:(⟨#[46]⟩:Bt)=tS [46]:=rfl;unfold ZJ Qai;rw[N,Qd (by simp;omega),Qa,Qre];unfold QW;rw[QoR]
 by_cases hc:(46:UInt8)∈w
 ·rw[Y4 hc];have J:(w.takeWhile (· !=46)).length<=w.length:=XU (XV _);generalize w.takeWhile (· !=46)=a at J;have I:(w.drop (a.length+1)).length<=w.length:=by rw[XG];omega
  generalize w.drop (a.length+1)=b at I;dsimp only;rw[Qmm (by omega),Qa,Qmm (by omega),Qa,Qmj,Qmj,Qs (by rfl),Qa,Y0j,YJ,Qjd,Qa];have⟨p1,p2⟩:=Qrj (w:=a) (lo:=0) (hi:=255) (by decide) (by decide);have⟨U,Y⟩:=Qrj (w:=b) (lo:=0) (hi:=255) (by decide) (by decide)
  by_cases hb:(46:UInt8)∈b
  ·rw[Y3 (show ¬((46:UInt8)∈w∧(46:UInt8)∉b) from fun h=>h.2 hb)];have:inI (Qm7 b) 0 255=false:=by rw[Qp9 hb (by decide)];decide
   rw[this,XO,Y4 (by simp)]
  ·rw[Y4 (show(46:UInt8)∈w∧(46:UInt8)∉b from⟨hc,hb⟩)];dsimp only;unfold isN;rw[<-p1,<-U]
   cases O:inI (Qm7 a) 0 255
   ·simp
   ·cases hb:inI (Qm7 b) 0 255
    ·simp
    ·have h1:=Qbw.1 O;have h2:=Qbw.1 hb;have e1:IntKind.i64.wrap (256*Qm7 a)=256*Qm7 a:=Ql (by omega) (by omega);rw[Y3 (by decide),Y4 ⟨rfl,rfl⟩,<-p2 O,<-Y hb,e1,Ql (by omega) (by omega)]
 ·rw[Y3 hc,Y3 fun h=>hc h.1];dsimp only;rw[Qmm h,Qa,Qmm (by simp),Qa,QS (by decide),Qa,Y00,Y08,QS (by decide),Qa,Y08,Y4 rfl]
def Qdb (w:Bs):Option (Int×Nat):=match Qrm 47 w with
 |some (a,b)=>if 0<=QW a∧isN b 0 16=true∧(QW a).toNat%2^(16-(JA b).toNat)=0 then some (QW a,(JA b).toNat) else none
 |none=>none
theorem Qf4 {w:Bs} {a:Int} {n:Nat} (h:Qdb w=some (a,n)):0<=a∧a<=65535∧n<=16∧a.toNat%2^(16-n)=0:=by
 unfold Qdb at h;split at h
 ·split at h
  ·rename_i h1;simp only[Yc,YX] at h;obtain⟨rfl,rfl⟩:=h;have:=Qbx h1.2.1;exact⟨h1.1,(Qco _).2,by omega,h1.2.2⟩
  ·cases h
 ·cases h
theorem Qvw {n:Nat} (h:n<=16):Qdk (n:Int)=some ((2^(16-n):Nat):Int):=by
 unfold Qdk;have key:∀(k m v:Nat),m+k=16->v*2^k<=65536->lp (σ:=Int×Int) (β:=(Int)) (fun I=>
(if(decide (I.2<16))=true then
 some (.inl (IntKind.i64.wrap (I.1*2),IntKind.i64.wrap (I.2+1)))
else
 some (.inr I.1))) ((v:Int),(m:Int))=some ((v*2^k:Nat):Int):=by
  intro k
  induction k with
  |zero=>
   intro m v hm hv;refine Zr ?_;dsimp only;rw[Y3 (by simp;omega)];simp
  |succ k N=>
   intro m v hm hv;rw[Y16] at hv;have e:v*2^(k+1)=(v*2)*2^k:=by rw[Y16,Xm (2^k),Nat.mul_assoc]
   have hle:v*2<=(v*2)*2^k:=Nat.le_mul_of_pos_right _ (Nat.pow_pos (by decide));have J:(v*2)*2^k<=65536:=by rw[Nat.mul_assoc,Xm 2];exact hv
   rw[e,<-N (m+1) (v*2) (by omega) J];refine Ji ?_;dsimp only;rw[Y4 (by simp;omega),Ql (by omega) (by omega),Ql (by omega) (by omega)];simp
 have:=key (16-n) n 1 (by omega) (by rw[Y0p];exact Xd (n:=2) (j:=16) (by decide) (by omega));refine(congrArg (fun m=>bd m _) this).trans ?_;rw[Qa,Y0p]
theorem Qld (a b:Nat):((a:Int).tmod (b:Int) !=0)=!decide (a%b=0):=by
 have:(a:Int).tmod (b:Int)=((a%b:Nat):Int):=rfl;rw[this]
 by_cases h:a%b=0
 ·rw[h];rfl
 ·rw[Yz h];simp;omega
theorem QoT (k:Nat):((2^k:Nat):Int)≠0:=by
 have:0<2^k:=Nat.pow_pos (by decide);omega
theorem Qqa {w:Bs} (h:w.length<=1000000):Zv (tS w)=some (match Qdb w with|some (a,n)=>(a,((2^(16-n):Nat):Int))|none=>(-1,0)):=by
 unfold Zv;rw[show JC (tS w) 47=_ from Qp5 47 h,Qa];unfold Qdb
 cases hc:Qrm 47 w with
 |none=>
  have J:=QoS hc;have e:((((Qdc 47 w).map tS).length:Int) !=2)=true:=by simp;omega
  rw[e,Qd (fun h=>by cases h),QS (by decide),Qa];simp only[Y08];rw[Qd (fun h=>by cases h),QS (by decide),Qa,Y4 (by simp)]
 |some p=>
  have⟨a,b⟩:=p;have e:=QgY hc;have⟨l1,l2⟩:=Qlc hc;rw[e];have O:((([a,b].map tS).length:Int) !=2)=false:=by rfl
  have Y:([a,b].map tS).getD 0 default=tS a:=rfl;have U:([a,b].map tS).getD 1 default=tS b:=rfl;have hl:(([a,b].map tS).length:Int)=2:=rfl;rw[O,Y,U,Qd (fun _=>by rw[hl];decide),Qs rfl,Qj6 (by omega),Qa,YJ,Qis (by omega),Qd (fun _=>by rw[hl];decide),Qjd,Qa];dsimp only
  by_cases ha:0<=QW a
  ·rw[Yz (by omega)]
   cases hb:isN b 0 16
   ·simp
   ·have h2:=Qbx hb;have N:JA b=((JA b).toNat:Int):=by omega
    have I:QW a=((QW a).toNat:Int):=by omega
    rw[Y3 (by decide),Qd (by rw[hl];decide),Qa,Qd (by rw[hl];decide),Qp7 b (by omega),Qa,N,Qvw (by omega),Qa,Qd (QoT _),I,Qld];simp only[Y1]
    by_cases hm:(QW a).toNat%2^(16-(JA b).toNat)=0
    ·rw[Yq hm,Y3 (by decide),Y4 ⟨by omega,trivial,hm⟩]
    ·rw[Yz hm,Y4 (by rfl),Y3 fun h=>hm h.2.2]
  ·have J:¬(0<=QW a∧isN b 0 16=true∧(QW a).toNat%2^(16-(JA b).toNat)=0):=fun h=>ha h.1;rw[Yq (by omega),Y3 J,Y4 (by simp)]
theorem Qdh {w:Bs} (h:w.length<=1000000):ZF (tS w)=some (Qdb w).isSome:=by
 unfold ZF;rw[Qqa h,Qa]
 cases hp:Qdb w with
 |none=>rfl
 |some p=>
  have⟨a,n⟩:=p;have:=Qf4 hp;exact congrArg some (Yq this.1)
def mkP (a:Int) (n:Nat):QCj:=⟨a,(n:Int)⟩
theorem Qsx {a:Int} {n:Nat} (h:n<=16):Zf (mkP a n)=some ((2^(16-n):Nat):Int):=by
 unfold Zf mkP;dsimp only;have e:IntKind.i64.wrap (16-(n:Int))=((16-n:Nat):Int):=by rw[Ql (by omega) (by omega)];omega
 have hp:2^(16-n)<=2^16:=Xd (by decide) (by omega);rw[e,Qd (by omega),Y1,Xa (by show 16-n<=64;omega)];have J:(1:Int)*2^(16-n)=((2^(16-n):Nat):Int):=by rw[Int.one_mul,Int.natCast_pow];rfl
 have I:2^(16-n)<=65536:=hp;rw[J];generalize 2^(16-n)=z at I;rw[Ql (by omega) (by omega)]
theorem Qqb {w:Bs} (h:w.length<=1000000):Jf (tS w)=some (match Qdb w with|some (a,n)=>(mkP a n,true)|none=>(mkP 0 0,false)):=by
 have U:(⟨#[47]⟩:Bt)=tS [47]:=rfl;unfold Jf Qai;rw[U,Qd (by simp;omega),Qa,Qre];unfold Qdb;rw[QoR]
 by_cases hc:(47:UInt8)∈w
 ·rw[Y4 hc];have J:(w.takeWhile (· !=47)).length<=w.length:=XU (XV _);generalize w.takeWhile (· !=47)=a at J;have I:(w.drop (a.length+1)).length<=w.length:=by rw[XG];omega
  generalize w.drop (a.length+1)=b at I;dsimp only;rw[Qit (by omega),Qa,Qmm (by omega),Qa,Qs (by rfl)];unfold QaO;dsimp only;rw[Qmj,Qa,Qmj];have hr:=Qco a;have⟨q1,q2⟩:=Qrj (w:=b) (lo:=0) (hi:=16) (by decide) (by decide)
  cases hl:inI (Qm7 b) 0 16
  ·simp only[Qv,Qa,Yv,Yw,Xi,gd];rw[Y4 (by simp)];have:isN b 0 16=false:=by unfold isN;rw[<-q1];exact hl
   have hn:¬(0<=QW a∧isN b 0 16=true∧(QW a).toNat%2^(16-(JA b).toNat)=0):=fun h=>by rw[this] at h;exact absurd h.2.1 (by decide)
   by_cases hq:(47:UInt8)∈w∧(47:UInt8)∉b
   ·rw[Y4 hq];dsimp only;rw[Y3 hn]
    rfl
   ·rw[Y3 hq]
    rfl
  ·have hi:=Qbw.1 hl;have hN:isN b 0 16=true:=by unfold isN;rw[<-q1];exact hl
   have Y:(47:UInt8)∉b:=fun hm=>by rw[Qp9 hm (by decide)] at hi;omega
   rw[Y4 (show(47:UInt8)∈w∧(47:UInt8)∉b from⟨hc,Y⟩)];dsimp only
   by_cases N:0<=QW a
   ·have hA:inI (QW a) 0 65535=true:=Qbw.2 ⟨N,hr.2⟩;have hz:Qm7 b=((JA b).toNat:Int):=by rw[<-q2 hl];omega
    have O:QW a=((QW a).toNat:Int):=by omega
    rw[hA,Qs (by rfl),Qa,Qs (by rfl),hz,show Zf ⟨QW a,(((JA b).toNat:Nat):Int)⟩=_ from Qsx (a:=QW a) (n:=(JA b).toNat) (by omega),Qa,Qd (fun _=>QoT _),Qa];have ht:((QW a).tmod ((2^(16-(JA b).toNat):Nat):Int)==0)=decide ((QW a).toNat%2^(16-(JA b).toNat)=0):=by
     rw[O];have:=Qld (QW a).toNat (2^(16-(JA b).toNat));simp only[bne,Y1] at this|-;simpa using this
    rw[ht]
    by_cases hm:(QW a).toNat%2^(16-(JA b).toNat)=0
    ·rw[Yq hm,Y3 (by decide),Y4 ⟨N,hN,hm⟩];rfl
    ·rw[Yz hm,Y4 (by decide),Y3 fun h=>hm h.2.2];rfl
   ·have hA:inI (QW a) 0 65535=false:=YR.2 fun h=>N (Qbw.1 h).1;have hn:¬(0<=QW a∧isN b 0 16=true∧(QW a).toNat%2^(16-(JA b).toNat)=0):=fun h=>N h.1;rw[hA,Y3 hn];simp only[Qv,Qa,XO,Yv,Yw,Xi,YE,gd];rw[Y4 (by simp)]
    rfl
 ·rw[Y3 hc,Y3 fun h=>hc h.1];dsimp only;rw[Qit h,Qa,Qmm (by simp),Qa,QS (by decide),Qa,Y4 (by simp)]
  rfl
theorem Qrn {w:Bs} (h:w.length<=1000000):QcL (tS w)=some (Qdb w).isSome:=by
 unfold QcL;rw[Qqb h,Qa]
 cases Qdb w<;>rfl
theorem Qvx {w:Bs} (h:w.length<=1000000):Qca (tS w)=some (decide (0<=QW w)):=by
 unfold Qca;rw[Qit h,Qa]
def Qgo:Bs:=[104,111,115,116]
def QdR:Bs:=[117,115,101,114]
def wPort:Bs:=[112,111,114,116]
def QaZ:Bs:=[114,117,108,101]
def wRoute:Bs:=[114,111,117,116,101]
def wPeer:Bs:=[112,101,101,114]
def Qj7:Bs:=[110,97,116]
def wDoor:Bs:=[100,111,111,114]
def wIn:Bs:=[105,110]
def Qiu:Bs:=[112,101,114,109,105,116]
def Qro:Bs:=[100,101,110,121]
def QAu:Bs:=[97,108,108]
def ckP (w:Bs):Bool:=(Qdb w).isSome
def ckA (w:Bs):Bool:=decide (0<=QW w)
def ckV (w:Bs):Bool:=w==Qiu||w==Qro
def Qhr:List Bs->Bool
 |[]=>false
 |a::t=>if a=Qgo then(match t with|[b]=>Qf3 b|_=>false)
  else if a=QdR then(match t with|[b,c]=>Qf3 b&&Qml c|_=>false)
  else if a=wPort then(match t with|[b,c]=>isN b 0 7&&ckP c|[b,c,d,e]=>isN b 0 7&&ckP c&&d==wIn&&Qf3 e|_=>false)
  else if a=QaZ then(match t with|[b,c,d,e,f,g]=>Qf3 b&&isN c 0 99&&ckV d&&ckP e&&ckP f&&isN g 0 7|_=>false)
  else if a=wRoute then(match t with|[b,c]=>ckP b&&ckA c|_=>false)
  else if a=wPeer then(match t with|[b,c,d]=>ckA b&&isN c 1 9&&isN d 1 999999|_=>false)
  else if a=Qj7 then(match t with|[b,c,d,e]=>ckP b&&ckA c&&isN d 1 65535&&isN e 1 65535|_=>false)
  else if a=wDoor then(match t with|[b,c,d,e]=>isN b 1 7&&isN c 1 65535&&ckA d&&isN e 1 65535|_=>false)
  else false
def keyN (a:Bs):Nat:=if a=Qgo∨a=Qj7 then 1 else if a=QdR∨a=wPort∨a=wPeer then 2 else 3
theorem QBP (a c:Bs):(tS a==tS c)=decide (a=c):=by
 rw[Jk]
 by_cases h:a=c
 ·rw[Yq h,h];simp
 ·rw[Yz h];simpa using h
theorem Qxo {t:List Bs} {a:Bs} {n:Nat} (h:t.length≠n):(((((a::t).map tS).length:Nat):Int)==((n+1:Nat):Int))=false:=by
 simp only[Yb,Y8];rw[beq_eq_false_iff_ne];omega
theorem QB1 {t:List Bs} (h:t.length=1):∃b,t=[b]:=by
 match t,h with
 |[b],_=>exact⟨b,rfl⟩
theorem QAv {t:List Bs} (h:t.length=2):∃b c,t=[b,c]:=by
 match t,h with
 |[b,c],_=>exact⟨b,c,rfl⟩
theorem QB2 {t:List Bs} (h:t.length=3):∃b c d,t=[b,c,d]:=by
 match t,h with
 |[b,c,d],_=>exact⟨b,c,d,rfl⟩
theorem QAw {t:List Bs} (h:t.length=4):∃b c d e,t=[b,c,d,e]:=by
 match t,h with
 |[b,c,d,e],_=>exact⟨b,c,d,e,rfl⟩
theorem QB3 {t:List Bs} (h:t.length=6):∃b c d e f g,t=[b,c,d,e,f,g]:=by
 match t,h with
 |[b,c,d,e,f,g],_=>exact⟨b,c,d,e,f,g,rfl⟩
theorem m1 (P:Bs->Bool):∀ {t:List Bs},t.length≠1->(match t with|[b]=>P b|_=>false)=false:=by
 intro t h;split
 ·rename_i h;simp at h
 ·rfl
theorem m2 (P:Bs->Bs->Bool):∀ {t:List Bs},t.length≠2->(match t with|[b,c]=>P b c|_=>false)=false:=by
 intro t h;split
 ·rename_i h;simp at h
 ·rfl
theorem m3 (P:Bs->Bs->Bs->Bool):∀ {t:List Bs},t.length≠3->(match t with|[b,c,d]=>P b c d|_=>false)=false:=by
 intro t h;split
 ·rename_i h;simp at h
 ·rfl
theorem m4 (P:Bs->Bs->Bs->Bs->Bool):∀ {t:List Bs},t.length≠4->(match t with|[b,c,d,e]=>P b c d e|_=>false)=false:=by
 intro t h;split
 ·rename_i h;simp at h
 ·rfl
theorem m6 (P:Bs->Bs->Bs->Bs->Bs->Bs->Bool):∀ {t:List Bs},t.length≠6->(match t with|[b,c,d,e,f,g]=>P b c d e f g|_=>false)=false:=by
 intro t h;split
 ·rename_i h;simp at h
 ·rfl
theorem m24 (P:Bs->Bs->Bool) (Q:Bs->Bs->Bs->Bs->Bool):∀ {t:List Bs},t.length≠2->t.length≠4->(match t with|[b,c]=>P b c|[b,c,d,e]=>Q b c d e|_=>false)=false:=by
 intro t h I;split
 ·rename_i h _;simp at h
 ·rename_i I;simp at I
 ·rfl
theorem QzH {ws:List Bs} (h:∀w∈ws,w.length<=1000000):Qdl (ws.map tS)=some (Qhr ws):=by
 unfold Qdl
 cases ws with
 |nil=>rfl
 |cons a t=>
  have g0:((a::t).map tS).getD 0 default=tS a:=rfl;have hl:(((((a::t).map tS).length:Nat):Int)==0)=false:=by rw[beq_eq_false_iff_ne];simp only[Yb,Y8];omega
  have hb:∀w∈t,w.length<=1000000:=fun w hw=>h w (by simp[hw]);rw[hl,Y3 (by decide),Qd (by simp),g0];rw[show(⟨#[104,111,115,116]⟩:Bt)=tS Qgo from rfl,show(⟨#[117,115,101,114]⟩:Bt)=tS QdR from rfl,show(⟨#[112,111,114,116]⟩:Bt)=tS wPort from rfl,show(⟨#[114,117,108,101]⟩:Bt)=tS QaZ from rfl,show(⟨#[114,111,117,116,101]⟩:Bt)=tS wRoute from rfl,show(⟨#[112,101,101,114]⟩:Bt)=tS wPeer from rfl,show(⟨#[110,97,116]⟩:Bt)=tS Qj7 from rfl,show(⟨#[100,111,111,114]⟩:Bt)=tS wDoor from rfl];simp only[QBP a,Y6];dsimp only[Qhr]
  by_cases c1:a=Qgo
  ·rw[Y4 c1,Y4 c1]
   by_cases I:t.length=1
   ·obtain⟨b,rfl⟩:=QB1 I;have e1:=QoP (hb b (by simp));simp[gd,Qv,bd,e1]
   ·have e:=Qxo (a:=a) I;rw[m1 _ I];simp only[show(2:Int)=((1+1:Nat):Int) from rfl,e,gd,Qv,bd];simp
  rw[Y3 c1,Y3 c1]
  by_cases c2:a=QdR
  ·rw[Y4 c2,Y4 c2]
   by_cases I:t.length=2
   ·obtain⟨b,c,rfl⟩:=QAv I;have e1:=QoP (hb b (by simp));have J:=Qvu (hb c (by simp));simp[gd,Qv,bd,e1,J]
    cases Qf3 b<;>simp
   ·have e:=Qxo (a:=a) I;rw[m2 _ I];simp only[show(3:Int)=((2+1:Nat):Int) from rfl,e,gd,Qv,bd];simp
  rw[Y3 c2,Y3 c2]
  by_cases c3:a=wPort
  ·rw[Y4 c3,Y4 c3]
   by_cases I:t.length=2
   ·obtain⟨b,c,rfl⟩:=QAv I;have e1:=Qis (lo:=0) (hi:=7) (hb b (by simp));have J:=Qdh (hb c (by simp));simp[gd,Qv,bd,e1,J,ckP]
    cases isN b 0 7<;>simp
   ·by_cases Y:t.length=4
    ·obtain⟨b,c,d,e,rfl⟩:=QAw Y;have e1:=Qis (lo:=0) (hi:=7) (hb b (by simp));have J:=Qdh (hb c (by simp));have N:=QoP (hb e (by simp));have U:(tS d==(⟨#[105,110]⟩:Bt))=(d==wIn):=Jk d wIn;simp[gd,Qv,bd,e1,J,N,U,ckP]
     by_cases hd:d=wIn<;>simp[hd]
     cases Qf3 e<;>cases isN b 0 7<;>simp
    ·have e:=Qxo (a:=a) I;have e5:=Qxo (a:=a) Y;rw[m24 _ _ I Y];simp only[show(3:Int)=((2+1:Nat):Int) from rfl,show(5:Int)=((4+1:Nat):Int) from rfl,e,e5,gd,Qv,bd];simp
  rw[Y3 c3,Y3 c3]
  by_cases c4:a=QaZ
  ·rw[Y4 c4,Y4 c4]
   by_cases I:t.length=6
   ·obtain⟨b,c,d,e,f,g,rfl⟩:=QB3 I;have e1:=QoP (hb b (by simp));have J:=Qis (lo:=0) (hi:=99) (hb c (by simp));have N:(tS d==(⟨#[112,101,114,109,105,116]⟩:Bt))=(d==Qiu):=Jk d Qiu;have U:(tS d==(⟨#[100,101,110,121]⟩:Bt))=(d==Qro):=Jk d Qro;have e5:=Qdh (hb e (by simp));have e6:=Qdh (hb f (by simp));have e7:=Qis (lo:=0) (hi:=7) (hb g (by simp));simp[gd,Qv,bd,e1,J,N,U,e5,e6,e7,ckP,ckV]
    cases Qf3 b<;>simp
    cases isN c 0 99<;>simp
    by_cases hd:d=Qiu∨d=Qro
    ·simp[hd]
     cases Qdb e<;>simp
     cases Qdb f<;>simp
    ·simp[hd]
   ·have e:=Qxo (a:=a) I;rw[m6 _ I];simp only[show(7:Int)=((6+1:Nat):Int) from rfl,e,gd,Qv,bd];simp
  rw[Y3 c4,Y3 c4]
  by_cases c5:a=wRoute
  ·rw[Y4 c5,Y4 c5]
   by_cases I:t.length=2
   ·obtain⟨b,c,rfl⟩:=QAv I;have e1:=Qdh (hb b (by simp));have J:=Qj6 (hb c (by simp));simp[gd,Qv,bd,e1,J,ckP,ckA]
    cases Qdb b<;>simp
   ·have e:=Qxo (a:=a) I;rw[m2 _ I];simp only[show(3:Int)=((2+1:Nat):Int) from rfl,e,gd,Qv,bd];simp
  rw[Y3 c5,Y3 c5]
  by_cases c6:a=wPeer
  ·rw[Y4 c6,Y4 c6]
   by_cases I:t.length=3
   ·obtain⟨b,c,d,rfl⟩:=QB2 I;have e1:=Qj6 (hb b (by simp));have J:=Qis (lo:=1) (hi:=9) (hb c (by simp));have N:=Qis (lo:=1) (hi:=999999) (hb d (by simp));simp[gd,Qv,bd,e1,J,N,ckA]
    by_cases O:0<=QW b
    ·simp[O];cases isN c 1 9<;>simp
    ·simp[O]
   ·have e:=Qxo (a:=a) I;rw[m3 _ I];simp only[show(4:Int)=((3+1:Nat):Int) from rfl,e,gd,Qv,bd];simp
  rw[Y3 c6,Y3 c6]
  by_cases c7:a=Qj7
  ·rw[Y4 c7,Y4 c7]
   by_cases I:t.length=4
   ·obtain⟨b,c,d,e,rfl⟩:=QAw I;have e1:=Qdh (hb b (by simp));have J:=Qj6 (hb c (by simp));have N:=Qis (lo:=1) (hi:=65535) (hb d (by simp));have U:=Qis (lo:=1) (hi:=65535) (hb e (by simp));simp[gd,Qv,bd,e1,J,N,U,ckA,ckP]
    cases Qdb b<;>simp
    by_cases O:0<=QW c
    ·simp[O];cases isN d 1 65535<;>simp
    ·simp[O]
   ·have e:=Qxo (a:=a) I;rw[m4 _ I];simp only[show(5:Int)=((4+1:Nat):Int) from rfl,e,gd,Qv,bd];simp
  rw[Y3 c7,Y3 c7]
  by_cases c8:a=wDoor
  ·rw[Y4 c8,Y4 c8]
   by_cases I:t.length=4
   ·obtain⟨b,c,d,e,rfl⟩:=QAw I;have e1:=Qis (lo:=1) (hi:=7) (hb b (by simp));have J:=Qis (lo:=1) (hi:=65535) (hb c (by simp));have N:=Qj6 (hb d (by simp));have U:=Qis (lo:=1) (hi:=65535) (hb e (by simp));simp[gd,Qv,bd,e1,J,N,U,ckA]
    cases isN b 1 7<;>simp
    cases isN c 1 65535<;>simp
    by_cases O:0<=QW d
    ·simp[O]
    ·simp[O]
   ·have e:=Qxo (a:=a) I;rw[m4 _ I];simp only[show(5:Int)=((4+1:Nat):Int) from rfl,e,gd,Qv,bd];simp
  rw[Y3 c8,Y3 c8]
def ckF:Fnv->Bs->Bool
 | .k f,w=>if f=280 then Qf3 w else if f=281 then Qml w else if f=282 then ckP w else ckA w
 | .r _ lo hi,w=>isN w lo hi
 | .w _ ws,w=>ws.any (· ==tS w)
def okF:Fnv->Prop
 | .k f=>f=280∨f=281∨f=282∨f=284
 | .r f _ _=>f=300
 | .w f ws=>f=302∧ws.length<=100
theorem QA1 {c:Fnv} {w:Bs} (hc:okF c) (h:w.length<=1000000):QhY c (tS w)=some (ckF c w):=by
 unfold QhY ckF
 cases c with
 |k f=>
  rcases hc with rfl|rfl|rfl|rfl
  ·exact QzF h
  ·exact Qvt h
  ·exact Qrn h
  ·exact Qvx h
 |r f lo hi=>
  have hc:f=300:=hc;subst hc;exact QBO h
 |w f ws=>
  have⟨I,hl⟩:=hc;subst I;show QcM (tS w) ws=_;unfold QcM;rw[Qyx (by omega),Qa]
def Qjg (f:form) (ws:List Bs):Bool:=decide (ws.length=f.checks.length+1)&&Qaz f.checks.length fun i=>ckF (f.checks.getD i default) (ws.getD (i+1) [])
theorem ZU {xs:List Bs} {i:Nat} (h:i<xs.length):(xs.map tS).getD i default=tS (xs.getD i []):=by
 simp[Y0,h]
theorem Qa9 {xs:List Bs} {i:Nat} (h:i<xs.length):xs.getD i []∈xs:=by
 rw[Y0,Y5 h];exact Xj h
theorem QzI {f:form} {ws:List Bs} (N:∀c∈f.checks,okF c) (hl:f.checks.length<=100) (h:∀w∈ws,w.length<=1000000):Qcc f (ws.map tS)=some (Qjg f ws):=by
 unfold Qcc Qjg;rw[Ql (by omega) (by omega)]
 by_cases I:ws.length=f.checks.length+1
 ·rw[Y3 (by simp;omega),Yq I,Yn];rw[QbN f.checks.length (fun i=>ckF (f.checks.getD i default) (ws.getD (i+1) [])) (.inl ()) (.inr ()) (fun i hi _=>?_) (fun _=>by rw[Y3 (by simp)]),Qa]
  ·cases Qaz f.checks.length fun i=>ckF (f.checks.getD i default) (ws.getD (i+1) [])<;>rfl
  ·have J:i+1<ws.length:=by omega
   rw[Y4 (by simp;omega),Qd (by omega),Qf hi (by omega),Qd (by simp;omega),Y1,Y1,ZU J,QA1 (N _ (Q0 hi)) (h _ (Qa9 J)),Qa]
   cases ckF (f.checks.getD i default) (ws.getD (i+1) [])<;>rfl
 ·rw[Y4 (by simp;omega),Yz I,Yv]
def fHost:form:=⟨tS Qgo,1,[.k 280]⟩
def fUser:form:=⟨tS QdR,2,[.k 280,.k 281]⟩
def Qrp:form:=⟨tS wPort,2,[.r 300 0 7,.k 282]⟩
def Qjh:form:=⟨tS wPort,2,[.r 300 0 7,.k 282,.w 302 [tS wIn],.k 280]⟩
def fRule:form:=⟨tS QaZ,3,[.k 280,.r 300 0 99,.w 302 [tS Qiu,tS Qro],.k 282,.k 282,.r 300 0 7]⟩
def fRoute:form:=⟨tS wRoute,3,[.k 282,.k 284]⟩
def fPeer:form:=⟨tS wPeer,2,[.k 284,.r 300 1 9,.r 300 1 999999]⟩
def fNat:form:=⟨tS Qj7,1,[.k 282,.k 284,.r 300 1 65535,.r 300 1 65535]⟩
def fDoor:form:=⟨tS wDoor,3,[.r 300 1 7,.r 300 1 65535,.k 284,.r 300 1 65535]⟩
def allF:List form:=[fHost,fUser,Qrp,Qjh,fRule,fRoute,fPeer,fNat,fDoor]
theorem QzJ:∀f∈allF,(∀c∈f.checks,okF c)∧f.checks.length<=100:=by
 intro f I;simp only[allF,Yi,List.mem_nil_iff,or_false] at I;rcases I with rfl|rfl|rfl|rfl|rfl|rfl|rfl|rfl|rfl<;>refine⟨?_,by decide⟩<;>intro c hc<;>
  simp only[fHost,fUser,Qrp,Qjh,fRule,fRoute,fPeer,fNat,fDoor,Yi,List.mem_nil_iff,or_false] at hc<;>
  rcases hc with rfl|rfl|rfl|rfl|rfl|rfl<;>simp[okF]
theorem Qxp (s:Bt):Qdu s=some (allF.filter fun f=>f.word==s):=by
 have e:Qdu s=QAY (fun f=>Qad f s) allF:=rfl;rw[e,Qvj (pm:=fun f=>Qad f s) (p:=fun f=>!(f.word==s)) (fun x _=>rfl) (by decide)];simp
def QoU:List Bs->Option form
 |[]=>none
 |a::t=>(allF.filter fun f=>f.word==tS a).find? fun f=>Qjg f (a::t)
theorem QnM {α:Type} [Inhabited α] {p:α->Bool} {xs:List α}:xs.find? p=(Zi (fun i=>p (xs.getD i default)) xs.length).map fun i=>xs.getD i default:=by
 cases h:Zi (fun i=>p (xs.getD i default)) xs.length with
 |none=>
  have:=JV h;rw[Option.map_none,List.find?_eq_none];intro x J;have⟨i,hi,e⟩:=XA J;have:=this i hi;rw[Y0,Y5 hi] at this;rw[<-e];simpa using this
 |some i=>
  have⟨h1,h2,h3⟩:=Z5 h;rw[Xo,List.find?_eq_some_iff_getElem];refine⟨h2,i,h1,?_,fun j I=>?_⟩
  ·rw[Y0,Y5 h1];rfl
  ·have:=h3 j I;rw[Y0,Y5 (by omega)] at this;simpa using this
theorem Qqc {ws:List Bs} (h:∀w∈ws,w.length<=1000000):QcN (ws.map tS)=some (match QoU ws with|some f=>(f,true)|none=>(⟨ByteArray.empty,0,[]⟩,false)):=by
 unfold QcN
 cases ws with
 |nil=>rfl
 |cons a t=>
  have O:((a::t).map tS).getD 0 default=tS a:=rfl;have hl:(((((a::t).map tS).length:Nat):Int)==0)=false:=by rw[beq_eq_false_iff_ne];simp only[Yb,Y8];omega
  rw[hl,Y3 (by decide),Qd (by simp),O,Qxp,Qa];dsimp only[QoU];have J:∀f∈allF.filter (fun f=>f.word==tS a),f∈allF:=fun f N=>(Yp.1 N).1;have I:(allF.filter (fun f=>f.word==tS a)).length<=9:=XB _ _;generalize allF.filter (fun f=>f.word==tS a)=xs at J I;rw[QnM];rw[Z8 xs.length (fun i=>Qjg (xs.getD i default) (a::t)) (fun i=>.inl ((xs.getD i default).word,(xs.getD i default).key,(xs.getD i default).checks)) (.inr ()) (fun i hi=>?_) (by rw[Y3 (by simp)]),Qa]
  ·cases Zi (fun i=>Qjg (xs.getD i default) (a::t)) xs.length<;>rfl
  ·have ho:=QzJ _ (J _ (Q0 hi));rw[Y4 (by simp;omega),Qd (by omega),Y1,QzI ho.1 ho.2 h,Qa,Qf hi (by omega)]
   cases Qjg (xs.getD i default) (a::t)<;>rfl
theorem QBQ (a:Bs):(allF.filter fun f=>f.word==tS a)=if a=Qgo then [fHost] else if a=QdR then [fUser] else if a=wPort then [Qrp,Qjh] else if a=QaZ then [fRule] else if a=wRoute then [fRoute] else if a=wPeer then [fPeer] else if a=Qj7 then [fNat] else if a=wDoor then [fDoor] else []:=by
 have e:∀c:Bs,(tS c==tS a)=decide (a=c):=fun c=>by
  rw[QBP];rw[YG];exact eq_comm
 simp only[allF,fHost,fUser,Qrp,Qjh,fRule,fRoute,fPeer,fNat,fDoor,X1,List.filter_nil,e,Y6]
 by_cases N:a=Qgo
 ·subst N;rfl
 rw[Y3 N,Y3 N]
 by_cases c2:a=QdR
 ·subst c2;rfl
 rw[Y3 c2,Y3 c2]
 by_cases I:a=wPort
 ·subst I;rfl
 rw[Y3 I,Y3 I,Y3 I]
 by_cases O:a=QaZ
 ·subst O;rfl
 rw[Y3 O,Y3 O]
 by_cases U:a=wRoute
 ·subst U;rfl
 rw[Y3 U,Y3 U]
 by_cases J:a=wPeer
 ·subst J;rfl
 rw[Y3 J,Y3 J]
 by_cases Y:a=Qj7
 ·subst Y;rfl
 rw[Y3 Y,Y3 Y]
theorem QhQ {f:form} {a:Bs} {t:List Bs} (h:t.length≠f.checks.length):Qjg f (a::t)=false:=by
 unfold Qjg;rw[Yz (by simp only[Y8];omega),Yv]
theorem Qji {f:form} {p:form->Bool} {b:Bool} (h:p f=b):([f].find? p).map (·.key)=bif b then some f.key else none:=by
 subst h;simp only[List.find?_cons,List.find?_nil]
 cases p f<;>rfl
theorem inB (d:Bs):ckF (.w 302 [tS wIn]) d=(d==wIn):=by
 show(tS wIn==tS d||false)=_;rw[Jk,Y0v,YH];simp only[YD];exact eq_comm
theorem inV (d:Bs):ckF (.w 302 [tS Qiu,tS Qro]) d=ckV d:=by
 show(tS Qiu==tS d||(tS Qro==tS d||false))=_;rw[Jk,Jk,Y0v,YH];unfold ckV;simp only[YD,Yr]
 constructor<;>rintro(h|h)<;>simp[h]
theorem Qqd (ws:List Bs):(QoU ws).map (·.key)=bif Qhr ws then some ((keyN (ws.getD 0 []):Nat):Int) else none:=by
 cases ws with
 |nil=>rfl
 |cons a t=>
  dsimp only[QoU,Qhr];rw[QBQ];have hk:(a::t).getD 0 []=a:=rfl;rw[hk]
  by_cases U:a=Qgo
  ·rw[Y4 U,Y4 U];have J:keyN a=fHost.key.toNat:=by rw[U];rfl
   by_cases I:t.length=1
   ·obtain⟨b,rfl⟩:=QB1 I;rw[J];refine Qji ?_;simp[Qjg,fHost,Qaz,Xh,ckF,inV,<-inV,XM]
   ·rw[m1 _ I];exact Qji (p:=fun f=>Qjg f (a::t)) (QhQ (f:=fHost) I)
  rw[Y3 U,Y3 U]
  by_cases c2:a=QdR
  ·rw[Y4 c2,Y4 c2];have J:keyN a=fUser.key.toNat:=by rw[c2];rfl
   by_cases I:t.length=2
   ·obtain⟨b,c,rfl⟩:=QAv I;rw[J];refine Qji ?_;simp[Qjg,fUser,Qaz,Xh,ckF,inV,<-inV,XM]
   ·rw[m2 _ I];exact Qji (p:=fun f=>Qjg f (a::t)) (QhQ (f:=fUser) I)
  rw[Y3 c2,Y3 c2]
  by_cases c3:a=wPort
  ·rw[Y4 c3,Y4 c3];have J:keyN a=2:=by rw[c3];rfl
   rw[J]
   by_cases I:t.length=2
   ·obtain⟨b,c,rfl⟩:=QAv I;have e1:Qjg Qrp [a,b,c]=(isN b 0 7&&ckP c):=by simp[Qjg,Qrp,Qaz,Xh,ckF]
    have e2:Qjg Qjh [a,b,c]=false:=QhQ (by simp[Qjh]);simp only[List.find?_cons,List.find?_nil,e1,e2]
    cases isN b 0 7&&ckP c<;>rfl
   ·have e1:Qjg Qrp (a::t)=false:=QhQ I
    by_cases N:t.length=4
    ·obtain⟨b,c,d,e,rfl⟩:=QAw N;have e2:Qjg Qjh [a,b,c,d,e]=(isN b 0 7&&ckP c&&d==wIn&&Qf3 e):=by
      rw[<-inB d];simp[Qjg,Qjh,Qaz,Xh,ckF,XM]
     simp only[List.find?_cons,List.find?_nil,e1,e2]
     cases isN b 0 7&&ckP c&&d==wIn&&Qf3 e<;>rfl
    ·have e2:Qjg Qjh (a::t)=false:=QhQ N;simp only[List.find?_cons,List.find?_nil,e1,e2,m24 _ _ I N]
     rfl
  rw[Y3 c3,Y3 c3]
  by_cases Y:a=QaZ
  ·rw[Y4 Y,Y4 Y];have J:keyN a=fRule.key.toNat:=by rw[Y];rfl
   by_cases I:t.length=6
   ·obtain⟨b,c,d,e,f,g,rfl⟩:=QB3 I;rw[J];refine Qji ?_;simp[Qjg,fRule,Qaz,Xh,ckF,inV,<-inV,XM]
   ·rw[m6 _ I];exact Qji (p:=fun f=>Qjg f (a::t)) (QhQ (f:=fRule) I)
  rw[Y3 Y,Y3 Y]
  by_cases c5:a=wRoute
  ·rw[Y4 c5,Y4 c5];have J:keyN a=fRoute.key.toNat:=by rw[c5];rfl
   by_cases I:t.length=2
   ·obtain⟨b,c,rfl⟩:=QAv I;rw[J];refine Qji ?_;simp[Qjg,fRoute,Qaz,Xh,ckF,inV,<-inV,XM]
   ·rw[m2 _ I];exact Qji (p:=fun f=>Qjg f (a::t)) (QhQ (f:=fRoute) I)
  rw[Y3 c5,Y3 c5]
  by_cases O:a=wPeer
  ·rw[Y4 O,Y4 O];have J:keyN a=fPeer.key.toNat:=by rw[O];rfl
   by_cases I:t.length=3
   ·obtain⟨b,c,d,rfl⟩:=QB2 I;rw[J];refine Qji ?_;simp[Qjg,fPeer,Qaz,Xh,ckF,inV,<-inV,XM]
   ·rw[m3 _ I];exact Qji (p:=fun f=>Qjg f (a::t)) (QhQ (f:=fPeer) I)
  rw[Y3 O,Y3 O]
  by_cases c7:a=Qj7
  ·rw[Y4 c7,Y4 c7];have J:keyN a=fNat.key.toNat:=by rw[c7];rfl
   by_cases I:t.length=4
   ·obtain⟨b,c,d,e,rfl⟩:=QAw I;rw[J];refine Qji ?_;simp[Qjg,fNat,Qaz,Xh,ckF,inV,<-inV,XM]
   ·rw[m4 _ I];exact Qji (p:=fun f=>Qjg f (a::t)) (QhQ (f:=fNat) I)
  rw[Y3 c7,Y3 c7]
  by_cases c8:a=wDoor
  ·rw[Y4 c8,Y4 c8];have J:keyN a=fDoor.key.toNat:=by rw[c8];rfl
   by_cases I:t.length=4
   ·obtain⟨b,c,d,e,rfl⟩:=QAw I;rw[J];refine Qji ?_;simp[Qjg,fDoor,Qaz,Xh,ckF,inV,<-inV,XM]
   ·rw[m4 _ I];exact Qji (p:=fun f=>Qjg f (a::t)) (QhQ (f:=fDoor) I)
  rw[Y3 c8,Y3 c8]
  rfl
theorem QnN {ws:List Bs} {f:form} (h:QoU ws=some f):Qhr ws=true∧f.key=((keyN (ws.getD 0 []):Nat):Int):=by
 have:=Qqd ws;rw[h,Xo] at this
 cases hb:Qhr ws
 ·rw[hb] at this;cases this
 ·rw[hb,Y0f,Yc] at this;exact⟨rfl,this⟩
theorem QnO {ws:List Bs} (h:QoU ws=none):Qhr ws=false:=by
 have:=Qqd ws;rw[h,Option.map_none] at this
 cases hb:Qhr ws
 ·rfl
 ·rw[hb] at this;cases this
def Qd0:List Bs->Bs
 |[]=>[]
 |a::t=>a++t.flatMap fun w=>32::w
theorem Qjj (a b:Bs):tS a++tS b=tS (a++b):=by
 apply Qvi
 rw[Qip];show(ByteArray.append (tS a) (tS b)).data.toList=_;simp[tS]
theorem QzK (ws:List Bs):QkD (ws.map tS) (tS [32])=tS (Qd0 ws):=by
 have e1:(ws.map tS).map (fun x=>x.data.toList)=ws:=by
  rw[XT];have:((fun x:Bt=>x.data.toList)∘tS)=id:=funext fun x=>Qip x;rw[this,List.map_id]
 have I:(tS [32]).data.toList=[32]:=rfl;unfold QkD;rw[e1,I];show tS _=_
 cases ws with
 |nil=>rfl
 |cons a t=>
  rw[Lib.join_cons];unfold Lib.joinTail Qd0
  congr 2
def Qiv (ws:List Bs) (i:Nat):Bs:=if i=0 then Qd0 ws else(ws.drop i).flatMap fun w=>32::w
theorem QzL {ws:List Bs} (h:(Qd0 ws).length<=1000000000) (hw:ws.length<=1000000):QbS (ws.map tS) (tS [32])=some (tS (Qd0 ws)):=by
 unfold QbS;have key:∀(k i:Nat) (s:Bs),i+k=ws.length->(i=0->s=[])->(s++Qiv ws i).length<=1000000000->lp (σ:=Bt×Int) (β:=(Bt)) (fun I=>
(if(decide (I.2<(((ws.map tS).length:Nat):Int)))=true then
(if(decide (I.2>0))=true then
 gd (I.1.size+(tS [32]).size<=9223372036854775807)<|
 gd ((0:Int)<=I.2∧I.2<(((ws.map tS).length:Nat):Int))<|
 gd ((I.1++(tS [32])).size+((ws.map tS).getD I.2.toNat default).size<=9223372036854775807)<|
 some (.inl (((I.1++(tS [32]))++((ws.map tS).getD I.2.toNat default)),IntKind.i64.wrap (I.2+1)))
else
 gd ((0:Int)<=I.2∧I.2<(((ws.map tS).length:Nat):Int))<|
 gd (I.1.size+((ws.map tS).getD I.2.toNat default).size<=9223372036854775807)<|
 some (.inl ((I.1++((ws.map tS).getD I.2.toNat default)),IntKind.i64.wrap (I.2+1))))
else
 some (.inr I.1))) (tS s,(i:Int))=some (tS (s++Qiv ws i)):=by
  intro k
  induction k with
  |zero=>
   intro i s hi h0 hl;have hi:i=ws.length:=by omega
   subst hi;refine Zr ?_;dsimp only;rw[Y3 (by simp)];have:Qiv ws ws.length=[]:=by
    unfold Qiv;split
    ·rename_i h;rw[YL h];rfl
    ·simp
   rw[this,Xp]
  |succ k ih=>
   intro i s hi h0 hl;have J:i<ws.length:=by omega
   have Y:ws.drop i=ws.getD i []::ws.drop (i+1):=by
    rw[X2 J,Y0,Y5 J];rfl
   have U:Qiv ws (i+1)=(ws.drop (i+1)).flatMap fun w=>32::w:=Y3 (by omega)
   by_cases hz:i=0
   ·subst hz;have hs:=h0 rfl;subst hs;have hr:Qiv ws 0=ws.getD 0 []++Qiv ws 1:=by
     rw[U];unfold Qiv;rw[Y4 rfl];rw[XP] at Y
     conv=>lhs;rw[Y]
     rfl
    have e:([]:Bs)++Qiv ws 0=ws.getD 0 []++Qiv ws (0+1):=hr;have O:=hl;rw[e] at O|-;have N:=O;rw[Yj] at N;rw[<-ih 1 (ws.getD 0 []) (by omega) (by omega) O];refine Ji ?_;dsimp only;rw[Y4 (by simp;omega),Y3 (by simp),Qd (by simp;omega),Y1,ZU J,Qd (by simp only[Qbf,Yd];omega),Qjj,Qf J (by omega)]
    rfl
   ·have hr:Qiv ws i=32::ws.getD i []++Qiv ws (i+1):=by
     rw[U];unfold Qiv;rw[Y3 hz,Y]
     rfl
    have e:s++Qiv ws i=(s++[32]++ws.getD i [])++Qiv ws (i+1):=by rw[hr];simp
    rw[e] at hl|-;have N:=hl;simp only[Yj,Y8,Yd] at N;rw[<-ih (i+1) (s++[32]++ws.getD i []) (by omega) (by omega) hl];refine Ji ?_;dsimp only;rw[Y4 (by simp;omega),Y4 (by simp;omega),Qd (by simp;omega),Qd (by simp;omega),Y1,ZU J,Qjj,Qd (by simp only[Qbf,Yj,Y8,Yd];omega),Qjj,Qf J (by omega)]
 have k0:=key ws.length 0 [] (by omega) (fun _=>rfl) (by rw[YA];exact h);refine(congrArg (fun m=>bd m _) k0).trans ?_;rw[Qa]
 rfl
theorem QoV {c:UInt8}:∀ {l w:Bs},w∈Qdc c l->c∉w
 |[],w,h=>by simp[Qdc] at h;simp[h]
 |b::r,w,h=>by
  unfold Qdc at h;split at h
  ·rcases Yi.1 h with rfl|h
   ·simp
   ·exact QoV h
  ·rename_i hb;split at h
   ·simp at h;subst h;simp[YY hb]
   ·rename_i x xs e;rcases Yi.1 h with rfl|h
    ·have:c∉x:=QoV (l:=r) (by rw[e];simp);simp[YY hb,this]
    ·exact QoV (l:=r) (by rw[e];simp[h])
structure WordsOk (ws:List Bs):Prop where
 few:ws.length≤8
 short:∀w∈ws,w.length≤24
 no:∀w∈ws,(32:UInt8)∉w
 ne:∀w∈ws,w≠ []
theorem Qeq {l:Bs} {ws:List Bs} (h:Qiq l=some ws):WordsOk ws:=by
 unfold Qiq at h;split at h
 ·rename_i hc;simp only[Yc] at h;subst h;have J:=hc.2;simp only[QA0,Y2,Y6,Ye] at J;refine⟨J.1,J.2,fun w I=>?_,fun w I=>?_⟩
  ·exact QoV (Yp.1 I).1
  ·have:=(Yp.1 I).2;intro e;subst e;simp at this
 ·cases h
theorem WordsOk.long {ws:List Bs} (h:WordsOk ws):∀w∈ws,w.length<=1000000:=fun w I=>by have:=h.short w I;omega
theorem Qsy:∀ {t:List Bs},(∀w∈t,w.length<=24)->(t.flatMap fun w=>32::w).length<=25*t.length
 |[],_=>by simp
 |b::r,h=>by
  have:=Qsy (t:=r) fun w I=>h w (by simp[I]);have:=h b (by simp);rw[List.flatMap_cons,Yj,Y8,Y8];omega
theorem WordsOk.joins {ws:List Bs} (h:WordsOk ws):(Qd0 ws).length<=200:=by
 cases ws with
 |nil=>simp[Qd0]
 |cons a t=>
  have h1:=Qsy (t:=t) fun w I=>h.short w (by simp[I]);have h2:=h.short a (by simp);have h3:=h.few;show(a++t.flatMap fun w=>32::w).length<=200;rw[Yj];simp at h3;omega
theorem QnP:∀ {ws:List Bs},ws≠ []->(∀w∈ws,(32:UInt8)∉w)->Qdc 32 (Qd0 ws)=ws
 |[],h,_=>absurd rfl h
 |[a],_,h=>by
  have:Qd0 [a]=a:=by simp[Qd0]
  rw[this,QeL (h a (by simp))]
 |a::b::t,_,h=>by
  have e:Qd0 (a::b::t)=a++32::Qd0 (b::t):=by simp[Qd0]
  rw[e,Qf2 (h a (by simp)),QnP (by simp) fun w I=>h w (by simp[I])]
def QtQ (l:Bs):Option Bs:=match Qiq l with
 |some ws=>bif Qhr ws then some (Qd0 ws) else none
 |none=>none
def QdS (l:Bs):Bool:=QtQ l==some l
def wsL (l:Bs):List Bs:=(Qiq l).getD []
def Qhs (l:Bs):Bs:=bif QdS l then Qd0 ((wsL l).take (keyN ((wsL l).getD 0 []))) else []
theorem QzM {l:Bs} (h:l.length<=1000000):Qcz (tS l)=some (match QtQ l with|some x=>(tS x,true)|none=>(tS [],false)):=by
 unfold Qcz QtQ;rw[QoM (by omega)]
 cases hc:Qiq l with
 |none=>
  dsimp only;rw[Qa];dsimp only;rw[QS (by decide),Qa,Y4 (by rfl)]
  rfl
 |some ws=>
  have W:=Qeq hc;dsimp only;rw[Qa];dsimp only;rw[Qs (by rfl),QzH W.long,Qa]
  cases Qhr ws
  ·rfl
  ·have:=W.joins;rw[Y3 (by decide),show QbS (ws.map tS) ⟨#[32]⟩=_ from QzL (by omega) (by have:=W.few;omega),Qa]
   rfl
theorem Qvy {ws:List Bs} (h:(Qd0 ws).length<=1000000) (hw:ws.length<=1000000):Qbc (ws.map tS) ⟨#[32]⟩=some (tS (Qd0 ws)):=by
 unfold Qbc;rw[show QkD (ws.map tS) ⟨#[32]⟩=_ from QzK ws,Qd (by simp;omega)]
theorem QzN {l:Bs} (h:l.length<=1000000):QcO (tS l)=some (match QtQ l with|some x=>(tS x,true)|none=>(tS [],false)):=by
 unfold QcO QtQ;rw[Qxm h]
 cases hc:Qiq l with
 |none=>
  dsimp only;rw[Qa,Y4 (by rfl)]
  rfl
 |some ws=>
  have W:=Qeq hc;have hj:=W.joins;have hf:=W.few;dsimp only;rw[Qa,Y3 (by simp),Qqc W.long,Qa]
  cases I:QoU ws with
  |none=>rw[QnO I];rfl
  |some f=>
   rw[(QnN I).1];dsimp only;rw[Y3 (by decide),Qvy (by omega) (by omega),Qa]
   rfl
theorem QzO (l:Bs) (o:Option Bs):((match o with|some x=>(tS x,true)|none=>(tS [],false)):Bt×Bool).2=true∧(((match o with|some x=>(tS x,true)|none=>(tS [],false)):Bt×Bool).1==tS l)=true↔(o==some l)=true:=by
 cases o with
 |none=>simp
 |some x=>simp[Jk]
theorem QyA (l:Bs) (o:Option Bs):(((match o with|some x=>(tS x,true)|none=>(tS [],false)):Bt×Bool).2&&(((match o with|some x=>(tS x,true)|none=>(tS [],false)):Bt×Bool).1==tS l))=(o==some l):=by
 rw[YH,Y2];exact QzO l o
theorem QzP {l:Bs} (h:l.length<=1000000):Qdm (tS l)=some (QdS l):=by
 unfold Qdm;rw[QzM h,Qa,QyA]
 rfl
theorem Qvz {l:Bs} (h:l.length<=1000000):QcP (tS l)=some (QdS l):=by
 unfold QcP;rw[QzN h,Qa,QyA]
 rfl
theorem QdT {l:Bs} (h:QdS l=true):∃ws,Qiq l=some ws∧Qhr ws=true∧Qd0 ws=l∧wsL l=ws:=by
 unfold QdS QtQ at h
 cases hc:Qiq l with
 |none=>rw[hc] at h;simp at h
 |some ws=>
  rw[hc] at h;dsimp only at h
  cases I:Qhr ws
  ·rw[I] at h;simp at h
  ·rw[I] at h;simp at h;exact⟨ws,rfl,I,h,by simp[wsL,hc]⟩
inductive LineF:List Bs→Prop
 |host {b:Bs} (h1:Qf3 b=true):LineF [Qgo,b]
 |user {b c:Bs} (h1:Qf3 b=true) (h2:Qml c=true):LineF [QdR,b,c]
 |port {b c:Bs} (h1:isN b 0 7=true) (h2:ckP c=true):LineF [wPort,b,c]
 |port2 {b c e:Bs} (h1:isN b 0 7=true) (h2:ckP c=true) (h3:Qf3 e=true):LineF [wPort,b,c,wIn,e]
 |rule {b c d e f g:Bs} (h1:Qf3 b=true) (h2:isN c 0 99=true) (h3:ckV d=true) (h4:ckP e=true) (h5:ckP f=true) (h6:isN g 0 7=true):LineF [QaZ,b,c,d,e,f,g]
 |route {b c:Bs} (h1:ckP b=true) (h2:ckA c=true):LineF [wRoute,b,c]
 |peer {b c d:Bs} (h1:ckA b=true) (h2:isN c 1 9=true) (h3:isN d 1 999999=true):LineF [wPeer,b,c,d]
 |nat {b c d e:Bs} (h1:ckP b=true) (h2:ckA c=true) (h3:isN d 1 65535=true) (h4:isN e 1 65535=true):LineF [Qj7,b,c,d,e]
 |door {b c d e:Bs} (h1:isN b 1 7=true) (h2:isN c 1 65535=true) (h3:ckA d=true) (h4:isN e 1 65535=true):LineF [wDoor,b,c,d,e]
theorem Qxq {ws:List Bs} (h:Qhr ws=true):LineF ws:=by
 cases ws with
 |nil=>cases h
 |cons a t=>
  dsimp only[Qhr] at h
  by_cases J:a=Qgo
  ·rw[Y4 J] at h;subst J;split at h
   ·exact .host h
   ·cases h
  rw[Y3 J] at h
  by_cases c2:a=QdR
  ·rw[Y4 c2] at h;subst c2;split at h
   ·simp only[Y2] at h;exact .user h.1 h.2
   ·cases h
  rw[Y3 c2] at h
  by_cases U:a=wPort
  ·rw[Y4 U] at h;subst U;split at h
   ·simp only[Y2] at h;exact .port h.1 h.2
   ·simp only[Y2,YD] at h;have⟨⟨⟨h1,h2⟩,h3⟩,h4⟩:=h;subst h3;exact .port2 h1 h2 h4
   ·cases h
  rw[Y3 U] at h
  by_cases N:a=QaZ
  ·rw[Y4 N] at h;subst N;split at h
   ·simp only[Y2] at h;obtain⟨⟨⟨⟨⟨h1,h2⟩,h3⟩,h4⟩,h5⟩,h6⟩:=h;exact .rule h1 h2 h3 h4 h5 h6
   ·cases h
  rw[Y3 N] at h
  by_cases O:a=wRoute
  ·rw[Y4 O] at h;subst O;split at h
   ·simp only[Y2] at h;exact .route h.1 h.2
   ·cases h
  rw[Y3 O] at h
  by_cases I:a=wPeer
  ·rw[Y4 I] at h;subst I;split at h
   ·simp only[Y2] at h;exact .peer h.1.1 h.1.2 h.2
   ·cases h
  rw[Y3 I] at h
  by_cases c7:a=Qj7
  ·rw[Y4 c7] at h;subst c7;split at h
   ·simp only[Y2] at h;exact .nat h.1.1.1 h.1.1.2 h.1.2 h.2
   ·cases h
  rw[Y3 c7] at h
  by_cases Y:a=wDoor
  ·rw[Y4 Y] at h;subst Y;split at h
   ·simp only[Y2] at h;exact .door h.1.1.1 h.1.1.2 h.1.2 h.2
   ·cases h
  rw[Y3 Y] at h;cases h
theorem QoW {ws:List Bs} (h:LineF ws):keyN (ws.getD 0 [])<=ws.length∧1<=keyN (ws.getD 0 []):=by
 cases h<;>(simp only[Xs,Y8,Yd];decide)
end Go.Proofs.YtjjkhncoafdfmaaGreatDoor
