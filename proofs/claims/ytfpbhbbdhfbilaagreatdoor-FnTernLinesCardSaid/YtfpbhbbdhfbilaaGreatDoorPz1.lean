/-
  Plain Lean: what the models of functions compute; no condition.
-/
import Derived.Test.YtfpbhbbdhfbilaaGreatDoorKz6
import Derived.Test.YtfpbhbbdhfbilaaGreatDoorAbz8
set_option linter.all false
namespace Go.Proofs.YtfpbhbbdhfbilaaGreatDoor
open Go Go.Ab
set_option maxHeartbeats 4000000
set_option maxRecDepth 100000
def Post {α:Type} (m:Option α) (Q:α→Prop):Prop:=∃x,m=some x∧Q x
theorem Post.ret {α:Type} {x:α} {Q:α→Prop} (h:Q x):Post (some x) Q:=⟨x,rfl,h⟩
theorem Post.bd {α β:Type} {m:Option α} {f:α→Option β} {Q:α→Prop} {R:β→Prop} (h:Post m Q) (k:∀x,Q x→Post (f x) R):Post (bd m f) R:=by
 obtain⟨x,e,hx⟩:=h;rw[e,Qb];exact k x hx
theorem Post.gd {α:Type} {c:Prop} [Decidable c] {m:Option α} {Q:α→Prop} (h:c) (k:Post m Q):Post (gd c m) Q:=by rwa[Qc h]
theorem Post.ite {α:Type} {c:Prop} [Decidable c] {a b:Option α} {Q:α→Prop} (k1:c→Post a Q) (k2:¬c→Post b Q):Post (if c then a else b) Q:=by
 by_cases h:c
 ·rw[if_pos h];exact k1 h
 ·rw[if_neg h];exact k2 h
theorem Post.mono {α:Type} {m:Option α} {Q R:α→Prop} (h:Post m Q) (k:∀x,Q x→R x):Post m R:=by
 obtain⟨x,e,hx⟩:=h;exact⟨x,e,k x hx⟩
theorem Post.lp {σ β:Type} {step:σ→Option (σ⊕β)} {s0:σ} {Q:β→Prop} (inv:σ→Prop) (meas:σ→Nat) (h0:inv s0)
  (hs:∀s,inv s→Post (step s) fun r=>match r with| .inl s'=>inv s'∧meas s'<meas s| .inr b=>Q b):Post (lp step s0) Q:=by
 have key:∀n s,meas s≤n→inv s→Post (Go.Ab.lp step s) Q:=by
  intro n
  induction n with
  |zero=>
   intro s hm hi;obtain⟨r,e,hr⟩:=hs s hi
   cases r with
   |inl s'=>exact absurd hr.2 (by omega)
   |inr b=>exact⟨b,Jo e,hr⟩
  |succ n ih=>
   intro s hm hi;obtain⟨r,e,hr⟩:=hs s hi
   cases r with
   |inl s'=>
    rw[QaA e];exact ih s' (by have:=hr.2;omega) hr.1
   |inr b=>exact⟨b,Jo e,hr⟩
 exact key (meas s0) s0 (Nat.le_refl _) h0
theorem Qry {α:Type} [Inhabited α] {p:α→Prop} {xs:List α} (h:∀x∈xs,p x) (h0:p default) (i:Nat):p (xs.getD i default):=by
 rw[List.getD_eq_getElem?_getD];rcases hx:xs[i]? with _|x
 ·exact h0
 ·exact h _ (List.mem_of_getElem? hx)
theorem QmJ {a b:Int} (ha:0≤a∧a≤4611686018427387904) (hb:0≤b∧b≤4611686018427387904):0≤bits .xor .i64 a b:=by
 unfold bits;have e1:IntKind.bits .i64=64:=rfl;have l:∀x:Int,0≤x∧x≤4611686018427387904→(BitVec.ofInt 64 x).toNat<2^63:=fun x hx=>by
  rw[BitVec.toNat_ofInt];omega
 have h:(BitVec.ofInt 64 a^^^BitVec.ofInt 64 b).toNat<2^63:=by
  rw[BitVec.toNat_xor];exact Nat.xor_lt_two_pow (l a ha) (l b hb)
 show 0≤IntKind.i64.wrap (((BitVec.ofInt 64 a^^^BitVec.ofInt 64 b).toNat:Nat):Int);rw[Qs (by omega) (by omega)];omega
structure RdOk (r:l1Rd) (k:Int):Prop where
 bytes:∀x∈r.b,QoX x
 len:r.b.length≤2000
 p0:0≤r.p
 p1:r.p≤k
theorem QtV {b:List Int} (hb:b.length≤9223372036854775807) (h:∀x∈b,QoX x):Post (QcJ b) fun r=>RdOk r 0:=by
 unfold QcJ;refine .ite (fun h1=>.gd ?_ (.ret ⟨fun x hx=>h x (List.mem_of_mem_take hx),?_,Int.le_refl _,Int.le_refl _⟩)) fun h1=>.ret ⟨h,?_,Int.le_refl _,Int.le_refl _⟩
 ·simp at h1;omega
 ·simp;omega
 ·show b.length≤2000;simp at h1;omega
theorem QtW {r:l1Rd} {n k:Int} (h:RdOk r k) (hk:k≤1099511627776) (hn:1≤n):Post (Zc r n) fun x=>(0≤x.1∧x.1<n)∧RdOk ⟨r.b,x.2.p⟩ (k+1):=by
 obtain⟨h1,h2,h3,h4⟩:=h;unfold Zc;have e1:IntKind.i64.wrap (r.p+1)=r.p+1:=Qs (by omega) (by omega);have e2:IntKind.i64.wrap (r.p+1-1)=r.p:=(Qs (n:=r.p+1-1) (by omega) (by omega)).trans (by omega);have e3:IntKind.i64.wrap (r.p*7)=r.p*7:=Qs (by omega) (by omega);have e4:IntKind.i64.wrap (r.p*7+3)=r.p*7+3:=Qs (by omega) (by omega);have e5:IntKind.i64.wrap (r.p*29)=r.p*29:=Qs (by omega) (by omega);rw[e1,e2,e3,e4,e5];have ok:RdOk ⟨r.b,r.p+1⟩ (k+1):=⟨h1,h2,by dsimp only;omega,by dsimp only;omega⟩;have byte:∀i:Nat,0≤r.b.getD i default∧r.b.getD i default≤255:=fun i=>Qry h1 ⟨Int.le_refl _,by decide⟩ i;have wb:∀i:Nat,IntKind.i64.wrap (r.b.getD i default)=r.b.getD i default:=fun i=>by have:=byte i;exact Qs (by omega) (by omega)
 have md:∀x:Int,0≤x→0≤x.tmod n∧x.tmod n<n:=fun x hx=>⟨Int.tmod_nonneg _ hx,Int.tmod_lt_of_pos _ (by omega)⟩;refine .ite (fun _=>.ret ⟨⟨Int.le_refl _,by dsimp only;omega⟩,ok⟩) fun c1=>.ite (fun c2=>.gd ⟨h3,by simpa using c2⟩ (.gd (by omega) (.ret ⟨?_,ok⟩))) fun c2=>?_
 ·rw[wb];exact md _ (byte _).1
 ·have hl:(0:Int)<(r.b.length:Nat):=by
   have:r.b.length≠0:=fun e=>c1 (by rw[e];simp);omega
  have m1:0≤r.p.tmod (r.b.length:Nat)∧r.p.tmod (r.b.length:Nat)<(r.b.length:Nat):=⟨Int.tmod_nonneg _ h3,Int.tmod_lt_of_pos _ hl⟩;have m2:0≤(r.p*7+3).tmod (r.b.length:Nat)∧(r.p*7+3).tmod (r.b.length:Nat)<(r.b.length:Nat):=⟨Int.tmod_nonneg _ (by omega),Int.tmod_lt_of_pos _ hl⟩;refine .gd (by omega) (.gd m1 (.gd (by omega) (.gd m2 (.gd (by omega) (.gd (by decide) (.gd (by omega) (.ret ⟨?_,ok⟩)))))));have b1:=byte (r.p.tmod (r.b.length:Nat)).toNat
  have b2:=byte ((r.p*7+3).tmod (r.b.length:Nat)).toNat
  have d1:0≤r.p.tdiv (r.b.length:Nat)∧r.p.tdiv (r.b.length:Nat)≤r.p:=by
   refine⟨Int.tdiv_nonneg h3 (by omega),?_⟩;rw[Int.tdiv_eq_ediv_of_nonneg h3];exact Int.ediv_le_self _ h3
  rw[wb,wb];generalize r.b.getD (r.p.tmod (r.b.length:Nat)).toNat default=B1 at*;generalize r.b.getD ((r.p*7+3).tmod (r.b.length:Nat)).toNat default=B2 at*;generalize r.p.tdiv (r.b.length:Nat)=D1 at*;simp (disch:=omega) only[Qs];have hX:0≤B1*131+B2*1117+r.p*29+D1*53∧B1*131+B2*1117+r.p*29+D1*53≤4611686018427387904:=by omega
  generalize B1*131+B2*1117+r.p*29+D1*53=X at*;have d2:0≤X.tdiv 64∧X.tdiv 64≤4611686018427387904:=by
   rw[Int.tdiv_eq_ediv_of_nonneg hX.1];omega
  rw[Qs (n:=X.tdiv 64) (by omega) (by omega)];exact md _ (QmJ hX d2)
structure RdOk5 (r:QzT) (k:Int):Prop where
 bytes:∀x∈r.b,QoX x
 len:r.b.length≤2000
 p0:0≤r.p
 p1:r.p≤k
theorem Qsw {r:QzT} {n k:Int} (h:RdOk5 r k) (hk:k≤1099511627776) (hn:1≤n):Post (Q1 r n) fun x=>(0≤x.1∧x.1<n)∧RdOk5 ⟨r.b,x.2.p⟩ (k+1):=by
 obtain⟨h1,h2,h3,h4⟩:=h;unfold Q1;have e1:IntKind.i64.wrap (r.p+1)=r.p+1:=Qs (by omega) (by omega);have e2:IntKind.i64.wrap (r.p+1-1)=r.p:=(Qs (n:=r.p+1-1) (by omega) (by omega)).trans (by omega);have e3:IntKind.i64.wrap (r.p*7)=r.p*7:=Qs (by omega) (by omega);have e4:IntKind.i64.wrap (r.p*7+3)=r.p*7+3:=Qs (by omega) (by omega);have e5:IntKind.i64.wrap (r.p*29)=r.p*29:=Qs (by omega) (by omega);rw[e1,e2,e3,e4,e5];have ok:RdOk5 ⟨r.b,r.p+1⟩ (k+1):=⟨h1,h2,by dsimp only;omega,by dsimp only;omega⟩;have byte:∀i:Nat,0≤r.b.getD i default∧r.b.getD i default≤255:=fun i=>Qry h1 ⟨Int.le_refl _,by decide⟩ i;have wb:∀i:Nat,IntKind.i64.wrap (r.b.getD i default)=r.b.getD i default:=fun i=>by have:=byte i;exact Qs (by omega) (by omega)
 have md:∀x:Int,0≤x→0≤x.tmod n∧x.tmod n<n:=fun x hx=>⟨Int.tmod_nonneg _ hx,Int.tmod_lt_of_pos _ (by omega)⟩;refine .ite (fun _=>.ret ⟨⟨Int.le_refl _,by dsimp only;omega⟩,ok⟩) fun c1=>.ite (fun c2=>.gd ⟨h3,by simpa using c2⟩ (.gd (by omega) (.ret ⟨?_,ok⟩))) fun c2=>?_
 ·rw[wb];exact md _ (byte _).1
 ·have hl:(0:Int)<(r.b.length:Nat):=by
   have:r.b.length≠0:=fun e=>c1 (by rw[e];simp);omega
  have m1:0≤r.p.tmod (r.b.length:Nat)∧r.p.tmod (r.b.length:Nat)<(r.b.length:Nat):=⟨Int.tmod_nonneg _ h3,Int.tmod_lt_of_pos _ hl⟩;have m2:0≤(r.p*7+3).tmod (r.b.length:Nat)∧(r.p*7+3).tmod (r.b.length:Nat)<(r.b.length:Nat):=⟨Int.tmod_nonneg _ (by omega),Int.tmod_lt_of_pos _ hl⟩;refine .gd (by omega) (.gd m1 (.gd (by omega) (.gd m2 (.gd (by omega) (.gd (by decide) (.gd (by omega) (.ret ⟨?_,ok⟩)))))));have b1:=byte (r.p.tmod (r.b.length:Nat)).toNat
  have b2:=byte ((r.p*7+3).tmod (r.b.length:Nat)).toNat
  have d1:0≤r.p.tdiv (r.b.length:Nat)∧r.p.tdiv (r.b.length:Nat)≤r.p:=by
   refine⟨Int.tdiv_nonneg h3 (by omega),?_⟩;rw[Int.tdiv_eq_ediv_of_nonneg h3];exact Int.ediv_le_self _ h3
  rw[wb,wb];generalize r.b.getD (r.p.tmod (r.b.length:Nat)).toNat default=B1 at*;generalize r.b.getD ((r.p*7+3).tmod (r.b.length:Nat)).toNat default=B2 at*;generalize r.p.tdiv (r.b.length:Nat)=D1 at*;simp (disch:=omega) only[Qs];have hX:0≤B1*131+B2*1117+r.p*29+D1*53∧B1*131+B2*1117+r.p*29+D1*53≤4611686018427387904:=by omega
  generalize B1*131+B2*1117+r.p*29+D1*53=X at*;have d2:0≤X.tdiv 64∧X.tdiv 64≤4611686018427387904:=by
   rw[Int.tdiv_eq_ediv_of_nonneg hX.1];omega
  rw[Qs (n:=X.tdiv 64) (by omega) (by omega)];exact md _ (QmJ hX d2)
abbrev Bs:=List UInt8
def tB (s:Bt):Bs:=s.data.toList
def tS (l:Bs):Bt:=⟨l.toArray⟩
@[simp] theorem QhG (l:Bs):tB (tS l)=l:=by simp [tB,tS]
@[simp] theorem Qsx (s:Bt):tS (tB s)=s:=by cases s; simp [tB,tS]
@[simp] theorem QtX (s:Bt):(tB s).length=s.size:=by cases s; simp [tB,ByteArray.size]
@[simp] theorem Qbm (l:Bs):(tS l).size=l.length:=by simp [tS,ByteArray.size]
theorem QtY {s t:Bt} (h:tB s=tB t):s=t:=by rw[←Qsx s,h,Qsx]
theorem QwG {s t:Bs} (h:tS s=tS t):s=t:=by rw[←QhG s,h,QhG]
theorem Qpg {s t:Bt}:(s==t)=true↔s=t:=by
 constructor
 ·intro h;have h1:(s.data==t.data)=true:=h;have h2:s.data=t.data:=by simpa using h1
  cases s;cases t;simp_all
 ·intro h;subst h;show(s.data==s.data)=true;simp
instance:ReflBEq Bt:=⟨Qpg.2 rfl⟩
instance:LawfulBEq Bt:={eq_of_beq:=fun h=>Qpg.1 h}
theorem Z2 (s t:Bs):(tS s==tS t)=(s==t):=by
 rw[Bool.eq_iff_iff];simp only[beq_iff_eq];exact⟨QwG,fun h=>h▸rfl⟩
theorem QmK (s:Bt) (i j:Nat):tB (s.extract i j)=((tB s).take j).drop i:=by
 simp[tB,ByteArray.data_extract,List.extract_eq_drop_take,List.drop_take]
theorem Qvy {l:Bs} {i:Nat} (h:i<l.length):JL (tS l) i=((l.getD i 0).toNat:Int):=by
 unfold JL;have hs:i<(tS l).size:=by simpa using h
 have:(tS l)[i]? =some (l.getD i 0):=by
  rw[getElem?_pos (tS l) i hs];show some (l.toArray[i]'(by simpa using h))=_;simp[List.getD_eq_getElem?_getD,h]
 rw[this]
theorem Qgp {α:Type} {q:α→Bool}:∀ {l:List α} {i:Nat},i<l.length→(∀k x,k<i→l[k]? =some x→q x=true)→(∀x,l[i]? =some x→q x=false)→l.takeWhile q=l.take i
 |[],i,h,_,_=>by simp at h
 |a::r,0,_,_,h2=>by simp[List.takeWhile_cons,h2 a rfl]
 |a::r,i+1,h,h1,h2=>by
  have:=h1 0 a (by omega) rfl;simp only[List.takeWhile_cons,this,if_true,List.take_succ_cons];rw[Qgp (l:=r) (i:=i) (by simpa using h) (fun k x hk hx=>h1 (k+1) x (by omega) (by simpa using hx)) fun x hx=>h2 x (by simpa using hx)]
theorem QfC {α:Type} {q:α→Bool} {l:List α} (h:∀x∈l,q x=true):l.takeWhile q=l:=by
 induction l with
 |nil=>rfl
 |cons a r ih=>simp[List.takeWhile_cons,h a (by simp),ih fun x hx=>h x (by simp[hx])]
theorem Qdp {α:Type} {q:α→Bool}:∀ {l:List α},l.take (l.takeWhile q).length=l.takeWhile q
 |[]=>rfl
 |a::r=>by
  by_cases h:q a=true
  ·simp[List.takeWhile_cons,h,Qdp (l:=r)]
  ·simp[List.takeWhile_cons,h]
theorem Qbo (c:UInt8):∀l:Bs,Lib.index l [c]=if c∈l then((l.takeWhile (· !=c)).length:Int) else-1
 |[]=>by simp[Lib.index]
 |b::r=>by
  have ih:=Qbo c r;unfold Lib.index
  by_cases hb:b=c
  ·subst hb;simp[List.isPrefixOf]
  ·have h1:([c].isPrefixOf (b::r))=false:=by simp[List.isPrefixOf,Ne.symm hb]
   have h2:(b !=c)=true:=by simpa using hb
   rw[h1,ih]
   by_cases hc:c∈r
   ·have:¬((((r.takeWhile (· !=c)).length:Int))== -1)=true:=by
     rw[beq_iff_eq];omega
    rw[if_pos hc,if_neg (by decide),if_neg this,if_pos (by simp[hc])];simp[h2,List.takeWhile_cons]
   ·simp[hc,Ne.symm hb]
def Qc7 (c:UInt8):Bs→List Bs
 |[]=>[[]]
 |b::r=>if b=c then []::Qc7 c r else match Qc7 c r with
  |[]=>[[b]]
  |w::ws=>(b::w)::ws
theorem QnT (c:UInt8):∀l,Qc7 c l≠ []
 |[]=>by simp[Qc7]
 |b::r=>by
  unfold Qc7;split
  ·simp
  ·split<;>simp
theorem Qer {c:UInt8}:∀ {l:Bs},c∉l→Qc7 c l=[l]
 |[],_=>rfl
 |b::r,h=>by
  have h1:b≠c:=fun e=>h (by simp[e]);have h2:c∉r:=fun e=>h (by simp[e]);simp[Qc7,h1,Qer h2]
theorem QfD {c:UInt8}:∀ {a r:Bs},c∉a→Qc7 c (a++c::r)=a::Qc7 c r
 |[],r,_=>by simp[Qc7]
 |b::a,r,h=>by
  have h1:b≠c:=fun e=>h (by simp[e]);have h2:c∉a:=fun e=>h (by simp[e]);simp[Qc7,h1,QfD h2]
theorem Qik {c:UInt8} {l:Bs} (h:c∈l):l=l.takeWhile (· !=c)++c::l.drop ((l.takeWhile (· !=c)).length+1)∧c∉l.takeWhile (· !=c):=by
 induction l with
 |nil=>simp at h
 |cons b r ih=>
  by_cases hb:b=c
  ·subst hb;simp
  ·have hc:c∈r:=by simpa[Ne.symm hb] using h
   obtain⟨h1,h2⟩:=ih hc;have hq:(b !=c)=true:=by simpa using hb
   simp only[List.takeWhile_cons,hq,if_true,List.length_cons,List.drop_succ_cons,List.cons_append];refine⟨by rw[←h1],?_⟩;simp[Ne.symm hb,h2]
theorem Qph (c:UInt8):∀(n:Nat) (l:Bs),l.length≤n→Lib.splitK [c] 0 (Lib.count l [c]) l=Qc7 c l
 |n,l,hn=>by
  by_cases hc:c∈l
  ·obtain⟨h1,h2⟩:=Qik hc;have hi:Lib.index l [c]=((l.takeWhile (· !=c)).length:Int):=by rw[Qbo,if_pos hc]
   have hlen:(l.takeWhile (· !=c)).length+1≤l.length:=by
    have:=congrArg List.length h1;simp only[List.length_append,List.length_cons] at this;omega
   rw[Lib.count_hit (by simp) hi,Nat.add_comm 1]
   cases n with
   |zero=>simp at hn;subst hn;simp at hc
   |succ n=>
    have ih:=Qph c n (l.drop ((l.takeWhile (· !=c)).length+1)) (by simp;omega);unfold Lib.splitK;rw[hi];have hne:¬((((l.takeWhile (· !=c)).length:Nat):Int)== -1)=true:=by rw[beq_iff_eq];omega
    rw[if_neg hne];simp only[Int.toNat_natCast,Nat.add_zero,List.length_cons,List.length_nil,Nat.zero_add];rw[ih];have ht:l.take (l.takeWhile (· !=c)).length=l.takeWhile (· !=c):=Qdp;rw[ht]
    conv=>rhs;rw[h1]
    rw[QfD h2]
  ·rw[Lib.count_miss (by rw[Qbo,if_neg hc]),Qer hc]
   rfl
theorem QnU (c:UInt8) (l:Bs):Qlw (tS l) (tS [c])=(Qc7 c l).map tS:=by
 have h:(Qlw (tS l) (tS [c])).map tB=Qc7 c l:=by
  have:=Lib.splitB_data (tS [c]) 0 (Lib.countB (tS l) (tS [c])) (tS l);unfold Qlw;show(Lib.splitB (tS [c]) 0 (Lib.countB (tS l) (tS [c])) (tS l)).map (fun x=>x.data.toList)=_;rw[this];have e:Lib.countB (tS l) (tS [c])=Lib.count l [c]:=by
   show Lib.count (tB (tS l)) (tB (tS [c]))=_;rw[QhG,QhG]
  rw[e];show Lib.splitK (tB (tS [c])) 0 _ (tB (tS l))=_;rw[QhG,QhG];exact Qph c _ l (Nat.le_refl _)
 rw[←h,List.map_map];have:(tS∘tB)=id:=funext fun s=>Qsx s;rw[this,List.map_id]
theorem Qqu (c:UInt8) (l:Bs):Qs2 (tS l) (tS [c])=if c∈l then(tS (l.takeWhile (· !=c)),tS (l.drop ((l.takeWhile (· !=c)).length+1)),true) else(tS l,tS [],false):=by
 have e1:(tS l).data.toList=l:=QhG l;have e2:(tS [c]).data.toList=[c]:=QhG [c];unfold Qs2;rw[e1,e2];unfold Lib.cut;rw[Qbo]
 by_cases hc:c∈l
 ·obtain⟨h1,h2⟩:=Qik hc;have ht:l.take (l.takeWhile (· !=c)).length=l.takeWhile (· !=c):=Qdp;simp[hc,ht,tS]
 ·simp[hc,tS]
section
variable {α:Type} [Inhabited α]
noncomputable def Qy5 (pm:α→Option Bool) (a0:List α):Option Int:=
 bd (lp (σ:=Int) (β:=(Int⊕Unit)) (fun s1=>
(if(decide (s1<((a0.length:Nat):Int)))=true then
 gd ((0:Int)≤s1∧s1<((a0.length:Nat):Int))<|
 bd (pm (a0.getD s1.toNat default)) fun x6=>
(if x6=true then
 some (.inr (.inl s1))
else
 some (.inl (IntKind.i64.wrap (s1+1))))
else
 some (.inr (.inr ())))) 0) fun x4=>
(match x4 with
| .inl d7=>
 some d7
| .inr d8=>
 some (-1))
noncomputable def QwH (pm:α→Option Bool) (a0:List α):Option Bool:=
 bd (Qy5 pm a0) fun x1=>
 some (decide (x1≥0))
noncomputable def QyO (pm:α→Option Bool) (a0:List α):Option (List α):=
 bd (Qy5 pm a0) fun x1=>
(if(x1==(-1))=true then
 some a0
else
 bd (lp (σ:=List α×Int×Int) (β:=(Nat×Int×(List α))) (fun s2=>
(if(decide (s2.2.2<((s2.1.length:Nat):Int)))=true then
 gd ((0:Int)≤s2.2.2∧s2.2.2<((s2.1.length:Nat):Int))<|
 bd (pm (s2.1.getD s2.2.2.toNat default)) fun x7=>
(if(!x7)=true then
 gd ((0:Int)≤s2.2.1∧s2.2.1<((s2.1.length:Nat):Int))<|
 some (.inl (s2.1.set s2.2.1.toNat (s2.1.getD s2.2.2.toNat default),IntKind.i64.wrap (s2.2.1+1),IntKind.i64.wrap (s2.2.2+1)))
else
 some (.inl (s2.1,s2.2.1,IntKind.i64.wrap (s2.2.2+1))))
else
 some (.inr (s2.1.length,s2.2.1,s2.1)))) (a0,x1,IntKind.i64.wrap (x1+1))) fun x5=>
 gd ((0:Int)≤x5.2.1∧x5.2.1≤((x5.1:Nat):Int)∧((x5.1:Nat):Int)≤((x5.1:Nat):Int))<|
 gd ((0:Int)≤(0:Int)∧(0:Int)≤x5.2.1∧x5.2.1≤((x5.1:Nat):Int))<|
 some ((QpV x5.2.2 x5.2.1.toNat (QdL ((x5.1:Nat):Int) x5.2.1)).take x5.2.1.toNat))
theorem QaX {xs:List α} {i:Nat} (h:i<xs.length):xs.getD i default∈xs:=by
 rw[List.getD_eq_getElem?_getD,List.getElem?_eq_getElem h];exact List.getElem_mem h
theorem QwI {pm:α→Option Bool} {p:α→Bool} {xs:List α} (hp:∀x∈xs,pm x=some (p x)) (h:xs.length≤1048576):
  Qy5 pm xs=some (match Jj (fun i=>p (xs.getD i default)) xs.length with|some i=>(i:Int)|none=>-1):=by
 unfold Qy5;rw[QaC xs.length (fun i=>p (xs.getD i default)) (fun i=>Sum.inl (i:Int)) (.inr ()) (fun i hi=>?_) (by rw[if_neg (by simp)]),Qb]
 ·cases Jj (fun i=>p (xs.getD i default)) xs.length<;>rfl
 ·rw[if_pos (by simp;omega),Qc (by omega),Int.toNat_natCast,Qk hi (by omega),hp _ (QaX hi),Qb];split<;>simp_all
theorem Qgq {p:α→Bool} {xs:List α}:xs.any p=(Jj (fun i=>p (xs.getD i default)) xs.length).isSome:=by
 cases h:Jj (fun i=>p (xs.getD i default)) xs.length with
 |none=>
  have:=QcB h;simp only[Option.isSome_none,List.any_eq_false];intro x hx;obtain⟨i,hi,e⟩:=List.getElem_of_mem hx;have:=this i hi;rw[List.getD_eq_getElem?_getD,List.getElem?_eq_getElem hi] at this;rw[←e];simpa using this
 |some i=>
  obtain⟨h1,h2,_⟩:=QcA h;simp only[Option.isSome_some,List.any_eq_true];exact⟨_,QaX h1,h2⟩
theorem QmL {pm:α→Option Bool} {p:α→Bool} {xs:List α} (hp:∀x∈xs,pm x=some (p x)) (h:xs.length≤1048576):QwH pm xs=some (xs.any p):=by
 unfold QwH;rw[QwI hp h,Qb,Qgq]
 cases Jj (fun i=>p (xs.getD i default)) xs.length with
 |none=>simp
 |some i=>simp
structure DlW (xs0:List α) (k:α→Bool) (xs:List α) (i j:Nat):Prop where
 lt:i<j
 le:j≤xs0.length
 len:xs.length=xs0.length
 take:xs.take i=(xs0.take j).filter k
 drop:∀q,j≤q→xs.getD q default=xs0.getD q default
theorem DlW.keep {xs0:List α} {k:α→Bool} {xs:List α} {i j:Nat} (h:DlW xs0 k xs i j) (hj:j<xs0.length) (hk:k (xs.getD j default)=true):DlW xs0 k (xs.set i (xs.getD j default)) (i+1) (j+1):=by
 have hd:=h.drop j (Nat.le_refl _);have hlt:=h.lt;have hl:=h.len;refine⟨by omega,hj,by simp[h.len],?_,fun q hq=>?_⟩
 ·rw[List.take_succ,List.take_set_of_le (Nat.le_refl _),h.take,List.take_succ (i:=j),List.filter_append,hd];rw[hd] at hk;have e1:(xs.set i (xs0.getD j default))[i]? =some (xs0.getD j default):=by rw[List.getElem?_set,if_pos rfl,if_pos (by omega)]
  have e2:xs0[j]? =some (xs0.getD j default):=by simp[List.getD_eq_getElem?_getD,hj]
  rw[e1,e2];show _++[xs0.getD j default]=_++([xs0.getD j default]).filter k;rw[List.filter_cons,if_pos hk]
  rfl
 ·have:(xs.set i (xs.getD j default)).getD q default=xs.getD q default:=by
   simp[List.getD_eq_getElem?_getD,List.getElem?_set,show i≠q by omega]
  rw[this];exact h.drop q (by omega)
theorem DlW.skip {xs0:List α} {k:α→Bool} {xs:List α} {i j:Nat} (h:DlW xs0 k xs i j) (hj:j<xs0.length) (hk:k (xs.getD j default)=false):DlW xs0 k xs i (j+1):=by
 have hd:=h.drop j (Nat.le_refl _);have hlt:=h.lt;rw[hd] at hk;refine⟨by omega,hj,h.len,?_,fun q hq=>h.drop q (by omega)⟩;have e2:xs0[j]? =some (xs0.getD j default):=by simp[List.getD_eq_getElem?_getD,hj]
 rw[List.take_succ,List.filter_append,←h.take,e2];show _=_++([xs0.getD j default]).filter k;rw[List.filter_cons,if_neg (by rw[hk];decide)];simp
theorem Qjw {k:α→Bool} {xs:List α} {n:Nat} (h:∀q,q<n→q<xs.length→k (xs.getD q default)=true):(xs.take n).filter k=xs.take n:=by
 refine List.filter_eq_self.2 fun x hx=>?_;obtain⟨q,hq,e⟩:=List.getElem_of_mem hx;rw[List.length_take] at hq;have:=h q (by omega) (by omega);rw[List.getD_eq_getElem?_getD,List.getElem?_eq_getElem (by omega)] at this;rw[←e,List.getElem_take];exact this
theorem QtZ {xs:List α} {i l:Nat}:(QpV xs i l).take i=xs.take i:=by
 apply List.ext_getElem?
 intro q
 by_cases hq:q<i
 ·by_cases hx:q<xs.length
  ·simp[QpV,List.getElem?_take,hq,hx,show ¬i≤q by omega,List.getD_eq_getElem?_getD]
  ·rw[List.getElem?_eq_none (by simp;omega),List.getElem?_eq_none (by simp;omega)]
 ·rw[List.getElem?_eq_none (by simp;omega),List.getElem?_eq_none (by simp;omega)]
theorem Qt0 {pm:α→Option Bool} {p:α→Bool} {xs:List α} (hp:∀x∈xs,pm x=some (p x)) (h:xs.length≤1048576):QyO pm xs=some (xs.filter fun x=>!p x):=by
 unfold QyO;rw[QwI hp h,Qb]
 cases hf:Jj (fun i=>p (xs.getD i default)) xs.length with
 |none=>
  have:=QcB hf;dsimp only;rw[if_pos (by decide)];have e:=Qjw (k:=fun r=>!p r) (xs:=xs) (n:=xs.length) fun q hq _=>by simpa using this q hq
  rw[List.take_length] at e;rw[e]
 |some i=>
  obtain⟨h1,h2,h3⟩:=QcA hf;dsimp only;rw[if_neg (by simp<;>omega)];have start:DlW xs (fun r=>!p r) xs i (i+1):=by
   refine⟨Nat.lt_succ_self _,h1,rfl,?_,fun _ _=>rfl⟩;have e2:xs[i]? =some (xs.getD i default):=by simp[List.getD_eq_getElem?_getD,h1]
   rw[List.take_succ,List.filter_append,e2,Qjw fun q hq _=>by simpa using h3 q hq];show _=_++([xs.getD i default]).filter (fun r=>!p r);rw[List.filter_cons,if_neg (by rw[h2];decide)];simp
  have key:Post (lp (σ:=List α×Int×Int) (β:=(Nat×Int×(List α))) (fun s2=>
    (if(decide (s2.2.2<((s2.1.length:Nat):Int)))=true then
    gd ((0:Int)≤s2.2.2∧s2.2.2<((s2.1.length:Nat):Int))<|
    bd (pm (s2.1.getD s2.2.2.toNat default)) fun x7=>
    (if(!x7)=true then
    gd ((0:Int)≤s2.2.1∧s2.2.1<((s2.1.length:Nat):Int))<|
    some (.inl (s2.1.set s2.2.1.toNat (s2.1.getD s2.2.2.toNat default),IntKind.i64.wrap (s2.2.1+1),IntKind.i64.wrap (s2.2.2+1)))
    else
    some (.inl (s2.1,s2.2.1,IntKind.i64.wrap (s2.2.2+1))))
    else
    some (.inr (s2.1.length,s2.2.1,s2.1)))) (xs,(i:Int),IntKind.i64.wrap ((i:Int)+1))) fun x=>∃q:Nat,x.2.1=(q:Int)∧q≤x.1∧x.2.2.take q=xs.filter (fun r=>!p r):=by
   rw[Qk h1 (by omega)];refine .lp (fun s=>∃q j:Nat,s.2.1=(q:Int)∧s.2.2=(j:Int)∧DlW xs (fun r=>!p r) s.1 q j) (fun s=>xs.length-s.2.2.toNat) ⟨i,i+1,rfl,rfl,start⟩ fun s ⟨q,j,ep,ej,D⟩=>?_;obtain⟨ys,sp,sj⟩:=s;dsimp only at ep ej D⊢;subst ep ej;have hlt:=D.lt;have hle:=D.le;have hlen:=D.len;refine .ite (fun c=>?_) fun c=>.ret ?_
   ·have c:=of_decide_eq_true c;have hj:j<xs.length:=by omega
    refine .gd (by omega) ?_;have hpm:pm (ys.getD j default)=some (p (ys.getD j default)):=by rw[D.drop j (Nat.le_refl _)];exact hp _ (QaX hj)
    rw[Int.toNat_natCast,hpm,Qb,Qk (n:=xs.length) hj (by omega)];refine .ite (fun k=>.gd (by omega) ?_) fun k=>.ret ⟨⟨q,j+1,rfl,rfl,D.skip hj (by simpa using k)⟩,by dsimp only;omega⟩;rw[Int.toNat_natCast,Qk (n:=xs.length) (by omega) (by omega)];exact .ret ⟨⟨q+1,j+1,rfl,rfl,D.keep hj k⟩,by dsimp only;omega⟩
   ·have:j=xs.length:=by
     simp only[decide_eq_true_eq] at c;omega
    refine⟨q,rfl,by dsimp only;omega,?_⟩;have t:=D.take;rw[this,List.take_length] at t;exact t
  obtain⟨x,e,q,e1,e2,e3⟩:=key;refine(congrArg (fun m=>bd m _) e).trans ?_;rw[Qb,e1,Qc (by omega),Qc (by omega),Int.toNat_natCast,QtZ,e3]
end
def iB (b:UInt8):Int:=(b.toNat:Int)
theorem Qvz (b:UInt8):0≤iB b∧iB b≤255:=by
 have:=b.toNat_lt;unfold iB;omega
theorem QyP {a b:UInt8} (h:iB a=iB b):a=b:=by
 unfold iB at h;exact UInt8.toNat_inj.1 (by omega)
theorem Qlf {a b:UInt8}:(iB a==iB b)=(a==b):=by
 rw[Bool.eq_iff_iff];simp only[beq_iff_eq];exact⟨QyP,fun h=>h▸rfl⟩
theorem Qes {l:Bs} {i:Nat} (h:i<l.length):JL (tS l) i=iB (l.getD i 0):=Qvy h
theorem Qrz:∀(ns:List Int) (s:Bt),ns.foldl (fun r n=>r.push (UInt8.ofNat n.toNat)) s=tS (tB s++ns.map fun n=>UInt8.ofNat n.toNat)
 |[],s=>by simp
 |n::r,s=>by
  rw[List.foldl_cons,Qrz r]
  congr 1
  simp[tB,ByteArray.push]
theorem QvA (ns:List Int):QfY ns=tS (ns.map fun n=>UInt8.ofNat n.toNat):=by
 unfold QfY;rw[Qrz]
 rfl
theorem Qlg (w:Bs):QfY (QpT (w.map iB).length (rows QP (w.map iB)))=tS w:=by
 rw[QvA]
 congr 1
 apply List.ext_getElem?
 intro i
 by_cases h:i<w.length
 ·simp[QpT,Qw5,h,iB,List.getD_eq_getElem?_getD]
 ·simp[QpT,h]
def Qbe (l:Bs):List Bs:=(Qc7 32 l).filter fun w=>!w.isEmpty
def okB (b:UInt8):Bool:=decide (32≤b.toNat)&&decide (b.toNat≤126)
def stripL (l:Bs):Bs:=l.takeWhile (· !=35)
def QyQ (ws:List Bs):Bool:=decide (ws.length≤8)&&ws.all fun w=>decide (w.length≤24)
def QhH (l:Bs):Option (List Bs):=if(stripL l).all okB=true∧QyQ (Qbe (stripL l))=true then some (Qbe (stripL l)) else none
theorem Qsy {α:Type} (l:List α) (d:α) (p:α→Bool):(match Jj (fun i=>p (l.getD i d)) l.length with|some i=>l.take i|none=>l)=l.takeWhile fun x=>!p x:=by
 cases h:Jj (fun i=>p (l.getD i d)) l.length with
 |none=>
  have:=QcB h;refine(QfC fun x hx=>?_).symm;obtain⟨i,hi,e⟩:=List.getElem_of_mem hx;have:=this i hi;rw[List.getD_eq_getElem?_getD,List.getElem?_eq_getElem hi,Option.getD_some,e] at this;simp[this]
 |some i=>
  obtain⟨h1,h2,h3⟩:=QcA h;refine(Qgp h1 (fun k x hk hx=>?_) fun x hx=>?_).symm
  ·have:=h3 k hk;rw[List.getD_eq_getElem?_getD,hx,Option.getD_some] at this;simp[this]
  ·rw[List.getD_eq_getElem?_getD,hx,Option.getD_some] at h2;simp[h2]
theorem QxA {l:Bs} (h:l.length≤1073741824):Qbp (tS l)=some (tS (stripL l)):=by
 unfold Qbp;rw[QaC l.length (fun i=>l.getD i 0==35) (fun i=>Sum.inl ((tS l).extract 0 i)) (.inr ()) (fun i hi=>?_) (by rw[if_neg (by simp)]),Qb]
 ·have e:=Qsy l 0 (fun x=>x==35);have e2:stripL l=l.takeWhile fun x=>!(x==35):=rfl;rw[e2,←e]
  cases hf:Jj (fun i=>l.getD i 0==35) l.length with
  |none=>rfl
  |some i=>
   refine congrArg some (QtY ?_);rw[QmK,QhG,QhG,List.drop_zero]
 ·rw[if_pos (by simp;omega),Qc (by simp;omega),Int.toNat_natCast,Qes hi,Qk hi (by omega)];have e:(iB (l.getD i 0)==35)=(l.getD i 0==35):=Qlf (b:=35);rw[e,Qc (by simp;omega)];split<;>simp_all
def Qt1:Bs→List Bs→Bs→Option (List Bs)
 |w,out,[]=>if w.length=0 then some out else if out.length+1>8 then none else some (out++[w])
 |w,out,c::r=>if okB c=false then none else if c≠32 then(if w.length+1>24 then none else Qt1 (w++[c]) out r)
   else if w.length=0 then Qt1 w out r else if out.length+1>8 then none else Qt1 [] (out++[w]) r
theorem Qt2 {c:UInt8} {a:Bs}:c∉a→∀r,Qc7 c (a++r)=match Qc7 c r with|[]=>[a]|x::xs=>(a++x)::xs:=by
 induction a with
 |nil=>
  intro _ r
  cases h:Qc7 c r with
  |nil=>exact absurd h (QnT c r)
  |cons x xs=>simp[h]
 |cons b a ih=>
  intro h r;have h1:b≠c:=fun e=>h (by simp[e]);have h2:c∉a:=fun e=>h (by simp[e]);rw[List.cons_append,Qc7,if_neg h1,ih h2 r]
  cases h:Qc7 c r with
  |nil=>exact absurd h (QnT c r)
  |cons x xs=>simp
theorem Qqv {w:Bs} (h:(32:UInt8)∉w):Qbe w=if w.isEmpty then [] else [w]:=by
 unfold Qbe;rw[Qer h]
 cases w<;>rfl
theorem Qpi (r:Bs):Qbe (32::r)=Qbe r:=by
 unfold Qbe;rw[Qc7,if_pos rfl]
 rfl
theorem Qsz {w:Bs} (h:(32:UInt8)∉w) (hw:w.isEmpty=false) (r:Bs):Qbe (w++32::r)=w::Qbe r:=by
 unfold Qbe;rw[QfD h,List.filter_cons,if_pos (by simp[hw])]
theorem Qqw {w:Bs} (h:(32:UInt8)∉w) (hw:w.isEmpty=false) (r:Bs):∃x∈Qbe (w++r),w.length≤x.length:=by
 unfold Qbe;rw[Qt2 h]
 cases hs:Qc7 32 r with
 |nil=>exact absurd hs (QnT _ r)
 |cons x xs=>
  refine⟨w++x,List.mem_filter.2 ⟨by simp,?_⟩,by simp⟩
  cases w with
  |nil=>simp at hw
  |cons _ _=>rfl
theorem QnV:∀(r w:Bs) (out:List Bs),(32:UInt8)∉w→w.length≤24→out.length≤8→
  Qt1 w out r=if r.all okB=true∧(out++Qbe (w++r)).length≤8∧(Qbe (w++r)).all (fun w=>decide (w.length≤24))=true then some (out++Qbe (w++r)) else none
 |[],w,out,h,hw,ho=>by
  rw[Qt1,List.append_nil,Qqv h]
  cases w with
  |nil=>simp[ho]
  |cons b w=>
   have hl:w.length+1≤24:=by simpa using hw
   by_cases h8:out.length+1>8
   ·have:¬out.length+1≤8:=by omega
    simp[h8,this]
   ·have:out.length+1≤8:=by omega
    simp[h8,this,hl]
 |c::r,w,out,h,hw,ho=>by
  rw[Qt1]
  by_cases hc:okB c=false
  ·simp[hc]
  have hc':okB c=true:=by simpa using hc
  rw[if_neg hc]
  by_cases h32:c=32
  ·subst h32;rw[if_neg (by simp)]
   cases hwe:w with
   |nil=>
    rw[if_pos (c:=([]:Bs).length=0) rfl,QnV r [] out (by simp) (by simp) ho,List.nil_append,List.nil_append,Qpi];simp[hc']
   |cons b w'=>
    rw[←hwe];have hne:w.isEmpty=false:=by rw[hwe];rfl
    rw[if_neg (by rw[hwe];simp),Qsz h hne]
    by_cases h8:out.length+1>8
    ·rw[if_pos h8,if_neg];rintro⟨_,h2,_⟩;simp at h2;omega
    ·rw[if_neg h8,QnV r [] (out++[w]) (by simp) (by simp) (by simp;omega),List.nil_append];have hdec:decide (w.length≤24)=true:=decide_eq_true hw;simp only[List.all_cons,hc',hdec,Bool.true_and,List.append_assoc,List.singleton_append]
  ·rw[if_pos h32];have hnm:(32:UInt8)∉w++[c]:=by simp[h,Ne.symm h32]
   have e:w++c::r=(w++[c])++r:=by simp
   by_cases h24:w.length+1>24
   ·rw[if_pos h24,if_neg];rintro⟨_,_,h3⟩;obtain⟨x,hx,hl⟩:=Qqw hnm (by simp) r;rw[e] at h3;have:=List.all_eq_true.1 h3 x hx;simp at this hl;omega
   ·rw[if_neg h24,QnV r (w++[c]) out hnm (by simp;omega) ho,e];simp[hc']
theorem QnW {l:Bs} (h:l.length≤1073741824):ZR (tS l)=some (match QhH l with|some ws=>(ws.map tS,true)|none=>([],false)):=by
 unfold ZR;rw[QxA h,Qb];have hlen:(stripL l).length≤1073741824:=Nat.le_trans (List.Sublist.length_le (List.takeWhile_sublist _)) h;have hc:QhH l=Qt1 [] [] (stripL l):=by
  rw[QnV _ _ _ (by simp) (by simp) (by simp)];unfold QhH QyQ;simp only[List.nil_append,Bool.and_eq_true,decide_eq_true_eq]
 rw[hc];generalize stripL l=t at hlen;have key:∀(k i:Nat) (w:Bs) (out:List Bs),i+k=t.length→w.length≤24→out.length≤8→
   lp (σ:=List Int×List Bt×Int) (β:=(Unit⊕(Nat×(List Bt)))) (fun s2=>
(if(decide (s2.2.2≤(((tS t).size:Nat):Int)))=true then
 gd ((decide (s2.2.2<(((tS t).size:Nat):Int)))=true→((0:Int)≤s2.2.2∧s2.2.2<(((tS t).size:Nat):Int)))<|
 gd ((decide ((JL (tS t) s2.2.2.toNat)<32))=false→((decide (s2.2.2<(((tS t).size:Nat):Int)))=true→((0:Int)≤s2.2.2∧s2.2.2<(((tS t).size:Nat):Int))))<|
(if((decide (s2.2.2<(((tS t).size:Nat):Int)))&&((decide ((JL (tS t) s2.2.2.toNat)<32))||(decide ((JL (tS t) s2.2.2.toNat)>126))))=true then
 some (.inr (.inl ()))
else
 gd ((decide (s2.2.2<(((tS t).size:Nat):Int)))=true→((0:Int)≤s2.2.2∧s2.2.2<(((tS t).size:Nat):Int)))<|
(if((decide (s2.2.2<(((tS t).size:Nat):Int)))&&((JL (tS t) s2.2.2.toNat) !=32))=true then
 gd ((0:Int)≤s2.2.2∧s2.2.2<(((tS t).size:Nat):Int))<|
 gd (((s2.1.length)+(([(JL (tS t) s2.2.2.toNat)]:List Int).length))*(1+1)≤70368744177664)<|
(if(decide ((((s2.1++([(JL (tS t) s2.2.2.toNat)]:List Int)).length:Nat):Int)>24))=true then
 some (.inr (.inl ()))
else
 some (.inl ((s2.1++([(JL (tS t) s2.2.2.toNat)]:List Int)),s2.2.1,IntKind.i64.wrap (s2.2.2+1))))
else
(if(decide (((s2.1.length:Nat):Int)>0))=true then
 gd (((s2.2.1.length)+(([(QfY (QpT s2.1.length (rows QP s2.1)))]:List Bt).length))*(16+1)≤70368744177664)<|
(if(decide ((((s2.2.1++([(QfY (QpT s2.1.length (rows QP s2.1)))]:List Bt)).length:Nat):Int)>8))=true then
 some (.inr (.inl ()))
else
 some (.inl (([]:List Int),(s2.2.1++([(QfY (QpT s2.1.length (rows QP s2.1)))]:List Bt)),IntKind.i64.wrap (s2.2.2+1))))
else
 some (.inl (s2.1,s2.2.1,IntKind.i64.wrap (s2.2.2+1))))))
else
 some (.inr (.inr (s2.2.1.length,s2.2.1))))) (w.map iB,out.map tS,(i:Int))=some (match Qt1 w out (t.drop i) with|some o=>.inr (o.length,o.map tS)|none=>.inl ()):=by
  intro k
  induction k with
  |zero=>
   intro i w out hi hw ho;have hi:i=t.length:=by omega
   subst hi;have hd:t.drop t.length=[]:=by simp
   rw[hd,Qt1];have hstop:∀(u:List Int) (v:List Bt),IntKind.i64.wrap ((t.length:Int)+1)=((t.length+1:Nat):Int):=fun _ _=>Qk (n:=t.length+1) (by omega) (by omega);have hnot:decide ((t.length:Int)<(((tS t).size:Nat):Int))=false:=by simp
   have hle:decide ((t.length:Int)≤(((tS t).size:Nat):Int))=true:=by simp
   by_cases hw0:w.length=0
   ·rw[if_pos hw0];have hwn:w=[]:=List.eq_nil_of_length_eq_zero hw0;subst hwn;rw[QaA (s':=(([]:Bs).map iB,out.map tS,((t.length+1:Nat):Int)))]
    ·refine Jo ?_;have:decide (((t.length+1:Nat):Int)≤(((tS t).size:Nat):Int))=false:=by simp<;>omega
     simp only[this,Bool.false_eq_true,if_false,List.length_map]
    ·simp only[hle,hnot,if_true,Bool.false_and,Bool.false_eq_true,if_false];rw[Qc (by simp),Qc (by simp),Qc (by simp)];simp[hstop [] []]
   ·rw[if_neg hw0]
    by_cases h8:out.length+1>8
    ·rw[if_pos h8];refine Jo ?_;simp only[hle,hnot,if_true,Bool.false_and,Bool.false_eq_true,if_false];rw[Qc (by simp),Qc (by simp),Qc (by simp),if_pos (by simp;omega),Qc (by simp;omega),if_pos (by simp;omega)]
    ·rw[if_neg h8,QaA (s':=(([]:List Int),(out++[w]).map tS,((t.length+1:Nat):Int)))]
     ·refine Jo ?_;have:decide (((t.length+1:Nat):Int)≤(((tS t).size:Nat):Int))=false:=by simp<;>omega
      simp only[this,Bool.false_eq_true,if_false,List.length_map]
     ·simp only[hle,hnot,if_true,Bool.false_and,Bool.false_eq_true,if_false];rw[Qc (by simp),Qc (by simp),Qc (by simp),if_pos (by simp;omega),Qc (by simp;omega),if_neg (by simp;omega),Qlg,hstop [] []];simp
  |succ k ih=>
   intro i w out hi hw ho;have hil:i<t.length:=by omega
   have hd:t.drop i=t.getD i 0::t.drop (i+1):=by
    rw[List.drop_eq_getElem_cons hil,List.getD_eq_getElem?_getD,List.getElem?_eq_getElem hil];rfl
   have hlt:decide ((i:Int)<(((tS t).size:Nat):Int))=true:=by simp;omega
   have hle:decide ((i:Int)≤(((tS t).size:Nat):Int))=true:=by simp;omega
   have hsz:(0:Int)≤i∧(i:Int)<(((tS t).size:Nat):Int):=by simp;omega
   have hws:IntKind.i64.wrap ((i:Int)+1)=((i+1:Nat):Int):=Qk hil (by omega);rw[hd,Qt1];generalize hcg:t.getD i 0=c;have hat:JL (tS t) (i:Int).toNat=iB c:=by rw[Int.toNat_natCast,Qes hil,hcg]
   have hok:(decide (iB c<32)||decide (iB c>126))=!okB c:=by
    unfold okB iB
    by_cases h1:32≤c.toNat<;>by_cases h2:c.toNat≤126<;>simp[h1,h2]<;>omega
   have h32:(iB c !=32)=(c !=32):=by
    have:(iB c==32)=(c==32):=Qlf (b:=32);simp only[bne,this]
   by_cases hc:okB c=false
   ·rw[if_pos hc];refine Jo ?_;simp only[hle,hlt,if_true,hat,Bool.true_and,hok,hc];rw[Qc (fun _=>hsz),Qc (fun _ _=>hsz),if_pos (by simp)]
   have hc':okB c=true:=by simpa using hc
   rw[if_neg hc]
   by_cases hcn:c=32
   ·rw[if_neg (by simp[hcn])];have hb:(c !=32)=false:=by simp[hcn]
    by_cases hw0:w.length=0
    ·rw[if_pos hw0,←ih (i+1) w out (by omega) hw ho];refine QaA ?_;simp only[hle,hlt,if_true,hat,Bool.true_and,hok,hc',h32,hb];rw[Qc (fun _=>hsz),Qc (fun _ _=>hsz),if_neg (by simp),Qc (fun _=>hsz),if_neg (by simp),if_neg (by simp[hw0]),hws]
    ·rw[if_neg hw0]
     by_cases h8:out.length+1>8
     ·rw[if_pos h8];refine Jo ?_;simp only[hle,hlt,if_true,hat,Bool.true_and,hok,hc',h32,hb];rw[Qc (fun _=>hsz),Qc (fun _ _=>hsz),if_neg (by simp),Qc (fun _=>hsz),if_neg (by simp),if_pos (by simp;omega),Qc (by simp;omega),if_pos (by simp;omega)]
     ·rw[if_neg h8,←ih (i+1) [] (out++[w]) (by omega) (by simp) (by simp;omega)];refine QaA ?_;simp only[hle,hlt,if_true,hat,Bool.true_and,hok,hc',h32,hb];rw[Qc (fun _=>hsz),Qc (fun _ _=>hsz),if_neg (by simp),Qc (fun _=>hsz),if_neg (by simp),if_pos (by simp;omega),Qc (by simp;omega),if_neg (by simp;omega),Qlg,hws];simp
   ·rw[if_pos hcn];have hb:(c !=32)=true:=by simp[hcn]
    by_cases h24:w.length+1>24
    ·rw[if_pos h24];refine Jo ?_;simp only[hle,hlt,if_true,hat,Bool.true_and,hok,hc',h32,hb];rw[Qc (fun _=>hsz),Qc (fun _ _=>hsz),if_neg (by simp),Qc (fun _=>hsz),Qc hsz,Qc (by simp;omega),if_pos (by simp;omega)]
    ·rw[if_neg h24,←ih (i+1) (w++[c]) out (by omega) (by simp;omega) ho];refine QaA ?_;simp only[hle,hlt,if_true,hat,Bool.true_and,hok,hc',h32,hb];rw[Qc (fun _=>hsz),Qc (fun _ _=>hsz),if_neg (by simp),Qc (fun _=>hsz),Qc hsz,Qc (by simp;omega),if_neg (by simp;omega),hws];simp
 have k0:=key t.length 0 [] [] (by omega) (by simp) (by simp);rw[List.drop_zero] at k0;refine(congrArg (fun m=>bd m _) k0).trans ?_;rw[Qb]
 cases Qt1 [] [] t<;>rfl
def Qgr (b:UInt8):Bool:=decide (48≤b.toNat)&&decide (b.toNat≤57)
def QpS (n:Nat) (w:Bs):Nat:=w.foldl (fun n b=>n*10+(b.toNat-48)) n
def valL (w:Bs):Nat:=QpS 0 w
def Qi4 (w:Bs):Bool:=!w.isEmpty&&w.all Qgr&&(decide (w.length=1)||w.getD 0 0 !=48)
def inI (a lo hi:Int):Bool:=decide (lo≤a)&&decide (a≤hi)
theorem QbT {a lo hi:Int}:inI a lo hi=true↔lo≤a∧a≤hi:=by simp[inI]
def ZB (w:Bs):Int:=if Qi4 w=true∧w.length≤6 then(valL w:Int) else-1
def QlY (w:Bs):Int:=if Qi4 w=true∧valL w<9223372036854775808 then(valL w:Int) else-1
def isN (w:Bs) (lo hi:Int):Bool:=inI (ZB w) lo hi
theorem QvB (n:Nat) (w:Bs) (b:UInt8):QpS n (w++[b])=QpS n w*10+(b.toNat-48):=by simp[QpS]
theorem Qkc (w:Bs) (b:UInt8):valL (w++[b])=valL w*10+(b.toNat-48):=QvB 0 w b
theorem Qqx:∀(w:Bs) (n:Nat),n≤QpS n w
 |[],n=>Nat.le_refl _
 |b::r,n=>by
  have:=Qqx r (n*10+(b.toNat-48));show n≤QpS (n*10+(b.toNat-48)) r;omega
theorem QnX:∀(n:Nat) (w:Bs),w.length=n→w.all Qgr=true→valL w<10^n
 |0,w,h,_=>by
  have:w=[]:=List.eq_nil_of_length_eq_zero h;subst this;decide
 |n+1,w,h,hd=>by
  rcases List.eq_nil_or_concat w with rfl|⟨u,b,e⟩
  ·simp at h
  ·rw[List.concat_eq_append] at e;subst e;simp at h;simp only[List.all_append,Bool.and_eq_true,List.all_cons,List.all_nil,Bool.and_true] at hd;have ih:=QnX n u h hd.1;have hb:=hd.2;simp only[Qgr,Bool.and_eq_true,decide_eq_true_eq] at hb;rw[Qkc,Nat.pow_succ];omega
theorem Qt3 {b:UInt8} (h:48≤b.toNat∧b.toNat≤57):Qgr b=true:=by simp[Qgr,h]
theorem QvC {n:Nat} (h:n<256):(UInt8.ofNat n).toNat=n:=by
 simp[UInt8.toNat_ofNat,Nat.mod_eq_of_lt h]
theorem Qt4:∀(n:Nat),(Lib.decDigits n).all Qgr=true∧valL (Lib.decDigits n)=n∧Lib.decDigits n≠ []∧(0<n→(Lib.decDigits n).getD 0 0≠48)∧(n<10→(Lib.decDigits n).length=1)
 |n=>by
  unfold Lib.decDigits
  by_cases h:n<10
  ·rw[dif_pos h];have e:=QvC (n:=48+n) (by omega);refine⟨?_,?_,by simp,fun h0 h1=>?_,fun _=>rfl⟩
   ·simp only[List.all_cons,List.all_nil,Bool.and_true];exact Qt3 (by rw[e];omega)
   ·show 0*10+((UInt8.ofNat (48+n)).toNat-48)=n;rw[e];omega
   ·have:=congrArg UInt8.toNat h1;rw[List.getD_cons_zero,e] at this;have h48:(48:UInt8).toNat=48:=rfl;omega
  ·rw[dif_neg h];have hlt:n/10<n:=by omega
   obtain⟨h1,h2,h3,h4,_⟩:=Qt4 (n/10);have e:=QvC (n:=48+n%10) (by omega);refine⟨?_,?_,by simp,fun _=>?_,fun h'=>absurd h' h⟩
   ·rw[List.all_append,h1];simp only[List.all_cons,List.all_nil,Bool.and_true,Bool.true_and];exact Qt3 (by rw[e];omega)
   ·rw[Qkc,h2,e];omega
   ·have:=h4 (by omega)
    cases hd:Lib.decDigits (n/10) with
    |nil=>exact absurd hd h3
    |cons x xs=>rw[hd] at this;simpa using this
termination_by n=>n
theorem QxB (n:Nat):Qi4 (Lib.decDigits n)=true:=by
 obtain⟨h1,h2,h3,h4,h5⟩:=Qt4 n;unfold Qi4;rw[h1];have e:(Lib.decDigits n).isEmpty=false:=by cases hd:Lib.decDigits n with|nil=>exact absurd hd h3|cons _ _=>rfl
 rw[e]
 by_cases h:n<10
 ·simp[h5 h]
 ·have hb:((Lib.decDigits n).getD 0 0 !=48)=true:=by rw[bne_iff_ne];exact h4 (by omega)
  rw[hb];simp
theorem Qt5 {u:Bs} {b:UInt8} (hu:u≠ []) (h:Qi4 (u++[b])=true):Qi4 u=true∧Qgr b=true∧u.getD 0 0≠48:=by
 simp only[Qi4,Bool.and_eq_true,List.all_append,List.all_cons,List.all_nil,Bool.and_true] at h;obtain⟨⟨_,h1,h2⟩,h3⟩:=h;have hlen:¬(u++[b]).length=1:=by
  cases u with|nil=>exact absurd rfl hu|cons _ _=>simp
 have hg:(u++[b]).getD 0 0=u.getD 0 0:=by cases u with|nil=>exact absurd rfl hu|cons _ _=>simp
 rw[hg] at h3;have h4:u.getD 0 0≠48:=by
  simp only[decide_eq_false hlen,Bool.false_or] at h3;simpa using h3
 refine⟨?_,h2,h4⟩;unfold Qi4;rw[h1]
 cases u with
 |nil=>exact absurd rfl hu
 |cons x xs=>simp at h4⊢;simp[h4]
theorem Qt6 {u:Bs} (hu:u≠ []) (hd:u.all Qgr=true) (h:u.getD 0 0≠48):1≤valL u:=by
 cases u with
 |nil=>exact absurd rfl hu
 |cons x xs=>
  simp only[List.all_cons,Bool.and_eq_true,Qgr,decide_eq_true_eq] at hd;have hx:x.toNat≠48:=fun e=>h (by simp;exact UInt8.toNat_inj.1 e);have:=Qqx xs (0*10+(x.toNat-48));show 1≤QpS (0*10+(x.toNat-48)) xs;omega
theorem Qbl {w:Bs} (h:Qi4 w=true):w.all Qgr=true∧w≠ []:=by
 simp only[Qi4,Bool.and_eq_true] at h;refine⟨h.1.2,fun e=>?_⟩;subst e;simp at h
theorem QgI:∀(n:Nat) (w:Bs),w.length=n→Qi4 w=true→Lib.decDigits (valL w)=w
 |n,w,hn,h=>by
  rcases List.eq_nil_or_concat w with rfl|⟨u,b,e⟩
  ·simp[Qi4] at h
  ·rw[List.concat_eq_append] at e;subst e
   by_cases hu:u=[]
   ·subst hu;have hd:=(Qbl h).1;simp only[List.nil_append,List.all_cons,List.all_nil,Bool.and_true,Qgr,Bool.and_eq_true,decide_eq_true_eq] at hd;have e:valL ([]++[b])=b.toNat-48:=by simp[valL,QpS]
    rw[e,Lib.decDigits,dif_pos (by omega)];show [_]=[b]
    congr 1
    apply UInt8.toNat_inj.1
    rw[QvC (by have:=b.toNat_lt;omega)];omega
   ·obtain⟨h1,h2,h3⟩:=Qt5 hu h;have hlen:u.length<n:=by simp at hn;omega
    have ih:=QgI u.length u rfl h1;have hp:=Qt6 hu (Qbl h1).1 h3;simp only[Qgr,Bool.and_eq_true,decide_eq_true_eq] at h2;rw[Qkc,Lib.decDigits,dif_neg (by omega)];have e1:(valL u*10+(b.toNat-48))/10=valL u:=by omega
    have e2:(valL u*10+(b.toNat-48))%10=b.toNat-48:=by omega
    rw[e1,e2,ih]
    congr 1
    show [_]=[b]
    congr 1
    apply UInt8.toNat_inj.1
    rw[QvC (by have:=b.toNat_lt;omega)];omega
termination_by n=>n
theorem Qt7 {w:Bs} (h:Qi4 w=true) (h2:2≤w.length):10^(w.length-1)≤valL w:=by
 have key:∀(n:Nat) (w:Bs),w.length=n+1→w.all Qgr=true→w.getD 0 0≠48→10^n≤valL w:=by
  intro n
  induction n with
  |zero=>intro w hw hd h0;have:=Qt6 (u:=w) (by intro e;subst e;simp at hw) hd h0;simpa using this
  |succ n ih=>
   intro w hw hd h0;rcases List.eq_nil_or_concat w with rfl|⟨u,b,e⟩
   ·simp at hw
   ·rw[List.concat_eq_append] at e;subst e;simp at hw;simp only[List.all_append,Bool.and_eq_true] at hd;have hu:u≠ []:=by intro e;subst e;simp at hw
    have hg:(u++[b]).getD 0 0=u.getD 0 0:=by cases u with|nil=>exact absurd rfl hu|cons _ _=>simp
    rw[hg] at h0;have:=ih u (by omega) hd.1 h0;rw[Qkc,Nat.pow_succ];omega
 obtain⟨h3,_⟩:=Qbl h;have h0:w.getD 0 0≠48:=by
  simp only[Qi4,Bool.and_eq_true] at h;have:=h.2;rw[decide_eq_false (by omega:¬w.length=1),Bool.false_or] at this;simpa using this
 exact key (w.length-1) w (by omega) h3 h0
theorem QvD {w:Bs} (h:Qi4 w=true) (hv:valL w<1000000):w.length≤6:=by
 rcases Nat.lt_or_ge w.length 7 with h7|h7
 ·omega
 ·have:=Qt7 h (by omega);have h6:10^6≤10^(w.length-1):=Nat.pow_le_pow_right (by omega) (by omega);omega
theorem QrA:∀(w:Bs) (acc:Nat),w.all Qgr=true→QpS acc w<9223372036854775808→Lib.parseUint10 acc w=.ok (QpS acc w)
 |[],acc,_,_=>rfl
 |c::r,acc,hd,hv=>by
  simp only[List.all_cons,Bool.and_eq_true] at hd;have hc:=hd.1;simp only[Qgr,Bool.and_eq_true,decide_eq_true_eq] at hc;have hv':QpS (acc*10+(c.toNat-48)) r<9223372036854775808:=hv;have hle:=Qqx r (acc*10+(c.toNat-48));unfold Lib.parseUint10;rw[if_pos hc,if_neg (by omega),if_neg (by omega)];exact QrA r _ hd.2 hv'
theorem QxC {w:Bs} (h:Qi4 w=true) (hv:valL w<9223372036854775808):Lib.atoiAll w=.ok (valL w:Int):=by
 obtain⟨hd,hne⟩:=Qbl h
 cases w with
 |nil=>exact absurd rfl hne
 |cons c r=>
  have hc:Qgr c=true:=by simp only[List.all_cons,Bool.and_eq_true] at hd;exact hd.1
  simp only[Qgr,Bool.and_eq_true,decide_eq_true_eq] at hc;unfold Lib.atoiAll;have h1:¬(c.toNat=43∨c.toNat=45):=by omega
  have h2:¬c.toNat=45:=by omega
  have hp:Lib.parseMag (c::r)=.ok (valL (c::r)):=by
   unfold Lib.parseMag;rw[if_neg (by simp)];exact QrA _ _ hd hv
  have h3:(if c.toNat=43∨c.toNat=45 then r else c::r)=c::r:=if_neg h1;simp only[h3];rw[hp];simp only[h2,not_false_iff,true_and,false_and,if_false];rw[if_neg (by omega)]
theorem Qt8 (w:Bs):QhQ (tS w)=QlY w:=by
 have e1:(tS w).data.toList=w:=QhG w;unfold QhQ QlY;rw[e1]
 by_cases hc:Qi4 w=true∧valL w<9223372036854775808
 ·rw[if_pos hc,QxC hc.1 hc.2];have:QlL (valL w:Int)=tS w:=by
   unfold QlL Lib.itoa;rw[if_neg (by omega),Int.toNat_natCast,QgI _ w rfl hc.1]
   rfl
  dsimp only;rw[if_neg];rintro(h|h)
  ·omega
  ·exact h this
 ·rw[if_neg hc]
  cases ha:Lib.atoiAll w with
  |ok v=>
   by_cases hq:v<0∨QlL v≠tS w
   ·simp only[if_pos hq]
   ·exfalso;have hv:0≤v:=by have:=fun h=>hq (.inl h);omega
    have he:QlL v=tS w:=Decidable.byContradiction fun h=>hq (.inr h);have hw:w=Lib.decDigits v.toNat:=by
     have:tS (Lib.itoa v)=tS w:=he;have:=QwG this;rw[←this];unfold Lib.itoa;rw[if_neg (by omega)]
    have hf:=Qks ha;refine hc ⟨?_,?_⟩
    ·rw[hw];exact QxB _
    ·rw[hw,(Qt4 _).2.1];omega
  |_=>rfl
theorem QnY {w:Bs} (h:w.length≤6):QlY w=ZB w:=by
 unfold QlY ZB
 by_cases hc:Qi4 w=true
 ·have:=QnX w.length w rfl (Qbl hc).1;have h6:10^w.length≤10^6:=Nat.pow_le_pow_right (by omega) h;rw[if_pos ⟨hc,by omega⟩,if_pos ⟨hc,h⟩]
 ·rw[if_neg (fun h=>hc h.1),if_neg (fun h=>hc h.1)]
theorem QmM (w:Bs):-1≤ZB w∧ZB w≤999999:=by
 unfold ZB;split
 ·rename_i h;have:=QnX w.length w rfl (Qbl h.1).1;have h6:10^w.length≤10^6:=Nat.pow_le_pow_right (by omega) h.2;omega
 ·omega
theorem Qqy {w:Bs} {lo hi:Int} (h0:0≤lo) (h1:hi≤999999):inI (QlY w) lo hi=inI (ZB w) lo hi∧(inI (QlY w) lo hi=true→QlY w=ZB w):=by
 by_cases hc:Qi4 w=true
 ·by_cases hv:valL w<1000000
  ·have hs:=QvD hc hv;rw[QnY hs];exact⟨rfl,fun _=>rfl⟩
  ·have e1:inI (QlY w) lo hi=false:=by
    unfold QlY inI;split<;>simp<;>omega
   have e2:inI (ZB w) lo hi=false:=by
    have:¬w.length≤6:=fun h=>by
     have:=QnX w.length w rfl (Qbl hc).1;have h6:10^w.length≤10^6:=Nat.pow_le_pow_right (by omega) h;omega
    unfold ZB inI;rw[if_neg (fun h=>this h.2)];simp;omega
   rw[e1,e2];exact⟨rfl,fun h=>by cases h⟩
 ·have e1:QlY w=-1:=by unfold QlY;rw[if_neg (fun h=>hc h.1)]
  have e2:ZB w=-1:=by unfold ZB;rw[if_neg (fun h=>hc h.1)]
  rw[e1,e2];exact⟨rfl,fun _=>rfl⟩
theorem QnZ (b:UInt8):IntKind.i64.wrap (iB b)=iB b:=by
 have:=Qvz b;exact Qs (by omega) (by omega)
theorem QvE (b:UInt8) {lo hi:Nat}:inI (iB b) lo hi=(decide (lo≤b.toNat)&&decide (b.toNat≤hi)):=by
 unfold inI iB;rw[Bool.eq_iff_iff];simp only[Bool.and_eq_true,decide_eq_true_eq];omega
theorem Qil (c:UInt8):∀l,(Qc7 c l).length≤l.length+1
 |[]=>by simp[Qc7]
 |b::r=>by
  have ih:=Qil c r;unfold Qc7;split
  ·simp;omega
  ·split
   ·simp
   ·rename_i h;rw[h] at ih;simp at ih⊢;omega
theorem QxD (c:UInt8) (l:Bs):(Qs2 (tS l) (tS [c])).1=tS (l.takeWhile (· !=c)):=by
 rw[Qqu]
 by_cases h:c∈l
 ·rw[if_pos h]
 ·rw[if_neg h,QfC];intro x hx;simp only[bne_iff_ne];exact fun e=>h (e▸hx)
theorem Qt9 {t:Bs} {p:UInt8→Bool}:t.all p=(Jj (fun i=>!p (t.getD i 0)) t.length).isNone:=by
 have h:t.any (fun x=>!p x)=(Jj (fun i=>!p (t.getD i 0)) t.length).isSome:=Qgq (p:=fun x=>!p x) (xs:=t);rw[←Option.not_isSome,←h];simp[List.not_any_eq_all_not]
theorem Qn0 {β:Type} {step:Int→Option (Int⊕β)} {t:Bs} {p:UInt8→Bool} {e d:β} (h1:∀i:Nat,i<t.length→step i=some (if p (t.getD i 0)=true then .inl ((i+1:Nat):Int) else .inr e)) (h2:step t.length=some (.inr d)):lp step 0=some (if t.all p=true then d else e):=by
 rw[QaC t.length (fun i=>!p (t.getD i 0)) (fun _=>e) d (fun i hi=>?_) h2,Qt9]
 ·cases Jj (fun i=>!p (t.getD i 0)) t.length<;>simp
 ·rw[h1 i hi]
  cases p (t.getD i 0)<;>rfl
theorem QhI (w:Bs):(tS w==(⟨#[]⟩:Bt))=w.isEmpty:=by
 have:(tS w==tS [])=(w==[]):=Z2 w [];refine this.trans ?_
 cases w<;>rfl
theorem QvF {l:Bs} (h:l.length≤1000000):QaZ (tS l)=some (match QhH l with|some ws=>(ws.map tS,true)|none=>([],false)):=by
 have e35:(⟨#[35]⟩:Bt)=tS [35]:=rfl;have e32:(⟨#[32]⟩:Bt)=tS [32]:=rfl;have hs:(stripL l).length≤1000000:=Nat.le_trans (List.Sublist.length_le (List.takeWhile_sublist _)) h;have ec:(Qs2 (tS l) (tS [35])).1=tS (stripL l):=QxD 35 l;unfold QaZ Qam ZQ;rw[e35,e32,Qc (by simp;omega),Qb,ec];unfold QhH;generalize stripL l=t at hs;rw[Qn0 (t:=t) (p:=okB) (e:=.inl ()) (d:=.inr ()) (fun i hi=>?_) (by rw[if_neg (by simp)]),Qb]
 ·by_cases ho:t.all okB=true
  ·rw[if_pos ho];dsimp only;have hd:Qx ((Qc7 32 t).map tS)=some ((Qbe t).map tS):=by
    have e:Qx=QyO Jw:=rfl;rw[e,Qt0 (pm:=Jw) (p:=fun x=>x==(⟨#[]⟩:Bt)) (fun x _=>rfl) (by have:=Qil 32 t;simp;omega),List.filter_map];refine congrArg (fun q=>some ((List.filter q (Qc7 32 t)).map tS)) (funext fun w=>?_);simp only[Function.comp,QhI]
   have hl:(Qbe t).length≤1000001:=by
    have h1:=Qil 32 t;have h2:(Qbe t).length≤(Qc7 32 t).length:=List.length_filter_le _ _;omega
   have hc:QE ((Qbe t).map tS)=some ((Qbe t).any fun w=>decide (w.length>24)):=by
    have e:QE=QwH Qan:=rfl;rw[e,QmL (pm:=Qan) (p:=fun x:Bt=>decide (((x.size:Nat):Int)>24)) (fun x _=>rfl) (by simp;omega),List.any_map]
    congr 2
    funext w
    simp only[Function.comp,Qbm];rw[decide_eq_decide];omega
   rw[Qc (by simp;omega),Qb,QnU,hd,Qb,hc];have hf:QyQ (Qbe t)=!(decide ((((Qbe t).map tS).length:Int)>8)||(Qbe t).any fun w=>decide (w.length>24)):=by
    unfold QyQ;rw[Bool.eq_iff_iff];simp only[Bool.and_eq_true,decide_eq_true_eq,List.all_eq_true,Bool.not_eq_true',Bool.or_eq_false_iff,decide_eq_false_iff_not,List.any_eq_false,List.length_map]
    constructor
    ·rintro⟨a,b⟩;exact⟨by omega,fun x hx=>by have:=b x hx;omega⟩
    ·rintro⟨a,b⟩;exact⟨by omega,fun x hx=>by have:=b x hx;omega⟩
   rw[hf]
   cases h8:decide ((((Qbe t).map tS).length:Int)>8)
   ·rw[Qr rfl,Qb,Bool.false_or]
    cases (Qbe t).any fun w=>decide (w.length>24)
    ·rw[if_neg (by decide),if_pos ⟨ho,rfl⟩]
    ·rw[if_pos rfl,if_neg (by simp)]
   ·rw[Q3 (by decide),Qb,if_pos (by simp),if_neg (by simp)]
  ·rw[if_neg ho,if_neg fun h=>ho h.1]
 ·have e:Qw (iB (t.getD i 0)) 32 126=some (okB (t.getD i 0)):=congrArg some (QvE (lo:=32) (hi:=126) (t.getD i 0));rw[if_pos (by simp;omega),Qc (by simp;omega),Int.toNat_natCast,Qes hi,QnZ,Qk hi (by omega),e,Qb]
  cases okB (t.getD i 0)<;>rfl
def nmB (b:UInt8):Bool:=(decide (97≤b.toNat)&&decide (b.toNat≤122))||(decide (48≤b.toNat)&&decide (b.toNat≤57))||b==45
def QfE (w:Bs):Bool:=inI w.length 1 8&&w.all nmB
theorem QxE {w:Bs} (h:w.length≤1000000):QcQ (tS w)=some (QfE w):=by
 unfold QcQ;rw[Qn0 (t:=w) (p:=nmB) (e:=.inl ()) (d:=.inr ()) (fun i hi=>?_) (by rw[if_neg (by simp)]),Qb]
 ·have e:Qw ((w.length:Nat):Int) 1 8=some (inI w.length 1 8):=rfl;unfold QfE
  by_cases hw:w.all nmB=true
  ·rw[if_pos hw,hw,Bool.and_true];dsimp only;rw[Qbm,e,Qb]
  ·rw[if_neg hw,Bool.eq_false_iff.2 hw,Bool.and_false]
 ·rw[if_pos (by simp;omega),Qc (by simp;omega),Int.toNat_natCast,Qes hi,Qk hi (by omega)];have e45:(iB (w.getD i 0) !=45)=!(w.getD i 0==45):=by
   have:(iB (w.getD i 0)==45)=(w.getD i 0==45):=Qlf (b:=45);simp only[bne,this]
  have e:(((iB (w.getD i 0) !=45)&&(decide (iB (w.getD i 0)<97)||decide (iB (w.getD i 0)>122)))&&(decide (iB (w.getD i 0)<48)||decide (iB (w.getD i 0)>57)))=!nmB (w.getD i 0):=by
   rw[e45];generalize w.getD i 0=b;unfold nmB iB
   cases b==45
   ·rw[Bool.eq_iff_iff];simp;omega
   ·simp
  rw[e]
  cases nmB (w.getD i 0)<;>rfl
theorem Qlh (a lo hi:Int):JP a lo hi=some (inI a lo hi):=rfl
theorem Qli (a lo hi:Int):Qw a lo hi=some (inI a lo hi):=rfl
theorem Qn1 {w:Bs} (h:w.length≤1000000):JQ (tS w)=some (QfE w):=by
 unfold JQ;rw[Qlh,Qb,Qbm];unfold QfE
 cases h1:inI (w.length:Int) 1 8
 ·rfl
 rw[if_neg (by decide)];rw[Qn0 (t:=w) (p:=nmB) (e:=.inl ()) (d:=.inr ()) (fun i hi=>?_) (by rw[if_neg (by simp)]),Qb]
 ·rw[Bool.true_and]
  cases w.all nmB<;>rfl
 ·rw[if_pos (by simp;omega),Qc (by omega),Int.toNat_natCast,Qes hi,Qk hi (by omega),QnZ,Qlh,Qlh,Qb,Qc (fun _=>by omega)];have e45:(iB (w.getD i 0) !=45)=!(w.getD i 0==45):=by
   have:(iB (w.getD i 0)==45)=(w.getD i 0==45):=Qlf (b:=45);simp only[bne,this]
  have e:(!inI (iB (w.getD i 0)) 97 122&& !inI (iB (w.getD i 0)) 48 57&&(iB (w.getD i 0) !=45))=!nmB (w.getD i 0):=by
   rw[e45,show inI (iB (w.getD i 0)) 97 122=_ from QvE (lo:=97) (hi:=122) _,show inI (iB (w.getD i 0)) 48 57=_ from QvE (lo:=48) (hi:=57) _];unfold nmB;simp only[Bool.not_or]
  rw[Qi2,Qb,Qc (fun _=>by omega)];have e2:(!inI (iB (w.getD i 0)) 97 122&& !(!inI (iB (w.getD i 0)) 97 122&&inI (iB (w.getD i 0)) 48 57)&&(iB (w.getD i 0) !=45))=!nmB (w.getD i 0):=by
   rw[←e];cases inI (iB (w.getD i 0)) 97 122<;>rfl
  rw[e2]
  cases nmB (w.getD i 0)<;>rfl
theorem Qqz {l:Bs} {i:Nat} (h:i<l.length):l.drop i=l.getD i 0::l.drop (i+1):=by
 rw[List.drop_eq_getElem_cons h,List.getD_eq_getElem?_getD,List.getElem?_eq_getElem h];rfl
theorem QwJ (l:Bs) (i j:Nat):(tS l).extract i j=tS ((l.take j).drop i):=QtY (by rw[QmK,QhG,QhG])
def Qpj (c:UInt8):Bs→Bs→List Bs
 |w,[]=>[w]
 |w,b::r=>if b=c then w::Qpj c [] r else Qpj c (w++[b]) r
theorem Qn2 (c:UInt8):∀(r w:Bs),c∉w→Qpj c w r=Qc7 c (w++r)
 |[],w,h=>by rw[Qpj,List.append_nil,Qer h]
 |b::r,w,h=>by
  rw[Qpj]
  by_cases hb:b=c
  ·subst hb;rw[if_pos rfl,QfD h,Qn2 b r [] (by simp),List.nil_append]
  ·rw[if_neg hb,Qn2 c r (w++[b]) (by simp[h,Ne.symm hb])];simp
theorem Qpk {l:Bs} (c:UInt8) (h:l.length≤1000000):Jp (tS l) (iB c)=some ((Qc7 c l).map tS):=by
 unfold Jp;have key:∀(k i j:Nat) (out:List Bs),i+k=l.length→j≤i→out.length+k≤l.length→
   ∃x:Nat×Int×List Bt,lp (σ:=List Bt×Int×Int) (β:=(Nat×Int×(List Bt))) (fun s1=>
(if(decide (s1.2.2<(((tS l).size:Nat):Int)))=true then
 gd ((0:Int)≤s1.2.2∧s1.2.2<(((tS l).size:Nat):Int))<|
(if((JL (tS l) s1.2.2.toNat)==iB c)=true then
 gd ((0:Int)≤s1.2.1∧s1.2.1≤s1.2.2∧s1.2.2≤(((tS l).size:Nat):Int))<|
 gd (((s1.1.length)+(([((tS l).extract s1.2.1.toNat s1.2.2.toNat)]:List Bt).length))*(16+1)≤70368744177664)<|
 some (.inl ((s1.1++([((tS l).extract s1.2.1.toNat s1.2.2.toNat)]:List Bt)),IntKind.i64.wrap (s1.2.2+1),IntKind.i64.wrap (s1.2.2+1)))
else
 some (.inl (s1.1,s1.2.1,IntKind.i64.wrap (s1.2.2+1))))
else
 some (.inr (s1.1.length,s1.2.1,s1.1)))) (out.map tS,(j:Int),(i:Int))=some x∧x.1=x.2.2.length∧(x.1≤l.length)∧(∃q:Nat,x.2.1=(q:Int)∧q≤l.length∧x.2.2++[tS (l.drop q)]=(out++Qpj c ((l.take i).drop j) (l.drop i)).map tS):=by
  intro k
  induction k with
  |zero=>
   intro i j out hi hj ho;have hi:i=l.length:=by omega
   subst hi;refine⟨(out.length,(j:Int),out.map tS),Jo ?_,by simp,by dsimp only;omega,j,rfl,hj,?_⟩
   ·rw[if_neg (by simp)];simp
   ·rw[List.drop_length,Qpj,List.take_length];simp
  |succ k ih=>
   intro i j out hi hj ho;have hil:i<l.length:=by omega
   have hb:(iB (l.getD i 0)==iB c)=(l.getD i 0==c):=Qlf;have hws:IntKind.i64.wrap ((i:Int)+1)=((i+1:Nat):Int):=Qk hil (by omega);rw[Qqz hil,Qpj]
   by_cases hc:l.getD i 0=c
   ·rw[if_pos hc];obtain⟨x,h1,h2⟩:=ih (i+1) (i+1) (out++[(l.take i).drop j]) (by omega) (Nat.le_refl _) (by simp;omega);refine⟨x,(QaA ?_).trans h1,h2.1,h2.2.1,?_⟩
    ·dsimp only;rw[if_pos (by simp;omega),Qc (by simp;omega),Int.toNat_natCast,Qes hil,hb,if_pos (beq_iff_eq.2 hc),Qc (by simp;omega),Qc (by simp;omega),Int.toNat_natCast,QwJ,hws];simp
    ·obtain⟨q,q1,q2,q3⟩:=h2.2.2;refine⟨q,q1,q2,?_⟩;rw[q3];have:(l.take (i+1)).drop (i+1)=[]:=by simp
     rw[this];simp
   ·rw[if_neg hc];obtain⟨x,h1,h2⟩:=ih (i+1) j out (by omega) (by omega) (by omega);have hcf:(l.getD i 0==c)=false:=by simpa using hc
    refine⟨x,(QaA ?_).trans h1,h2.1,h2.2.1,?_⟩
    ·dsimp only;rw[if_pos (by simp;omega),Qc (by simp;omega),Int.toNat_natCast,Qes hil,hb,hcf,if_neg (by simp),hws]
    ·obtain⟨q,q1,q2,q3⟩:=h2.2.2;refine⟨q,q1,q2,?_⟩;rw[q3];have:(l.take (i+1)).drop j=(l.take i).drop j++[l.getD i 0]:=by
      rw[List.take_succ,List.drop_append_of_le_length (by simp;omega),List.getD_eq_getElem?_getD,List.getElem?_eq_getElem hil]
      rfl
     rw[this]
 obtain⟨x,e,h1,h2,q,q1,q2,q3⟩:=key l.length 0 0 [] (by omega) (Nat.le_refl _) (by simp);refine(congrArg (fun m=>bd m _) e).trans ?_;rw[Qb,q1,Qc (by simp;omega),Qc (by simp;omega),Int.toNat_natCast,Int.toNat_natCast,QwJ,Qbm,List.take_length,q3];rw[List.take_zero,List.drop_zero,List.nil_append,Qn2 _ _ _ (by simp),List.nil_append]
 rfl
theorem QwK {xs:List Bt} {a:Bt} (h:xs.length≤1048576):QbW xs a=some (xs.any (· ==a)):=by
 unfold QbW;rw[QaC xs.length (fun i=>xs.getD i default==a) (fun i=>.inl ()) (.inr ()) (fun i hi=>?_) (by rw[if_neg (by simp)]),Qb,Qgq]
 ·cases Jj (fun i=>xs.getD i default==a) xs.length<;>rfl
 ·rw[if_pos (by simp;omega),Qc (by omega),Int.toNat_natCast,Qk hi (by omega)]
  cases xs.getD i default==a<;>rfl
theorem QwL {xs:List Bt} {a:Bt} (h:xs.length≤1048576):QU xs a=some (xs.any (· ==a)):=by
 unfold QU Z3;rw[QaC xs.length (fun i=>xs.getD i default==a) (fun i=>.inl (i:Int)) (.inr ()) (fun i hi=>?_) (by rw[if_neg (by simp)]),Qb,Qgq]
 ·cases Jj (fun i=>xs.getD i default==a) xs.length
  ·rfl
  ·simp
 ·have e:(a==xs.getD i default)=(xs.getD i default==a):=by rw[Bool.eq_iff_iff];simp only[beq_iff_eq];exact eq_comm
  rw[if_pos (by simp;omega),Qc (by omega),Int.toNat_natCast,Qk hi (by omega),e]
  cases xs.getD i default==a<;>rfl
def heads:List Bt:=[⟨#[100,111,111,114]⟩,⟨#[104,111,115,116]⟩,⟨#[110,97,116]⟩,⟨#[112,101,101,114]⟩,⟨#[112,111,114,116]⟩,⟨#[114,111,117,116,101]⟩,⟨#[114,117,108,101]⟩,⟨#[117,115,101,114]⟩]
def QvG (ps:List Bt) (i:Nat):Bool:=!(heads.any (· ==ps.getD i default))||(decide (0<i)&& !(bsl (ps.getD (i-1) default) (ps.getD i default)))
def Qlj (ps:List Bt):Bool:=(Jj (QvG ps) ps.length).isNone
def QxF (w:Bs):Bool:=(tS w==⟨#[97,108,108]⟩)||(tS w==⟨#[110,111,110,101]⟩)
def Qlk (w:Bs):Bool:=QxF w||Qlj ((Qc7 44 w).map tS)
theorem QwM {ps:List Bt} {i:Nat} (hi:i<ps.length) (h:ps.length≤1048576):(!(heads.any (· ==ps.getD i default))||(decide ((i:Int)>0)&& !(bsl (ps.getD ((IntKind.i64.wrap ((i:Int) -1)).toNat) default) (ps.getD i default))))=QvG ps i:=by
 unfold QvG
 cases i with
 |zero=>simp
 |succ i=>
  rw[Qdv hi (by omega) (by omega),Int.toNat_natCast];have:decide (((i+1:Nat):Int)>0)=decide (0<i+1):=by simp<;>omega
  rw[this]
theorem Qua {i:Nat} {n:Nat} {b:Bool} (hi:i<n) (h:n≤1048576):(decide ((i:Int)>0))=true→((!b)=false→((0:Int)≤IntKind.i64.wrap ((i:Int) -1)∧IntKind.i64.wrap ((i:Int) -1)<((n:Nat):Int))):=by
 intro h0 _;have h0:=of_decide_eq_true h0;rw[Qs (by omega) (by omega)];omega
theorem QqA {w:Bs} (h:w.length≤1000000):Qbw (tS w)=some (if QxF w=true then([tS w],true) else if Qlj ((Qc7 44 w).map tS)=true then((Qc7 44 w).map tS,true) else([],false)):=by
 have e44:(⟨#[44]⟩:Bt)=tS [44]:=rfl;unfold Qbw ZQ;show(if QxF w=true then _ else _)=_
 by_cases ha:QxF w=true
 ·rw[if_pos ha,if_pos ha]
 rw[if_neg ha,if_neg ha,e44,Qc (by simp;omega),Qb,QnU];have hl:((Qc7 44 w).map tS).length≤1048576:=by have:=Qil 44 w;simp;omega
 unfold Qlj;generalize (Qc7 44 w).map tS=ps at hl;rw[QaC ps.length (QvG ps) (fun _=>.inl ()) (.inr ()) (fun i hi=>?_) (by rw[if_neg (by simp)]),Qb]
 ·cases Jj (QvG ps) ps.length<;>rfl
 ·rw[if_pos (by simp;omega),Qc (by omega),Int.toNat_natCast,Qk hi (by omega),show QU [_,_,_,_,_,_,_,_] (ps.getD i default)=_ from QwL (xs:=heads) (by decide),Qb,Qc (Qua hi hl),QwM hi hl]
  cases QvG ps i<;>rfl
theorem Qub {w:Bs} (h:w.length≤1000000):Qbx (tS w)=some (Qlk w):=by
 unfold Qbx;rw[QqA h,Qb];unfold Qlk
 cases QxF w
 ·cases Qlj ((Qc7 44 w).map tS)<;>rfl
 ·rfl
theorem Quc {w:Bs} (h:w.length≤1000000):QaY (tS w)=some (Qlk w):=by
 unfold QaY;show(if QxF w=true then _ else _)=_;unfold Qlk
 by_cases ha:QxF w=true
 ·rw[if_pos ha,ha];rfl
 rw[if_neg ha,Bool.eq_false_iff.2 ha,Bool.false_or];have hl:((Qc7 44 w).map tS).length≤1048576:=by have:=Qil 44 w;simp;omega
 rw[show Jp (tS w) 44=_ from Qpk 44 h,Qb];unfold Qlj;generalize (Qc7 44 w).map tS=ps at hl;rw[QaC ps.length (QvG ps) (fun _=>.inl ()) (.inr ()) (fun i hi=>?_) (by rw[if_neg (by simp)]),Qb]
 ·cases Jj (QvG ps) ps.length<;>rfl
 ·rw[if_pos (by simp;omega),show QcK=some heads from rfl,Qb,Qc (by omega),Int.toNat_natCast,QwK (xs:=heads) (by decide),Qb,Qc (Qua hi hl),Qc (fun _ _=>by omega),Qk hi (by omega),QwM hi hl]
  cases QvG ps i<;>rfl
theorem Qpl (n:Nat) (b:UInt8) (r:Bs):QpS n (b::r)=QpS (n*10+(b.toNat-48)) r:=by
 unfold QpS;rw[List.foldl_cons]
theorem QwN {n:Int} (h1:0≤n) (h2:n≤255):IntKind.u8.wrap n=n:=by
 have e1:IntKind.bits .u8=8:=rfl;have e2:IntKind.signed .u8=false:=rfl;unfold IntKind.wrap;simp only[e1,e2,Bool.false_and];rw[Int.emod_eq_of_lt h1 (by omega)]
 rfl
theorem Qud (b:UInt8):inI (iB b) 48 57=Qgr b:=QvE (lo:=48) (hi:=57) b
theorem Qpm (w:Bs) (h:w.length≤1000000):QR (tS w)=some (ZB w):=by
 unfold QR;rw[Qlh,Qb,Qbm];unfold ZB;rcases Bool.eq_false_or_eq_true (inI (w.length:Int) 1 6) with h1|h1
 ·have hr:=QbT.1 h1;have h0:JL (tS w) 0=iB (w.getD 0 0):=Qes (by omega);have h48:(iB (w.getD 0 0)==48)=(w.getD 0 0==48):=Qlf (b:=48);rw[h1,Qc (fun _ _=>by omega),h0,h48,Bool.not_true,Bool.false_or]
  by_cases hz:(decide ((w.length:Int)>1)&&(w.getD 0 0==48))=true
  ·rw[if_pos hz,if_neg];rintro⟨hc,_⟩;simp only[Qi4,Bool.and_eq_true,Bool.or_eq_true,decide_eq_true_eq,bne_iff_ne,beq_iff_eq] at hc hz;rcases hc.2 with h|h
   ·omega
   ·exact h hz.2
  rw[if_neg hz];have hcan:Qi4 w=w.all Qgr:=by
   unfold Qi4;have e1:w.isEmpty=false:=by cases w with|nil=>simp at hr|cons _ _=>rfl
   have e2:(decide (w.length=1)||w.getD 0 0 !=48)=true:=by
    rcases Nat.lt_or_ge 1 w.length with hl|hl
    ·have:decide ((w.length:Int)>1)=true:=decide_eq_true (by omega);rw[this,Bool.true_and] at hz;have:(w.getD 0 0 !=48)=true:=by simpa[bne] using hz
     rw[this,Bool.or_true]
    ·rw[decide_eq_true (by omega),Bool.true_or]
   rw[e1,e2,Bool.and_true];rfl
  have key:∀(k i v:Nat),i+k=w.length→v<10^i→lp (σ:=Int×Int) (β:=(Unit⊕Int)) (fun s3=>
 (if(decide (s3.2<((w.length:Nat):Int)))=true then
 gd ((0:Int)≤s3.2∧s3.2<((w.length:Nat):Int))<|
 bd (JP (IntKind.i64.wrap (JL (tS w) s3.2.toNat)) 48 57) fun x8=>
 (if(!x8)=true then
 some (.inr (.inl ()))
 else
 gd ((0:Int)≤s3.2∧s3.2<((w.length:Nat):Int))<|
 some (.inl (IntKind.i64.wrap ((IntKind.i64.wrap (s3.1*10))+(IntKind.i64.wrap (IntKind.u8.wrap ((JL (tS w) s3.2.toNat) -48)))),IntKind.i64.wrap (s3.2+1))))
 else
 some (.inr (.inr s3.1)))) ((v:Int),(i:Int))=some (if(w.drop i).all Qgr=true then .inr ((QpS v (w.drop i):Nat):Int) else .inl ()):=by
   intro k
   induction k with
   |zero=>
    intro i v hi hv;have hi:i=w.length:=by omega
    subst hi;rw[Jo (b:=.inr (v:Int)) (by rw[if_neg (by simp)])];rw[List.drop_length];rfl
   |succ k ih=>
    intro i v hi hv;have hil:i<w.length:=by omega
    have hi6:10^i≤10^6:=Nat.pow_le_pow_right (by omega) (by omega);rw[Qqz hil,List.all_cons,Qpl];generalize hcg:w.getD i 0=c;have hat:JL (tS w) ((i:Int)).toNat=iB c:=by rw[Int.toNat_natCast,Qes hil,hcg]
    cases hd:Qgr c
    ·rw[Bool.false_and,if_neg (by decide)];refine Jo ?_;dsimp only;rw[if_pos (by simp;omega),Qc (by omega),hat,QnZ,Qlh,Qb,Qud,hd,if_pos (by rfl)]
    ·have hd':=hd;simp only[Qgr,Bool.and_eq_true,decide_eq_true_eq] at hd';rw[Bool.true_and,←ih (i+1) (v*10+(c.toNat-48)) (by omega) (by rw[Nat.pow_succ];omega)];refine QaA ?_;dsimp only;rw[if_pos (by simp;omega),Qc (by omega),hat,QnZ,Qlh,Qb,Qud,hd,if_neg (by decide),Qc (by omega),Qk hil (by omega)];have e1:IntKind.u8.wrap (iB c-48)=((c.toNat-48:Nat):Int):=by
      unfold iB;rw[QwN (by omega) (by omega)];omega
     have e2:IntKind.i64.wrap ((v:Int)*10)=(v:Int)*10:=Qs (by omega) (by omega);rw[e1,e2,Qs (n:=((c.toNat-48:Nat):Int)) (by omega) (by omega),Qs (by omega) (by omega)];simp
  have k0:=key w.length 0 0 (by omega) (by decide);refine(congrArg (fun m=>bd m _) k0).trans ?_;rw[Qb,List.drop_zero,hcan]
  by_cases hd:w.all Qgr=true
  ·rw[if_pos hd,if_pos ⟨hd,by omega⟩];rfl
  ·rw[if_neg hd,if_neg fun h=>hd h.1]
 ·rw[h1,Qc (fun _ h=>by cases h),if_pos (by rfl),if_neg];rintro⟨hc,hl⟩;have h1:=fun h=>Bool.eq_false_iff.1 h1 (QbT.2 h);refine h1 ?_;obtain⟨_,hne⟩:=Qbl hc;have:w.length≠0:=fun e=>hne (List.eq_nil_of_length_eq_zero e);omega
theorem QhJ {w:Bs} {lo hi:Int} (h:w.length≤1000000):Zi (tS w) lo hi=some (isN w lo hi):=by
 unfold Zi;rw[Qpm w h,Qb,Qlh,Qb]
 rfl
theorem Qll {w:Bs} (h:w.length≤1000000):JT (tS w)=some (QlY w):=by
 unfold JT;rw[Qc (by simp;omega),Qt8]
theorem Qpn {w:Bs} (h:w.length≤1000000):Q5 (tS w)=some (ZB w):=by
 unfold Q5;rw[Qbm]
 by_cases h6:w.length≤6
 ·rw[if_neg (by simp;omega),Qll h,Qb,QnY h6]
 ·rw[if_pos (by simp;omega)];unfold ZB;rw[if_neg fun h=>h6 h.2]
theorem Qzw {w:Bs} {lo hi:Int} (h:w.length≤1000000):Qa1 (tS w) lo hi=some (isN w lo hi):=by
 unfold Qa1;rw[Qpn h,Qb,Qli,Qb]
 rfl
def QqB (c:UInt8) (w:Bs):Option (Bs×Bs):=match Qc7 c w with
 |[a,b]=>some (a,b)
 |_=>none
def QT (w:Bs):Int:=match QqB 46 w with
 |some (a,b)=>if isN a 0 255=true∧isN b 0 255=true then 256*ZB a+ZB b else-1
 |none=>-1
theorem Qgs {c:UInt8} {w a b:Bs} (h:QqB c w=some (a,b)):Qc7 c w=[a,b]:=by
 unfold QqB at h;split at h
 ·rename_i e;simp only[Option.some.injEq,Prod.mk.injEq] at h;rw[e,h.1,h.2]
 ·cases h
theorem Qe9 (c:UInt8):∀(l x:Bs),x∈Qc7 c l→x.length≤l.length
 |[],x,h=>by simp[Qc7] at h;simp[h]
 |b::r,x,h=>by
  unfold Qc7 at h;split at h
  ·rcases List.mem_cons.1 h with rfl|h
   ·simp
   ·have:=Qe9 c r x h;simp;omega
  ·split at h
   ·simp at h;subst h;simp
   ·rename_i w ws e;rcases List.mem_cons.1 h with rfl|h
    ·have:=Qe9 c r w (by rw[e];simp);simp;omega
    ·have:=Qe9 c r x (by rw[e];simp[h]);simp;omega
theorem Qkd {c:UInt8} {w a b:Bs} (h:QqB c w=some (a,b)):a.length≤w.length∧b.length≤w.length:=by
 have e:=Qgs h;exact⟨Qe9 c w a (by rw[e];simp),Qe9 c w b (by rw[e];simp)⟩
theorem Qn3 {c:UInt8} {l:Bs}:QqB c l=if c∈l∧c∉l.drop ((l.takeWhile (· !=c)).length+1) then some (l.takeWhile (· !=c),l.drop ((l.takeWhile (· !=c)).length+1)) else none:=by
 by_cases hc:c∈l
 ·obtain⟨h1,h2⟩:=Qik hc;generalize l.takeWhile (· !=c)=a at h1 h2;generalize l.drop (a.length+1)=r at h1;subst h1;unfold QqB;rw[QfD h2]
  by_cases hr:c∈r
  ·rw[if_neg (fun h=>h.2 hr)];obtain⟨h3,h4⟩:=Qik hr;rw[h3,QfD h4]
   cases hs:Qc7 c (List.drop ((List.takeWhile (fun x=>x !=c) r).length+1) r) with
   |nil=>exact absurd hs (QnT _ _)
   |cons x xs=>rfl
  ·rw[if_pos ⟨hc,hr⟩,Qer hr]
 ·rw[if_neg fun h=>hc h.1];unfold QqB;rw[Qer hc]
theorem Ja {w:Bs} {lo hi:Int} (h:isN w lo hi=true):lo≤ZB w∧ZB w≤hi:=QbT.1 h
theorem Qdd (w:Bs):-1≤QT w∧QT w≤65535:=by
 unfold QT;split
 ·split
  ·rename_i h;have h1:=Ja h.1;have h2:=Ja h.2;omega
  ·omega
 ·omega
theorem Qn4 {c:UInt8} {w:Bs} (h:QqB c w=none):(Qc7 c w).length≠2:=by
 unfold QqB at h;split at h
 ·cases h
 ·rename_i hn;intro hl
  match hs:Qc7 c w,hl with
  |[a,b],_=>exact hn a b hs
theorem Qi5 {w:Bs} (h:w.length≤1000000):QZ (tS w)=some (QT w):=by
 unfold QZ;rw[show Jp (tS w) 46=_ from Qpk 46 h,Qb];unfold QT
 cases hc:QqB 46 w with
 |none=>
  have hn:=Qn4 hc;have e:((((Qc7 46 w).map tS).length:Int) !=2)=true:=by simp;omega
  rw[e,Qc (fun h=>by cases h),Q3 (by decide),Qb];simp only[Bool.true_or];rw[Qc (fun h=>by cases h),Q3 (by decide),Qb,if_pos (by simp)]
 |some p=>
  obtain⟨a,b⟩:=p;have e:=Qgs hc;obtain⟨l1,l2⟩:=Qkd hc;rw[e];have e2:((([a,b].map tS).length:Int) !=2)=false:=by rfl
  have g0:([a,b].map tS).getD 0 default=tS a:=rfl;have g1:([a,b].map tS).getD 1 default=tS b:=rfl;have hl:(([a,b].map tS).length:Int)=2:=rfl;rw[e2,g0,g1,Qc (fun _=>by rw[hl];decide),Qr rfl,QhJ (by omega),Qb,Bool.false_or,QhJ (by omega),Qc (fun _=>by rw[hl];decide),Qd5,Qb];dsimp only
  cases ha:isN a 0 255
  ·simp
  ·cases hb:isN b 0 255
   ·simp
   ·have h1:=Ja ha;have h2:=Ja hb;have e1:IntKind.i64.wrap (256*ZB a)=256*ZB a:=Qs (by omega) (by omega);rw[if_neg (by decide),Qc (by rw[hl];decide),Qpm a (by omega),Qb,Qc (by rw[hl];decide),Qpm b (by omega),Qb,e1,Qs (by omega) (by omega),if_pos ⟨rfl,rfl⟩]
theorem Qpo {w:Bs} {c:UInt8} (hc:c∈w) (hd:Qgr c=false):QlY w=-1:=by
 unfold QlY;rw[if_neg];rintro⟨h,_⟩;have:=List.all_eq_true.1 (Qbl h).1 c hc;rw[hd] at this;cases this
theorem QhK {w:Bs} (h:w.length≤1000000):Zs (tS w)=some (QT w):=by
 have e46:(⟨#[46]⟩:Bt)=tS [46]:=rfl;unfold Zs Qam;rw[e46,Qc (by simp;omega),Qb,Qqu];unfold QT;rw[Qn3]
 by_cases hc:(46:UInt8)∈w
 ·rw[if_pos hc];have hlen:(w.takeWhile (· !=46)).length≤w.length:=List.Sublist.length_le (List.takeWhile_sublist _);generalize w.takeWhile (· !=46)=a at hlen;have hlen2:(w.drop (a.length+1)).length≤w.length:=by rw[List.length_drop];omega
  generalize w.drop (a.length+1)=b at hlen2;dsimp only;rw[Qll (by omega),Qb,Qll (by omega),Qb,Qli,Qli,Qr (by rfl),Qb,Bool.not_true,Bool.false_or,Qd5,Qb];obtain⟨p1,p2⟩:=Qqy (w:=a) (lo:=0) (hi:=255) (by decide) (by decide);obtain⟨q1,q2⟩:=Qqy (w:=b) (lo:=0) (hi:=255) (by decide) (by decide)
  by_cases hb:(46:UInt8)∈b
  ·rw[if_neg (show ¬((46:UInt8)∈w∧(46:UInt8)∉b) from fun h=>h.2 hb)];have:inI (QlY b) 0 255=false:=by rw[Qpo hb (by decide)];decide
   rw[this,Bool.and_false,if_pos (by simp)]
  ·rw[if_pos (show(46:UInt8)∈w∧(46:UInt8)∉b from⟨hc,hb⟩)];dsimp only;unfold isN;rw[←p1,←q1]
   cases ha:inI (QlY a) 0 255
   ·simp
   ·cases hb:inI (QlY b) 0 255
    ·simp
    ·have h1:=QbT.1 ha;have h2:=QbT.1 hb;have e1:IntKind.i64.wrap (256*QlY a)=256*QlY a:=Qs (by omega) (by omega);rw[if_neg (by decide),if_pos ⟨rfl,rfl⟩,←p2 ha,←q2 hb,e1,Qs (by omega) (by omega)]
 ·rw[if_neg hc,if_neg fun h=>hc h.1];dsimp only;rw[Qll h,Qb,Qll (by simp),Qb,Q3 (by decide),Qb,Bool.not_false,Bool.true_or,Q3 (by decide),Qb,Bool.true_or,if_pos rfl]
def QdC (w:Bs):Option (Int×Nat):=match QqB 47 w with
 |some (a,b)=>if 0≤QT a∧isN b 0 16=true∧(QT a).toNat%2^(16-(ZB b).toNat)=0 then some (QT a,(ZB b).toNat) else none
 |none=>none
theorem QfF {w:Bs} {a:Int} {n:Nat} (h:QdC w=some (a,n)):0≤a∧a≤65535∧n≤16∧a.toNat%2^(16-n)=0:=by
 unfold QdC at h;split at h
 ·split at h
  ·rename_i h1;simp only[Option.some.injEq,Prod.mk.injEq] at h;obtain⟨rfl,rfl⟩:=h;have:=Ja h1.2.1;exact⟨h1.1,(Qdd _).2,by omega,h1.2.2⟩
  ·cases h
 ·cases h
theorem Que {n:Nat} (h:n≤16):Qca (n:Int)=some ((2^(16-n):Nat):Int):=by
 unfold Qca;have key:∀(k m v:Nat),m+k=16→v*2^k≤65536→lp (σ:=Int×Int) (β:=(Int)) (fun s1=>
(if(decide (s1.2<16))=true then
 some (.inl (IntKind.i64.wrap (s1.1*2),IntKind.i64.wrap (s1.2+1)))
else
 some (.inr s1.1))) ((v:Int),(m:Int))=some ((v*2^k:Nat):Int):=by
  intro k
  induction k with
  |zero=>
   intro m v hm hv;refine Jo ?_;dsimp only;rw[if_neg (by simp;omega)];simp
  |succ k ih=>
   intro m v hm hv;rw[Nat.pow_succ] at hv;have e:v*2^(k+1)=(v*2)*2^k:=by rw[Nat.pow_succ,Nat.mul_comm (2^k),Nat.mul_assoc]
   have hle:v*2≤(v*2)*2^k:=Nat.le_mul_of_pos_right _ (Nat.pow_pos (by decide));have hv2:(v*2)*2^k≤65536:=by rw[Nat.mul_assoc,Nat.mul_comm 2];exact hv
   rw[e,←ih (m+1) (v*2) (by omega) hv2];refine QaA ?_;dsimp only;rw[if_pos (by simp;omega),Qs (by omega) (by omega),Qs (by omega) (by omega)];simp
 have:=key (16-n) n 1 (by omega) (by rw[Nat.one_mul];exact Nat.pow_le_pow_right (n:=2) (j:=16) (by decide) (by omega));refine(congrArg (fun m=>bd m _) this).trans ?_;rw[Qb,Nat.one_mul]
theorem Qke (a b:Nat):((a:Int).tmod (b:Int) !=0)=!decide (a%b=0):=by
 have:(a:Int).tmod (b:Int)=((a%b:Nat):Int):=rfl;rw[this]
 by_cases h:a%b=0
 ·rw[h];rfl
 ·rw[decide_eq_false h];simp;omega
theorem Qn5 (k:Nat):((2^k:Nat):Int)≠0:=by
 have:0<2^k:=Nat.pow_pos (by decide);omega
theorem Qpp {w:Bs} (h:w.length≤1000000):Zx (tS w)=some (match QdC w with|some (a,n)=>(a,((2^(16-n):Nat):Int))|none=>(-1,0)):=by
 unfold Zx;rw[show Jp (tS w) 47=_ from Qpk 47 h,Qb];unfold QdC
 cases hc:QqB 47 w with
 |none=>
  have hn:=Qn4 hc;have e:((((Qc7 47 w).map tS).length:Int) !=2)=true:=by simp;omega
  rw[e,Qc (fun h=>by cases h),Q3 (by decide),Qb];simp only[Bool.true_or];rw[Qc (fun h=>by cases h),Q3 (by decide),Qb,if_pos (by simp)]
 |some p=>
  obtain⟨a,b⟩:=p;have e:=Qgs hc;obtain⟨l1,l2⟩:=Qkd hc;rw[e];have e2:((([a,b].map tS).length:Int) !=2)=false:=by rfl
  have g0:([a,b].map tS).getD 0 default=tS a:=rfl;have g1:([a,b].map tS).getD 1 default=tS b:=rfl;have hl:(([a,b].map tS).length:Int)=2:=rfl;rw[e2,g0,g1,Qc (fun _=>by rw[hl];decide),Qr rfl,Qi5 (by omega),Qb,Bool.false_or,QhJ (by omega),Qc (fun _=>by rw[hl];decide),Qd5,Qb];dsimp only
  by_cases ha:0≤QT a
  ·rw[decide_eq_false (by omega)]
   cases hb:isN b 0 16
   ·simp
   ·have h2:=Ja hb;have hz:ZB b=((ZB b).toNat:Int):=by omega
    have hz2:QT a=((QT a).toNat:Int):=by omega
    rw[if_neg (by decide),Qc (by rw[hl];decide),Qb,Qc (by rw[hl];decide),Qpm b (by omega),Qb,hz,Que (by omega),Qb,Qc (Qn5 _),hz2,Qke];simp only[Int.toNat_natCast]
    by_cases hm:(QT a).toNat%2^(16-(ZB b).toNat)=0
    ·rw[decide_eq_true hm,if_neg (by decide),if_pos ⟨by omega,trivial,hm⟩]
    ·rw[decide_eq_false hm,if_pos (by rfl),if_neg fun h=>hm h.2.2]
  ·have hn:¬(0≤QT a∧isN b 0 16=true∧(QT a).toNat%2^(16-(ZB b).toNat)=0):=fun h=>ha h.1;rw[decide_eq_true (by omega),if_neg hn,if_pos (by simp)]
theorem Qde {w:Bs} (h:w.length≤1000000):ZF (tS w)=some (QdC w).isSome:=by
 unfold ZF;rw[Qpp h,Qb]
 cases hp:QdC w with
 |none=>rfl
 |some p=>
  obtain⟨a,n⟩:=p;have:=QfF hp;exact congrArg some (decide_eq_true this.1)
def mkP (a:Int) (n:Nat):QzU:=⟨a,(n:Int)⟩
theorem QrB {a:Int} {n:Nat} (h:n≤16):Zd (mkP a n)=some ((2^(16-n):Nat):Int):=by
 unfold Zd mkP;dsimp only;have e:IntKind.i64.wrap (16-(n:Int))=((16-n:Nat):Int):=by rw[Qs (by omega) (by omega)];omega
 have hp:2^(16-n)≤2^16:=Nat.pow_le_pow_right (by decide) (by omega);rw[e,Qc (by omega),Int.toNat_natCast,Nat.min_eq_left (by show 16-n≤64;omega)];have hz:(1:Int)*2^(16-n)=((2^(16-n):Nat):Int):=by rw[Int.one_mul,Int.natCast_pow];rfl
 have hp':2^(16-n)≤65536:=hp;rw[hz];generalize 2^(16-n)=z at hp';rw[Qs (by omega) (by omega)]
theorem Qpq {w:Bs} (h:w.length≤1000000):Z7 (tS w)=some (match QdC w with|some (a,n)=>(mkP a n,true)|none=>(mkP 0 0,false)):=by
 have e47:(⟨#[47]⟩:Bt)=tS [47]:=rfl;unfold Z7 Qam;rw[e47,Qc (by simp;omega),Qb,Qqu];unfold QdC;rw[Qn3]
 by_cases hc:(47:UInt8)∈w
 ·rw[if_pos hc];have hlen:(w.takeWhile (· !=47)).length≤w.length:=List.Sublist.length_le (List.takeWhile_sublist _);generalize w.takeWhile (· !=47)=a at hlen;have hlen2:(w.drop (a.length+1)).length≤w.length:=by rw[List.length_drop];omega
  generalize w.drop (a.length+1)=b at hlen2;dsimp only;rw[QhK (by omega),Qb,Qll (by omega),Qb,Qr (by rfl)];unfold JU;dsimp only;rw[Qli,Qb,Qli];have hr:=Qdd a;obtain⟨q1,q2⟩:=Qqy (w:=b) (lo:=0) (hi:=16) (by decide) (by decide)
  cases hl:inI (QlY b) 0 16
  ·simp only[Qt,Qb,Bool.false_and,Bool.false_eq_true,if_false,gd];rw[if_pos (by simp)];have:isN b 0 16=false:=by unfold isN;rw[←q1];exact hl
   have hn:¬(0≤QT a∧isN b 0 16=true∧(QT a).toNat%2^(16-(ZB b).toNat)=0):=fun h=>by rw[this] at h;exact absurd h.2.1 (by decide)
   by_cases hq:(47:UInt8)∈w∧(47:UInt8)∉b
   ·rw[if_pos hq];dsimp only;rw[if_neg hn]
    rfl
   ·rw[if_neg hq]
    rfl
  ·have hi:=QbT.1 hl;have hN:isN b 0 16=true:=by unfold isN;rw[←q1];exact hl
   have hnb:(47:UInt8)∉b:=fun hm=>by rw[Qpo hm (by decide)] at hi;omega
   rw[if_pos (show(47:UInt8)∈w∧(47:UInt8)∉b from⟨hc,hnb⟩)];dsimp only
   by_cases ha:0≤QT a
   ·have hA:inI (QT a) 0 65535=true:=QbT.2 ⟨ha,hr.2⟩;have hz:QlY b=((ZB b).toNat:Int):=by rw[←q2 hl];omega
    have hz2:QT a=((QT a).toNat:Int):=by omega
    rw[hA,Qr (by rfl),Qb,Qr (by rfl),hz,show Zd ⟨QT a,(((ZB b).toNat:Nat):Int)⟩=_ from QrB (a:=QT a) (n:=(ZB b).toNat) (by omega),Qb,Qc (fun _=>Qn5 _),Qb];have ht:((QT a).tmod ((2^(16-(ZB b).toNat):Nat):Int)==0)=decide ((QT a).toNat%2^(16-(ZB b).toNat)=0):=by
     rw[hz2];have:=Qke (QT a).toNat (2^(16-(ZB b).toNat));simp only[bne,Int.toNat_natCast] at this⊢;simpa using this
    rw[ht]
    by_cases hm:(QT a).toNat%2^(16-(ZB b).toNat)=0
    ·rw[decide_eq_true hm,if_neg (by decide),if_pos ⟨ha,hN,hm⟩];rfl
    ·rw[decide_eq_false hm,if_pos (by decide),if_neg fun h=>hm h.2.2];rfl
   ·have hA:inI (QT a) 0 65535=false:=Bool.eq_false_iff.2 fun h=>ha (QbT.1 h).1;have hn:¬(0≤QT a∧isN b 0 16=true∧(QT a).toNat%2^(16-(ZB b).toNat)=0):=fun h=>ha h.1;rw[hA,if_neg hn];simp only[Qt,Qb,Bool.and_false,Bool.false_and,Bool.false_eq_true,if_false,if_true,gd];rw[if_pos (by simp)]
    rfl
 ·rw[if_neg hc,if_neg fun h=>hc h.1];dsimp only;rw[QhK h,Qb,Qll (by simp),Qb,Q3 (by decide),Qb,if_pos (by simp)]
  rfl
theorem QqC {w:Bs} (h:w.length≤1000000):Qby (tS w)=some (QdC w).isSome:=by
 unfold Qby;rw[Qpq h,Qb]
 cases QdC w<;>rfl
theorem Quf {w:Bs} (h:w.length≤1000000):Qa0 (tS w)=some (decide (0≤QT w)):=by
 unfold Qa0;rw[QhK h,Qb]
def QfU:Bs:=[104,111,115,116]
def QdD:Bs:=[117,115,101,114]
def wPort:Bs:=[112,111,114,116]
def wRule:Bs:=[114,117,108,101]
def wRoute:Bs:=[114,111,117,116,101]
def wPeer:Bs:=[112,101,101,114]
def wNat:Bs:=[110,97,116]
def wDoor:Bs:=[100,111,111,114]
def wIn:Bs:=[105,110]
def QeS:Bs:=[112,101,114,109,105,116]
def QqD:Bs:=[100,101,110,121]
def Qyj:Bs:=[97,108,108]
def ckP (w:Bs):Bool:=(QdC w).isSome
def ckA (w:Bs):Bool:=decide (0≤QT w)
def ckV (w:Bs):Bool:=w==QeS||w==QqD
def QgO:List Bs→Bool
 |[]=>false
 |a::t=>if a=QfU then(match t with|[b]=>QfE b|_=>false)
  else if a=QdD then(match t with|[b,c]=>QfE b&&Qlk c|_=>false)
  else if a=wPort then(match t with|[b,c]=>isN b 0 7&&ckP c|[b,c,d,e]=>isN b 0 7&&ckP c&&d==wIn&&QfE e|_=>false)
  else if a=wRule then(match t with|[b,c,d,e,f,g]=>QfE b&&isN c 0 99&&ckV d&&ckP e&&ckP f&&isN g 0 7|_=>false)
  else if a=wRoute then(match t with|[b,c]=>ckP b&&ckA c|_=>false)
  else if a=wPeer then(match t with|[b,c,d]=>ckA b&&isN c 1 9&&isN d 1 999999|_=>false)
  else if a=wNat then(match t with|[b,c,d,e]=>ckP b&&ckA c&&isN d 1 65535&&isN e 1 65535|_=>false)
  else if a=wDoor then(match t with|[b,c,d,e]=>isN b 1 7&&isN c 1 65535&&ckA d&&isN e 1 65535|_=>false)
  else false
def keyN (a:Bs):Nat:=if a=QfU∨a=wNat then 1 else if a=QdD∨a=wPort∨a=wPeer then 2 else 3
theorem Qzx (a c:Bs):(tS a==tS c)=decide (a=c):=by
 rw[Z2]
 by_cases h:a=c
 ·rw[decide_eq_true h,h];simp
 ·rw[decide_eq_false h];simpa using h
theorem QvH {t:List Bs} {a:Bs} {n:Nat} (h:t.length≠n):(((((a::t).map tS).length:Nat):Int)==((n+1:Nat):Int))=false:=by
 simp only[List.length_map,List.length_cons];rw[beq_eq_false_iff_ne];omega
theorem QzJ {t:List Bs} (h:t.length=1):∃b,t=[b]:=by
 match t,h with
 |[b],_=>exact⟨b,rfl⟩
theorem Qyk {t:List Bs} (h:t.length=2):∃b c,t=[b,c]:=by
 match t,h with
 |[b,c],_=>exact⟨b,c,rfl⟩
theorem QzK {t:List Bs} (h:t.length=3):∃b c d,t=[b,c,d]:=by
 match t,h with
 |[b,c,d],_=>exact⟨b,c,d,rfl⟩
theorem Qyl {t:List Bs} (h:t.length=4):∃b c d e,t=[b,c,d,e]:=by
 match t,h with
 |[b,c,d,e],_=>exact⟨b,c,d,e,rfl⟩
theorem QzL {t:List Bs} (h:t.length=6):∃b c d e f g,t=[b,c,d,e,f,g]:=by
 match t,h with
 |[b,c,d,e,f,g],_=>exact⟨b,c,d,e,f,g,rfl⟩
theorem m1 (P:Bs→Bool):∀ {t:List Bs},t.length≠1→(match t with|[b]=>P b|_=>false)=false:=by
 intro t h;split
 ·rename_i h;simp at h
 ·rfl
theorem m2 (P:Bs→Bs→Bool):∀ {t:List Bs},t.length≠2→(match t with|[b,c]=>P b c|_=>false)=false:=by
 intro t h;split
 ·rename_i h;simp at h
 ·rfl
theorem m3 (P:Bs→Bs→Bs→Bool):∀ {t:List Bs},t.length≠3→(match t with|[b,c,d]=>P b c d|_=>false)=false:=by
 intro t h;split
 ·rename_i h;simp at h
 ·rfl
theorem m4 (P:Bs→Bs→Bs→Bs→Bool):∀ {t:List Bs},t.length≠4→(match t with|[b,c,d,e]=>P b c d e|_=>false)=false:=by
 intro t h;split
 ·rename_i h;simp at h
 ·rfl
theorem m6 (P:Bs→Bs→Bs→Bs→Bs→Bs→Bool):∀ {t:List Bs},t.length≠6→(match t with|[b,c,d,e,f,g]=>P b c d e f g|_=>false)=false:=by
 intro t h;split
 ·rename_i h;simp at h
 ·rfl
theorem m24 (P:Bs→Bs→Bool) (Q:Bs→Bs→Bs→Bs→Bool):∀ {t:List Bs},t.length≠2→t.length≠4→(match t with|[b,c]=>P b c|[b,c,d,e]=>Q b c d e|_=>false)=false:=by
 intro t h h';split
 ·rename_i h _;simp at h
 ·rename_i h';simp at h'
 ·rfl
theorem QxG {ws:List Bs} (h:∀w∈ws,w.length≤1000000):Qcb (ws.map tS)=some (QgO ws):=by
 unfold Qcb
 cases ws with
 |nil=>rfl
 |cons a t=>
  have g0:((a::t).map tS).getD 0 default=tS a:=rfl;have hl:(((((a::t).map tS).length:Nat):Int)==0)=false:=by rw[beq_eq_false_iff_ne];simp only[List.length_map,List.length_cons];omega
  have hb:∀w∈t,w.length≤1000000:=fun w hw=>h w (by simp[hw]);rw[hl,if_neg (by decide),Qc (by simp),g0];rw[show(⟨#[104,111,115,116]⟩:Bt)=tS QfU from rfl,show(⟨#[117,115,101,114]⟩:Bt)=tS QdD from rfl,show(⟨#[112,111,114,116]⟩:Bt)=tS wPort from rfl,show(⟨#[114,117,108,101]⟩:Bt)=tS wRule from rfl,show(⟨#[114,111,117,116,101]⟩:Bt)=tS wRoute from rfl,show(⟨#[112,101,101,114]⟩:Bt)=tS wPeer from rfl,show(⟨#[110,97,116]⟩:Bt)=tS wNat from rfl,show(⟨#[100,111,111,114]⟩:Bt)=tS wDoor from rfl];simp only[Qzx a,decide_eq_true_eq];dsimp only[QgO]
  by_cases c1:a=QfU
  ·rw[if_pos c1,if_pos c1]
   by_cases hn:t.length=1
   ·obtain⟨b,rfl⟩:=QzJ hn;have e1:=Qn1 (hb b (by simp));simp[gd,Qt,bd,e1]
   ·have e:=QvH (a:=a) hn;rw[m1 _ hn];simp only[show(2:Int)=((1+1:Nat):Int) from rfl,e,gd,Qt,bd];simp
  rw[if_neg c1,if_neg c1]
  by_cases c2:a=QdD
  ·rw[if_pos c2,if_pos c2]
   by_cases hn:t.length=2
   ·obtain⟨b,c,rfl⟩:=Qyk hn;have e1:=Qn1 (hb b (by simp));have e2:=Quc (hb c (by simp));simp[gd,Qt,bd,e1,e2]
    cases QfE b<;>simp
   ·have e:=QvH (a:=a) hn;rw[m2 _ hn];simp only[show(3:Int)=((2+1:Nat):Int) from rfl,e,gd,Qt,bd];simp
  rw[if_neg c2,if_neg c2]
  by_cases c3:a=wPort
  ·rw[if_pos c3,if_pos c3]
   by_cases hn:t.length=2
   ·obtain⟨b,c,rfl⟩:=Qyk hn;have e1:=QhJ (lo:=0) (hi:=7) (hb b (by simp));have e2:=Qde (hb c (by simp));simp[gd,Qt,bd,e1,e2,ckP]
    cases isN b 0 7<;>simp
   ·by_cases hn4:t.length=4
    ·obtain⟨b,c,d,e,rfl⟩:=Qyl hn4;have e1:=QhJ (lo:=0) (hi:=7) (hb b (by simp));have e2:=Qde (hb c (by simp));have e3:=Qn1 (hb e (by simp));have e4:(tS d==(⟨#[105,110]⟩:Bt))=(d==wIn):=Z2 d wIn;simp[gd,Qt,bd,e1,e2,e3,e4,ckP]
     by_cases hd:d=wIn<;>simp[hd]
     cases QfE e<;>cases isN b 0 7<;>simp
    ·have e:=QvH (a:=a) hn;have e5:=QvH (a:=a) hn4;rw[m24 _ _ hn hn4];simp only[show(3:Int)=((2+1:Nat):Int) from rfl,show(5:Int)=((4+1:Nat):Int) from rfl,e,e5,gd,Qt,bd];simp
  rw[if_neg c3,if_neg c3]
  by_cases c4:a=wRule
  ·rw[if_pos c4,if_pos c4]
   by_cases hn:t.length=6
   ·obtain⟨b,c,d,e,f,g,rfl⟩:=QzL hn;have e1:=Qn1 (hb b (by simp));have e2:=QhJ (lo:=0) (hi:=99) (hb c (by simp));have e3:(tS d==(⟨#[112,101,114,109,105,116]⟩:Bt))=(d==QeS):=Z2 d QeS;have e4:(tS d==(⟨#[100,101,110,121]⟩:Bt))=(d==QqD):=Z2 d QqD;have e5:=Qde (hb e (by simp));have e6:=Qde (hb f (by simp));have e7:=QhJ (lo:=0) (hi:=7) (hb g (by simp));simp[gd,Qt,bd,e1,e2,e3,e4,e5,e6,e7,ckP,ckV]
    cases QfE b<;>simp
    cases isN c 0 99<;>simp
    by_cases hd:d=QeS∨d=QqD
    ·simp[hd]
     cases QdC e<;>simp
     cases QdC f<;>simp
    ·simp[hd]
   ·have e:=QvH (a:=a) hn;rw[m6 _ hn];simp only[show(7:Int)=((6+1:Nat):Int) from rfl,e,gd,Qt,bd];simp
  rw[if_neg c4,if_neg c4]
  by_cases c5:a=wRoute
  ·rw[if_pos c5,if_pos c5]
   by_cases hn:t.length=2
   ·obtain⟨b,c,rfl⟩:=Qyk hn;have e1:=Qde (hb b (by simp));have e2:=Qi5 (hb c (by simp));simp[gd,Qt,bd,e1,e2,ckP,ckA]
    cases QdC b<;>simp
   ·have e:=QvH (a:=a) hn;rw[m2 _ hn];simp only[show(3:Int)=((2+1:Nat):Int) from rfl,e,gd,Qt,bd];simp
  rw[if_neg c5,if_neg c5]
  by_cases c6:a=wPeer
  ·rw[if_pos c6,if_pos c6]
   by_cases hn:t.length=3
   ·obtain⟨b,c,d,rfl⟩:=QzK hn;have e1:=Qi5 (hb b (by simp));have e2:=QhJ (lo:=1) (hi:=9) (hb c (by simp));have e3:=QhJ (lo:=1) (hi:=999999) (hb d (by simp));simp[gd,Qt,bd,e1,e2,e3,ckA]
    by_cases hA:0≤QT b
    ·simp[hA];cases isN c 1 9<;>simp
    ·simp[hA]
   ·have e:=QvH (a:=a) hn;rw[m3 _ hn];simp only[show(4:Int)=((3+1:Nat):Int) from rfl,e,gd,Qt,bd];simp
  rw[if_neg c6,if_neg c6]
  by_cases c7:a=wNat
  ·rw[if_pos c7,if_pos c7]
   by_cases hn:t.length=4
   ·obtain⟨b,c,d,e,rfl⟩:=Qyl hn;have e1:=Qde (hb b (by simp));have e2:=Qi5 (hb c (by simp));have e3:=QhJ (lo:=1) (hi:=65535) (hb d (by simp));have e4:=QhJ (lo:=1) (hi:=65535) (hb e (by simp));simp[gd,Qt,bd,e1,e2,e3,e4,ckA,ckP]
    cases QdC b<;>simp
    by_cases hA:0≤QT c
    ·simp[hA];cases isN d 1 65535<;>simp
    ·simp[hA]
   ·have e:=QvH (a:=a) hn;rw[m4 _ hn];simp only[show(5:Int)=((4+1:Nat):Int) from rfl,e,gd,Qt,bd];simp
  rw[if_neg c7,if_neg c7]
  by_cases c8:a=wDoor
  ·rw[if_pos c8,if_pos c8]
   by_cases hn:t.length=4
   ·obtain⟨b,c,d,e,rfl⟩:=Qyl hn;have e1:=QhJ (lo:=1) (hi:=7) (hb b (by simp));have e2:=QhJ (lo:=1) (hi:=65535) (hb c (by simp));have e3:=Qi5 (hb d (by simp));have e4:=QhJ (lo:=1) (hi:=65535) (hb e (by simp));simp[gd,Qt,bd,e1,e2,e3,e4,ckA]
    cases isN b 1 7<;>simp
    cases isN c 1 65535<;>simp
    by_cases hA:0≤QT d
    ·simp[hA]
    ·simp[hA]
   ·have e:=QvH (a:=a) hn;rw[m4 _ hn];simp only[show(5:Int)=((4+1:Nat):Int) from rfl,e,gd,Qt,bd];simp
  rw[if_neg c8,if_neg c8]
def ckF:Fnv→Bs→Bool
 | .k f,w=>if f=174 then QfE w else if f=323 then Qlk w else if f=324 then ckP w else ckA w
 | .r _ lo hi,w=>isN w lo hi
 | .w _ ws,w=>ws.any (· ==tS w)
def okF:Fnv→Prop
 | .k f=>f=174∨f=323∨f=324∨f=326
 | .r f _ _=>f=359
 | .w f ws=>f=360∧ws.length≤100
theorem QyR {c:Fnv} {w:Bs} (hc:okF c) (h:w.length≤1000000):Qhf c (tS w)=some (ckF c w):=by
 unfold Qhf ckF
 cases c with
 |k f=>
  rcases hc with rfl|rfl|rfl|rfl
  ·exact QxE h
  ·exact Qub h
  ·exact QqC h
  ·exact Quf h
 |r f lo hi=>
  have hc:f=359:=hc;subst hc;exact Qzw h
 |w f ws=>
  obtain⟨hf,hl⟩:=hc;subst hf;show Qbz (tS w) ws=_;unfold Qbz;rw[QwL (by omega),Qb]
def Qim (f:form) (ws:List Bs):Bool:=decide (ws.length=f.checks.length+1)&&J5 f.checks.length fun i=>ckF (f.checks.getD i default) (ws.getD (i+1) [])
theorem ZI {xs:List Bs} {i:Nat} (h:i<xs.length):(xs.map tS).getD i default=tS (xs.getD i []):=by
 simp[List.getD_eq_getElem?_getD,h]
theorem Qat {xs:List Bs} {i:Nat} (h:i<xs.length):xs.getD i []∈xs:=by
 rw[List.getD_eq_getElem?_getD,List.getElem?_eq_getElem h];exact List.getElem_mem h
theorem QxH {f:form} {ws:List Bs} (hf:∀c∈f.checks,okF c) (hl:f.checks.length≤100) (h:∀w∈ws,w.length≤1000000):Qa2 f (ws.map tS)=some (Qim f ws):=by
 unfold Qa2 Qim;rw[Qs (by omega) (by omega)]
 by_cases hn:ws.length=f.checks.length+1
 ·rw[if_neg (by simp;omega),decide_eq_true hn,Bool.true_and];rw[Qb7 f.checks.length (fun i=>ckF (f.checks.getD i default) (ws.getD (i+1) [])) (.inl ()) (.inr ()) (fun i hi _=>?_) (fun _=>by rw[if_neg (by simp)]),Qb]
  ·cases J5 f.checks.length fun i=>ckF (f.checks.getD i default) (ws.getD (i+1) [])<;>rfl
  ·have hw:i+1<ws.length:=by omega
   rw[if_pos (by simp;omega),Qc (by omega),Qk hi (by omega),Qc (by simp;omega),Int.toNat_natCast,Int.toNat_natCast,ZI hw,QyR (hf _ (QaX hi)) (h _ (Qat hw)),Qb]
   cases ckF (f.checks.getD i default) (ws.getD (i+1) [])<;>rfl
 ·rw[if_pos (by simp;omega),decide_eq_false hn,Bool.false_and]
def fHost:form:=⟨tS QfU,1,[.k 174]⟩
def fUser:form:=⟨tS QdD,2,[.k 174,.k 323]⟩
def QqE:form:=⟨tS wPort,2,[.r 359 0 7,.k 324]⟩
def Qin:form:=⟨tS wPort,2,[.r 359 0 7,.k 324,.w 360 [tS wIn],.k 174]⟩
def fRule:form:=⟨tS wRule,3,[.k 174,.r 359 0 99,.w 360 [tS QeS,tS QqD],.k 324,.k 324,.r 359 0 7]⟩
def fRoute:form:=⟨tS wRoute,3,[.k 324,.k 326]⟩
def fPeer:form:=⟨tS wPeer,2,[.k 326,.r 359 1 9,.r 359 1 999999]⟩
def fNat:form:=⟨tS wNat,1,[.k 324,.k 326,.r 359 1 65535,.r 359 1 65535]⟩
def fDoor:form:=⟨tS wDoor,3,[.r 359 1 7,.r 359 1 65535,.k 326,.r 359 1 65535]⟩
def allF:List form:=[fHost,fUser,QqE,Qin,fRule,fRoute,fPeer,fNat,fDoor]
theorem QxI:∀f∈allF,(∀c∈f.checks,okF c)∧f.checks.length≤100:=by
 intro f hf;simp only[allF,List.mem_cons,List.mem_nil_iff,or_false] at hf;rcases hf with rfl|rfl|rfl|rfl|rfl|rfl|rfl|rfl|rfl<;>refine⟨?_,by decide⟩<;>intro c hc<;>
  simp only[fHost,fUser,QqE,Qin,fRule,fRoute,fPeer,fNat,fDoor,List.mem_cons,List.mem_nil_iff,or_false] at hc<;>
  rcases hc with rfl|rfl|rfl|rfl|rfl|rfl<;>simp[okF]
theorem QvI (s:Bt):Qcj s=some (allF.filter fun f=>f.word==s):=by
 have e:Qcj s=QyO (fun f=>Qag f s) allF:=rfl;rw[e,Qt0 (pm:=fun f=>Qag f s) (p:=fun f=>!(f.word==s)) (fun x _=>rfl) (by decide)];simp
def Qn6:List Bs→Option form
 |[]=>none
 |a::t=>(allF.filter fun f=>f.word==tS a).find? fun f=>Qim f (a::t)
theorem QmN {α:Type} [Inhabited α] {p:α→Bool} {xs:List α}:xs.find? p=(Jj (fun i=>p (xs.getD i default)) xs.length).map fun i=>xs.getD i default:=by
 cases h:Jj (fun i=>p (xs.getD i default)) xs.length with
 |none=>
  have:=QcB h;rw[Option.map_none,List.find?_eq_none];intro x hx;obtain⟨i,hi,e⟩:=List.getElem_of_mem hx;have:=this i hi;rw[List.getD_eq_getElem?_getD,List.getElem?_eq_getElem hi] at this;rw[←e];simpa using this
 |some i=>
  obtain⟨h1,h2,h3⟩:=QcA h;rw[Option.map_some,List.find?_eq_some_iff_getElem];refine⟨h2,i,h1,?_,fun j hj=>?_⟩
  ·rw[List.getD_eq_getElem?_getD,List.getElem?_eq_getElem h1];rfl
  ·have:=h3 j hj;rw[List.getD_eq_getElem?_getD,List.getElem?_eq_getElem (by omega)] at this;simpa using this
theorem Qpr {ws:List Bs} (h:∀w∈ws,w.length≤1000000):QbX (ws.map tS)=some (match Qn6 ws with|some f=>(f,true)|none=>(⟨ByteArray.empty,0,[]⟩,false)):=by
 unfold QbX
 cases ws with
 |nil=>rfl
 |cons a t=>
  have g0:((a::t).map tS).getD 0 default=tS a:=rfl;have hl:(((((a::t).map tS).length:Nat):Int)==0)=false:=by rw[beq_eq_false_iff_ne];simp only[List.length_map,List.length_cons];omega
  rw[hl,if_neg (by decide),Qc (by simp),g0,QvI,Qb];dsimp only[Qn6];have hin:∀f∈allF.filter (fun f=>f.word==tS a),f∈allF:=fun f hf=>(List.mem_filter.1 hf).1;have hlen:(allF.filter (fun f=>f.word==tS a)).length≤9:=List.length_filter_le _ _;generalize allF.filter (fun f=>f.word==tS a)=xs at hin hlen;rw[QmN];rw[QaC xs.length (fun i=>Qim (xs.getD i default) (a::t)) (fun i=>.inl ((xs.getD i default).word,(xs.getD i default).key,(xs.getD i default).checks)) (.inr ()) (fun i hi=>?_) (by rw[if_neg (by simp)]),Qb]
  ·cases Jj (fun i=>Qim (xs.getD i default) (a::t)) xs.length<;>rfl
  ·have ho:=QxI _ (hin _ (QaX hi));rw[if_pos (by simp;omega),Qc (by omega),Int.toNat_natCast,QxH ho.1 ho.2 h,Qb,Qk hi (by omega)]
   cases Qim (xs.getD i default) (a::t)<;>rfl
theorem Qzy (a:Bs):(allF.filter fun f=>f.word==tS a)=if a=QfU then [fHost] else if a=QdD then [fUser] else if a=wPort then [QqE,Qin] else if a=wRule then [fRule] else if a=wRoute then [fRoute] else if a=wPeer then [fPeer] else if a=wNat then [fNat] else if a=wDoor then [fDoor] else []:=by
 have e:∀c:Bs,(tS c==tS a)=decide (a=c):=fun c=>by
  rw[Qzx];rw[decide_eq_decide];exact eq_comm
 simp only[allF,fHost,fUser,QqE,Qin,fRule,fRoute,fPeer,fNat,fDoor,List.filter_cons,List.filter_nil,e,decide_eq_true_eq]
 by_cases c1:a=QfU
 ·subst c1;rfl
 rw[if_neg c1,if_neg c1]
 by_cases c2:a=QdD
 ·subst c2;rfl
 rw[if_neg c2,if_neg c2]
 by_cases c3:a=wPort
 ·subst c3;rfl
 rw[if_neg c3,if_neg c3,if_neg c3]
 by_cases c4:a=wRule
 ·subst c4;rfl
 rw[if_neg c4,if_neg c4]
 by_cases c5:a=wRoute
 ·subst c5;rfl
 rw[if_neg c5,if_neg c5]
 by_cases c6:a=wPeer
 ·subst c6;rfl
 rw[if_neg c6,if_neg c6]
 by_cases c7:a=wNat
 ·subst c7;rfl
 rw[if_neg c7,if_neg c7]
theorem Qha {f:form} {a:Bs} {t:List Bs} (h:t.length≠f.checks.length):Qim f (a::t)=false:=by
 unfold Qim;rw[decide_eq_false (by simp only[List.length_cons];omega),Bool.false_and]
theorem Qio {f:form} {p:form→Bool} {b:Bool} (h:p f=b):([f].find? p).map (·.key)=bif b then some f.key else none:=by
 subst h;simp only[List.find?_cons,List.find?_nil]
 cases p f<;>rfl
theorem inB (d:Bs):ckF (.w 360 [tS wIn]) d=(d==wIn):=by
 show(tS wIn==tS d||false)=_;rw[Z2,Bool.or_false,Bool.eq_iff_iff];simp only[beq_iff_eq];exact eq_comm
theorem inV (d:Bs):ckF (.w 360 [tS QeS,tS QqD]) d=ckV d:=by
 show(tS QeS==tS d||(tS QqD==tS d||false))=_;rw[Z2,Z2,Bool.or_false,Bool.eq_iff_iff];unfold ckV;simp only[beq_iff_eq,Bool.or_eq_true]
 constructor<;>rintro(h|h)<;>simp[h]
theorem Qps (ws:List Bs):(Qn6 ws).map (·.key)=bif QgO ws then some ((keyN (ws.getD 0 []):Nat):Int) else none:=by
 cases ws with
 |nil=>rfl
 |cons a t=>
  dsimp only[Qn6,QgO];rw[Qzy];have hk:(a::t).getD 0 []=a:=rfl;rw[hk]
  by_cases c1:a=QfU
  ·rw[if_pos c1,if_pos c1];have kk:keyN a=fHost.key.toNat:=by rw[c1];rfl
   by_cases hn:t.length=1
   ·obtain⟨b,rfl⟩:=QzJ hn;rw[kk];refine Qio ?_;simp[Qim,fHost,J5,List.range_succ,ckF,inV,←inV,Bool.and_assoc]
   ·rw[m1 _ hn];exact Qio (p:=fun f=>Qim f (a::t)) (Qha (f:=fHost) hn)
  rw[if_neg c1,if_neg c1]
  by_cases c2:a=QdD
  ·rw[if_pos c2,if_pos c2];have kk:keyN a=fUser.key.toNat:=by rw[c2];rfl
   by_cases hn:t.length=2
   ·obtain⟨b,c,rfl⟩:=Qyk hn;rw[kk];refine Qio ?_;simp[Qim,fUser,J5,List.range_succ,ckF,inV,←inV,Bool.and_assoc]
   ·rw[m2 _ hn];exact Qio (p:=fun f=>Qim f (a::t)) (Qha (f:=fUser) hn)
  rw[if_neg c2,if_neg c2]
  by_cases c3:a=wPort
  ·rw[if_pos c3,if_pos c3];have kk:keyN a=2:=by rw[c3];rfl
   rw[kk]
   by_cases hn:t.length=2
   ·obtain⟨b,c,rfl⟩:=Qyk hn;have e1:Qim QqE [a,b,c]=(isN b 0 7&&ckP c):=by simp[Qim,QqE,J5,List.range_succ,ckF]
    have e2:Qim Qin [a,b,c]=false:=Qha (by simp[Qin]);simp only[List.find?_cons,List.find?_nil,e1,e2]
    cases isN b 0 7&&ckP c<;>rfl
   ·have e1:Qim QqE (a::t)=false:=Qha hn
    by_cases hn4:t.length=4
    ·obtain⟨b,c,d,e,rfl⟩:=Qyl hn4;have e2:Qim Qin [a,b,c,d,e]=(isN b 0 7&&ckP c&&d==wIn&&QfE e):=by
      rw[←inB d];simp[Qim,Qin,J5,List.range_succ,ckF,Bool.and_assoc]
     simp only[List.find?_cons,List.find?_nil,e1,e2]
     cases isN b 0 7&&ckP c&&d==wIn&&QfE e<;>rfl
    ·have e2:Qim Qin (a::t)=false:=Qha hn4;simp only[List.find?_cons,List.find?_nil,e1,e2,m24 _ _ hn hn4]
     rfl
  rw[if_neg c3,if_neg c3]
  by_cases c4:a=wRule
  ·rw[if_pos c4,if_pos c4];have kk:keyN a=fRule.key.toNat:=by rw[c4];rfl
   by_cases hn:t.length=6
   ·obtain⟨b,c,d,e,f,g,rfl⟩:=QzL hn;rw[kk];refine Qio ?_;simp[Qim,fRule,J5,List.range_succ,ckF,inV,←inV,Bool.and_assoc]
   ·rw[m6 _ hn];exact Qio (p:=fun f=>Qim f (a::t)) (Qha (f:=fRule) hn)
  rw[if_neg c4,if_neg c4]
  by_cases c5:a=wRoute
  ·rw[if_pos c5,if_pos c5];have kk:keyN a=fRoute.key.toNat:=by rw[c5];rfl
   by_cases hn:t.length=2
   ·obtain⟨b,c,rfl⟩:=Qyk hn;rw[kk];refine Qio ?_;simp[Qim,fRoute,J5,List.range_succ,ckF,inV,←inV,Bool.and_assoc]
   ·rw[m2 _ hn];exact Qio (p:=fun f=>Qim f (a::t)) (Qha (f:=fRoute) hn)
  rw[if_neg c5,if_neg c5]
  by_cases c6:a=wPeer
  ·rw[if_pos c6,if_pos c6];have kk:keyN a=fPeer.key.toNat:=by rw[c6];rfl
   by_cases hn:t.length=3
   ·obtain⟨b,c,d,rfl⟩:=QzK hn;rw[kk];refine Qio ?_;simp[Qim,fPeer,J5,List.range_succ,ckF,inV,←inV,Bool.and_assoc]
   ·rw[m3 _ hn];exact Qio (p:=fun f=>Qim f (a::t)) (Qha (f:=fPeer) hn)
  rw[if_neg c6,if_neg c6]
  by_cases c7:a=wNat
  ·rw[if_pos c7,if_pos c7];have kk:keyN a=fNat.key.toNat:=by rw[c7];rfl
   by_cases hn:t.length=4
   ·obtain⟨b,c,d,e,rfl⟩:=Qyl hn;rw[kk];refine Qio ?_;simp[Qim,fNat,J5,List.range_succ,ckF,inV,←inV,Bool.and_assoc]
   ·rw[m4 _ hn];exact Qio (p:=fun f=>Qim f (a::t)) (Qha (f:=fNat) hn)
  rw[if_neg c7,if_neg c7]
  by_cases c8:a=wDoor
  ·rw[if_pos c8,if_pos c8];have kk:keyN a=fDoor.key.toNat:=by rw[c8];rfl
   by_cases hn:t.length=4
   ·obtain⟨b,c,d,e,rfl⟩:=Qyl hn;rw[kk];refine Qio ?_;simp[Qim,fDoor,J5,List.range_succ,ckF,inV,←inV,Bool.and_assoc]
   ·rw[m4 _ hn];exact Qio (p:=fun f=>Qim f (a::t)) (Qha (f:=fDoor) hn)
  rw[if_neg c8,if_neg c8]
  rfl
theorem QmO {ws:List Bs} {f:form} (h:Qn6 ws=some f):QgO ws=true∧f.key=((keyN (ws.getD 0 []):Nat):Int):=by
 have:=Qps ws;rw[h,Option.map_some] at this
 cases hb:QgO ws
 ·rw[hb] at this;cases this
 ·rw[hb,cond_true,Option.some.injEq] at this;exact⟨rfl,this⟩
theorem QmP {ws:List Bs} (h:Qn6 ws=none):QgO ws=false:=by
 have:=Qps ws;rw[h,Option.map_none] at this
 cases hb:QgO ws
 ·rfl
 ·rw[hb] at this;cases this
def QdQ:List Bs→Bs
 |[]=>[]
 |a::t=>a++t.flatMap fun w=>32::w
theorem Qip (a b:Bs):tS a++tS b=tS (a++b):=by
 apply QtY
 rw[QhG];show(ByteArray.append (tS a) (tS b)).data.toList=_;simp[tS]
theorem QxJ (ws:List Bs):QjH (ws.map tS) (tS [32])=tS (QdQ ws):=by
 have e1:(ws.map tS).map (fun x=>x.data.toList)=ws:=by
  rw[List.map_map];have:((fun x:Bt=>x.data.toList)∘tS)=id:=funext fun x=>QhG x;rw[this,List.map_id]
 have e2:(tS [32]).data.toList=[32]:=rfl;unfold QjH;rw[e1,e2];show tS _=_
 cases ws with
 |nil=>rfl
 |cons a t=>
  rw[Lib.join_cons];unfold Lib.joinTail QdQ
  congr 2
def QhL (ws:List Bs) (i:Nat):Bs:=if i=0 then QdQ ws else(ws.drop i).flatMap fun w=>32::w
theorem QxK {ws:List Bs} (h:(QdQ ws).length≤1000000000) (hw:ws.length≤1000000):Qbf (ws.map tS) (tS [32])=some (tS (QdQ ws)):=by
 unfold Qbf;have key:∀(k i:Nat) (s:Bs),i+k=ws.length→(i=0→s=[])→(s++QhL ws i).length≤1000000000→lp (σ:=Bt×Int) (β:=(Bt)) (fun s1=>
(if(decide (s1.2<(((ws.map tS).length:Nat):Int)))=true then
(if(decide (s1.2>0))=true then
 gd (s1.1.size+(tS [32]).size≤9223372036854775807)<|
 gd ((0:Int)≤s1.2∧s1.2<(((ws.map tS).length:Nat):Int))<|
 gd ((s1.1++(tS [32])).size+((ws.map tS).getD s1.2.toNat default).size≤9223372036854775807)<|
 some (.inl (((s1.1++(tS [32]))++((ws.map tS).getD s1.2.toNat default)),IntKind.i64.wrap (s1.2+1)))
else
 gd ((0:Int)≤s1.2∧s1.2<(((ws.map tS).length:Nat):Int))<|
 gd (s1.1.size+((ws.map tS).getD s1.2.toNat default).size≤9223372036854775807)<|
 some (.inl ((s1.1++((ws.map tS).getD s1.2.toNat default)),IntKind.i64.wrap (s1.2+1))))
else
 some (.inr s1.1))) (tS s,(i:Int))=some (tS (s++QhL ws i)):=by
  intro k
  induction k with
  |zero=>
   intro i s hi h0 hl;have hi:i=ws.length:=by omega
   subst hi;refine Jo ?_;dsimp only;rw[if_neg (by simp)];have:QhL ws ws.length=[]:=by
    unfold QhL;split
    ·rename_i h;rw[List.eq_nil_of_length_eq_zero h];rfl
    ·simp
   rw[this,List.append_nil]
  |succ k ih=>
   intro i s hi h0 hl;have hil:i<ws.length:=by omega
   have hd:ws.drop i=ws.getD i []::ws.drop (i+1):=by
    rw[List.drop_eq_getElem_cons hil,List.getD_eq_getElem?_getD,List.getElem?_eq_getElem hil];rfl
   have hr1:QhL ws (i+1)=(ws.drop (i+1)).flatMap fun w=>32::w:=if_neg (by omega)
   by_cases hz:i=0
   ·subst hz;have hs:=h0 rfl;subst hs;have hr:QhL ws 0=ws.getD 0 []++QhL ws 1:=by
     rw[hr1];unfold QhL;rw[if_pos rfl];rw[List.drop_zero] at hd
     conv=>lhs;rw[hd]
     rfl
    have e:([]:Bs)++QhL ws 0=ws.getD 0 []++QhL ws (0+1):=hr;have hl':=hl;rw[e] at hl'⊢;have hlen:=hl';rw[List.length_append] at hlen;rw[←ih 1 (ws.getD 0 []) (by omega) (by omega) hl'];refine QaA ?_;dsimp only;rw[if_pos (by simp;omega),if_neg (by simp),Qc (by simp;omega),Int.toNat_natCast,ZI hil,Qc (by simp only[Qbm,List.length_nil];omega),Qip,Qk hil (by omega)]
    rfl
   ·have hr:QhL ws i=32::ws.getD i []++QhL ws (i+1):=by
     rw[hr1];unfold QhL;rw[if_neg hz,hd]
     rfl
    have e:s++QhL ws i=(s++[32]++ws.getD i [])++QhL ws (i+1):=by rw[hr];simp
    rw[e] at hl⊢;have hlen:=hl;simp only[List.length_append,List.length_cons,List.length_nil] at hlen;rw[←ih (i+1) (s++[32]++ws.getD i []) (by omega) (by omega) hl];refine QaA ?_;dsimp only;rw[if_pos (by simp;omega),if_pos (by simp;omega),Qc (by simp;omega),Qc (by simp;omega),Int.toNat_natCast,ZI hil,Qip,Qc (by simp only[Qbm,List.length_append,List.length_cons,List.length_nil];omega),Qip,Qk hil (by omega)]
 have k0:=key ws.length 0 [] (by omega) (fun _=>rfl) (by rw[List.nil_append];exact h);refine(congrArg (fun m=>bd m _) k0).trans ?_;rw[Qb]
 rfl
theorem Qn7 {c:UInt8}:∀ {l w:Bs},w∈Qc7 c l→c∉w
 |[],w,h=>by simp[Qc7] at h;simp[h]
 |b::r,w,h=>by
  unfold Qc7 at h;split at h
  ·rcases List.mem_cons.1 h with rfl|h
   ·simp
   ·exact Qn7 h
  ·rename_i hb;split at h
   ·simp at h;subst h;simp[Ne.symm hb]
   ·rename_i x xs e;rcases List.mem_cons.1 h with rfl|h
    ·have:c∉x:=Qn7 (l:=r) (by rw[e];simp);simp[Ne.symm hb,this]
    ·exact Qn7 (l:=r) (by rw[e];simp[h])
structure WordsOk (ws:List Bs):Prop where
 few:ws.length≤8
 short:∀w∈ws,w.length≤24
 no:∀w∈ws,(32:UInt8)∉w
 ne:∀w∈ws,w≠ []
theorem Qd6 {l:Bs} {ws:List Bs} (h:QhH l=some ws):WordsOk ws:=by
 unfold QhH at h;split at h
 ·rename_i hc;simp only[Option.some.injEq] at h;subst h;have hf:=hc.2;simp only[QyQ,Bool.and_eq_true,decide_eq_true_eq,List.all_eq_true] at hf;refine⟨hf.1,hf.2,fun w hw=>?_,fun w hw=>?_⟩
  ·exact Qn7 (List.mem_filter.1 hw).1
  ·have:=(List.mem_filter.1 hw).2;intro e;subst e;simp at this
 ·cases h
theorem WordsOk.long {ws:List Bs} (h:WordsOk ws):∀w∈ws,w.length≤1000000:=fun w hw=>by have:=h.short w hw;omega
theorem QrC:∀ {t:List Bs},(∀w∈t,w.length≤24)→(t.flatMap fun w=>32::w).length≤25*t.length
 |[],_=>by simp
 |b::r,h=>by
  have:=QrC (t:=r) fun w hw=>h w (by simp[hw]);have:=h b (by simp);rw[List.flatMap_cons,List.length_append,List.length_cons,List.length_cons];omega
theorem WordsOk.joins {ws:List Bs} (h:WordsOk ws):(QdQ ws).length≤200:=by
 cases ws with
 |nil=>simp[QdQ]
 |cons a t=>
  have h1:=QrC (t:=t) fun w hw=>h.short w (by simp[hw]);have h2:=h.short a (by simp);have h3:=h.few;show(a++t.flatMap fun w=>32::w).length≤200;rw[List.length_append];simp at h3;omega
theorem QmQ:∀ {ws:List Bs},ws≠ []→(∀w∈ws,(32:UInt8)∉w)→Qc7 32 (QdQ ws)=ws
 |[],h,_=>absurd rfl h
 |[a],_,h=>by
  have:QdQ [a]=a:=by simp[QdQ]
  rw[this,Qer (h a (by simp))]
 |a::b::t,_,h=>by
  have e:QdQ (a::b::t)=a++32::QdQ (b::t):=by simp[QdQ]
  rw[e,QfD (h a (by simp)),QmQ (by simp) fun w hw=>h w (by simp[hw])]
def QsA (l:Bs):Option Bs:=match QhH l with
 |some ws=>bif QgO ws then some (QdQ ws) else none
 |none=>none
def QdE (l:Bs):Bool:=QsA l==some l
def wsL (l:Bs):List Bs:=(QhH l).getD []
def QgP (l:Bs):Bs:=bif QdE l then QdQ ((wsL l).take (keyN ((wsL l).getD 0 []))) else []
theorem QxL {l:Bs} (h:l.length≤1000000):Qbq (tS l)=some (match QsA l with|some x=>(tS x,true)|none=>(tS [],false)):=by
 unfold Qbq QsA;rw[QnW (by omega)]
 cases hc:QhH l with
 |none=>
  dsimp only;rw[Qb];dsimp only;rw[Q3 (by decide),Qb,if_pos (by rfl)]
  rfl
 |some ws=>
  have W:=Qd6 hc;dsimp only;rw[Qb];dsimp only;rw[Qr (by rfl),QxG W.long,Qb]
  cases QgO ws
  ·rfl
  ·have:=W.joins;rw[if_neg (by decide),show Qbf (ws.map tS) ⟨#[32]⟩=_ from QxK (by omega) (by have:=W.few;omega),Qb]
   rfl
theorem Qug {ws:List Bs} (h:(QdQ ws).length≤1000000) (hw:ws.length≤1000000):Qbj (ws.map tS) ⟨#[32]⟩=some (tS (QdQ ws)):=by
 unfold Qbj;rw[show QjH (ws.map tS) ⟨#[32]⟩=_ from QxJ ws,Qc (by simp;omega)]
theorem QxM {l:Bs} (h:l.length≤1000000):QbA (tS l)=some (match QsA l with|some x=>(tS x,true)|none=>(tS [],false)):=by
 unfold QbA QsA;rw[QvF h]
 cases hc:QhH l with
 |none=>
  dsimp only;rw[Qb,if_pos (by rfl)]
  rfl
 |some ws=>
  have W:=Qd6 hc;have hj:=W.joins;have hf:=W.few;dsimp only;rw[Qb,if_neg (by simp),Qpr W.long,Qb]
  cases hF:Qn6 ws with
  |none=>rw[QmP hF];rfl
  |some f=>
   rw[(QmO hF).1];dsimp only;rw[if_neg (by decide),Qug (by omega) (by omega),Qb]
   rfl
theorem QxN (l:Bs) (o:Option Bs):((match o with|some x=>(tS x,true)|none=>(tS [],false)):Bt×Bool).2=true∧(((match o with|some x=>(tS x,true)|none=>(tS [],false)):Bt×Bool).1==tS l)=true↔(o==some l)=true:=by
 cases o with
 |none=>simp
 |some x=>simp[Z2]
theorem QwO (l:Bs) (o:Option Bs):(((match o with|some x=>(tS x,true)|none=>(tS [],false)):Bt×Bool).2&&(((match o with|some x=>(tS x,true)|none=>(tS [],false)):Bt×Bool).1==tS l))=(o==some l):=by
 rw[Bool.eq_iff_iff,Bool.and_eq_true];exact QxN l o
theorem QxO {l:Bs} (h:l.length≤1000000):Qcc (tS l)=some (QdE l):=by
 unfold Qcc;rw[QxL h,Qb,QwO]
 rfl
theorem Quh {l:Bs} (h:l.length≤1000000):QbY (tS l)=some (QdE l):=by
 unfold QbY;rw[QxM h,Qb,QwO]
 rfl
theorem QdF {l:Bs} (h:QdE l=true):∃ws,QhH l=some ws∧QgO ws=true∧QdQ ws=l∧wsL l=ws:=by
 unfold QdE QsA at h
 cases hc:QhH l with
 |none=>rw[hc] at h;simp at h
 |some ws=>
  rw[hc] at h;dsimp only at h
  cases hf:QgO ws
  ·rw[hf] at h;simp at h
  ·rw[hf] at h;simp at h;exact⟨ws,rfl,hf,h,by simp[wsL,hc]⟩
inductive LineF:List Bs→Prop
 |host {b:Bs} (h1:QfE b=true):LineF [QfU,b]
 |user {b c:Bs} (h1:QfE b=true) (h2:Qlk c=true):LineF [QdD,b,c]
 |port {b c:Bs} (h1:isN b 0 7=true) (h2:ckP c=true):LineF [wPort,b,c]
 |port2 {b c e:Bs} (h1:isN b 0 7=true) (h2:ckP c=true) (h3:QfE e=true):LineF [wPort,b,c,wIn,e]
 |rule {b c d e f g:Bs} (h1:QfE b=true) (h2:isN c 0 99=true) (h3:ckV d=true) (h4:ckP e=true) (h5:ckP f=true) (h6:isN g 0 7=true):LineF [wRule,b,c,d,e,f,g]
 |route {b c:Bs} (h1:ckP b=true) (h2:ckA c=true):LineF [wRoute,b,c]
 |peer {b c d:Bs} (h1:ckA b=true) (h2:isN c 1 9=true) (h3:isN d 1 999999=true):LineF [wPeer,b,c,d]
 |nat {b c d e:Bs} (h1:ckP b=true) (h2:ckA c=true) (h3:isN d 1 65535=true) (h4:isN e 1 65535=true):LineF [wNat,b,c,d,e]
 |door {b c d e:Bs} (h1:isN b 1 7=true) (h2:isN c 1 65535=true) (h3:ckA d=true) (h4:isN e 1 65535=true):LineF [wDoor,b,c,d,e]
theorem QvJ {ws:List Bs} (h:QgO ws=true):LineF ws:=by
 cases ws with
 |nil=>cases h
 |cons a t=>
  dsimp only[QgO] at h
  by_cases c1:a=QfU
  ·rw[if_pos c1] at h;subst c1;split at h
   ·exact .host h
   ·cases h
  rw[if_neg c1] at h
  by_cases c2:a=QdD
  ·rw[if_pos c2] at h;subst c2;split at h
   ·simp only[Bool.and_eq_true] at h;exact .user h.1 h.2
   ·cases h
  rw[if_neg c2] at h
  by_cases c3:a=wPort
  ·rw[if_pos c3] at h;subst c3;split at h
   ·simp only[Bool.and_eq_true] at h;exact .port h.1 h.2
   ·simp only[Bool.and_eq_true,beq_iff_eq] at h;obtain⟨⟨⟨h1,h2⟩,h3⟩,h4⟩:=h;subst h3;exact .port2 h1 h2 h4
   ·cases h
  rw[if_neg c3] at h
  by_cases c4:a=wRule
  ·rw[if_pos c4] at h;subst c4;split at h
   ·simp only[Bool.and_eq_true] at h;obtain⟨⟨⟨⟨⟨h1,h2⟩,h3⟩,h4⟩,h5⟩,h6⟩:=h;exact .rule h1 h2 h3 h4 h5 h6
   ·cases h
  rw[if_neg c4] at h
  by_cases c5:a=wRoute
  ·rw[if_pos c5] at h;subst c5;split at h
   ·simp only[Bool.and_eq_true] at h;exact .route h.1 h.2
   ·cases h
  rw[if_neg c5] at h
  by_cases c6:a=wPeer
  ·rw[if_pos c6] at h;subst c6;split at h
   ·simp only[Bool.and_eq_true] at h;exact .peer h.1.1 h.1.2 h.2
   ·cases h
  rw[if_neg c6] at h
  by_cases c7:a=wNat
  ·rw[if_pos c7] at h;subst c7;split at h
   ·simp only[Bool.and_eq_true] at h;exact .nat h.1.1.1 h.1.1.2 h.1.2 h.2
   ·cases h
  rw[if_neg c7] at h
  by_cases c8:a=wDoor
  ·rw[if_pos c8] at h;subst c8;split at h
   ·simp only[Bool.and_eq_true] at h;exact .door h.1.1.1 h.1.1.2 h.1.2 h.2
   ·cases h
  rw[if_neg c8] at h;cases h
theorem Qn8 {ws:List Bs} (h:LineF ws):keyN (ws.getD 0 [])≤ws.length∧1≤keyN (ws.getD 0 []):=by
 cases h<;>(simp only[List.getD_cons_zero,List.length_cons,List.length_nil];decide)
theorem QqF {ws:List Bs} (h:QgO ws=true):ws≠ []:=by
 intro e;subst e;cases h
theorem QvK {ws:List Bs} (h:QgO ws=true):∃f,Qn6 ws=some f:=by
 cases hf:Qn6 ws with
 |none=>rw[QmP hf] at h;cases h
 |some f=>exact⟨f,rfl⟩
theorem Qn9 (ws:List Bs) (k:Nat):(ws.map tS).take k=(ws.take k).map tS:=List.map_take.symm
theorem QmR {ws:List Bs} (h:WordsOk ws) (k:Nat):(QdQ (ws.take k)).length≤200:=by
 refine WordsOk.joins ⟨?_,fun w hw=>h.short w (List.mem_of_mem_take hw),fun w hw=>h.no w (List.mem_of_mem_take hw),fun w hw=>h.ne w (List.mem_of_mem_take hw)⟩;have:=h.few;rw[List.length_take];omega
theorem QmS {l:Bs} (h:QdE l=true):Qc7 32 l=wsL l:=by
 obtain⟨ws,hc,hb,hj,hw⟩:=QdF h;rw[hw,←hj];exact QmQ (QqF hb) (Qd6 hc).no
theorem QvL {l:Bs} (h:QdE l=true):l.length≤200:=by
 obtain⟨ws,hc,hb,hj,hw⟩:=QdF h;rw[←hj];exact(Qd6 hc).joins
theorem QyS {l:Bs} (h:l.length≤1000000):Qaw (tS l)=some (tS (QgP l)):=by
 unfold Qaw QgP;rw[Quh h,Qb]
 cases hk:QdE l
 ·rfl
 obtain⟨ws,hc,hb,hj,hw⟩:=QdF hk;obtain⟨f,hf⟩:=QvK hb;have W:=Qd6 hc;have hkn:=Qn8 (QvJ hb);have hs:Qc7 32 l=ws:=by rw[QmS hk,hw]
 rw[if_neg (by decide),ZQ,Qc ⟨by rw[Qbm];omega,by decide⟩,Qb,show Qlw (tS l) ⟨#[32]⟩=_ from QnU 32 l,hs,Qpr W.long,Qb,hf];dsimp only;rw[(QmO hf).2,Qc (by rw[List.length_map];omega),Int.toNat_natCast,Qn9,Qug (by have:=QmR W (keyN (ws.getD 0 []));omega) (by have:=W.few;rw[List.length_take];omega),Qb,hw]
 rfl
theorem QwP {l:Bs} (h:l.length≤1000000):JR (tS l)=some (tS (QgP l)):=by
 unfold JR QgP;rw[QxO h,Qb]
 cases hk:QdE l
 ·rfl
 obtain⟨ws,hc,hb,hj,hw⟩:=QdF hk;have W:=Qd6 hc;have F:=QvJ hb;rw[if_neg (by decide),QnW (by omega),hc,Qb,hw];dsimp only;have e32:(⟨#[32]⟩:Bt)=tS [32]:=rfl;have w24:∀i,i<ws.length→(ws.getD i []).length≤24:=fun i hi=>W.short _ (Qat hi);have hpos:0<ws.length:=by cases F<;>simp
 generalize hwl:((ws.map tS).length:Nat)=n;have hn:n=ws.length:=by rw[←hwl,List.length_map]
 have g0:(ws.map tS).getD 0 default=tS (ws.getD 0 []):=ZI hpos;rw[g0];generalize ha:ws.getD 0 []=a;rw[show(⟨#[104,111,115,116]⟩:Bt)=tS QfU from rfl,show(⟨#[117,115,101,114]⟩:Bt)=tS QdD from rfl,show(⟨#[112,111,114,116]⟩:Bt)=tS wPort from rfl,show(⟨#[114,117,108,101]⟩:Bt)=tS wRule from rfl,show(⟨#[112,101,101,114]⟩:Bt)=tS wPeer from rfl,show(⟨#[110,97,116]⟩:Bt)=tS wNat from rfl,show(⟨#[100,111,111,114]⟩:Bt)=tS wDoor from rfl,e32];simp only[Qzx a,decide_eq_true_eq];have hal:a.length≤24:=by rw[←ha];exact w24 0 hpos
 have b1:(bd (α:=Bool) (β:=Bt) (if a=QfU then some (decide (a=QfU)) else some (decide (a=wNat))))=fun f=>f (decide (a=QfU)||decide (a=wNat)):=by
  funext f
  by_cases c:a=QfU<;>simp[c,bd]
 have b2:(bd (α:=Bool) (β:=Bt) (if a=QdD then some (decide (a=QdD)) else if a=wPort then some (decide (a=wPort)) else some (decide (a=wPeer))))=fun f=>f (decide (a=QdD)||decide (a=wPort)||decide (a=wPeer)):=by
  funext f
  by_cases c:a=QdD
  ·simp[c,bd]
  ·by_cases c':a=wPort
   ·rw[if_neg c,if_pos c',Qb,decide_eq_true c',decide_eq_false c];rfl
   ·rw[if_neg c,if_neg c',Qb,decide_eq_false c,decide_eq_false c'];rfl
 have b3:(bd (α:=Bool) (β:=Bt) (if a=wRule then some (decide (a=wRule)) else some (decide (a=wDoor))))=fun f=>f (decide (a=wRule)||decide (a=wDoor)):=by
  funext f
  by_cases c:a=wRule<;>simp[c,bd]
 rw[Qc (by omega),b1];dsimp only
 by_cases c1:a=QfU∨a=wNat
 ·have e:(decide (a=QfU)||decide (a=wNat))=true:=by simpa using c1
  have ek:keyN a=1:=by unfold keyN;rw[if_pos c1]
  rw[e,if_pos rfl,Qc (by omega),ek];have:QdQ (ws.take 1)=a:=by
   rw[←ha]
   cases ws with
   |nil=>simp at hpos
   |cons x t=>simp[QdQ]
  rw[this]
  rfl
 have e:(decide (a=QfU)||decide (a=wNat))=false:=by simpa using c1
 rw[e,if_neg (by decide),b2];dsimp only
 by_cases c2:a=QdD∨a=wPort∨a=wPeer
 ·have e:(decide (a=QdD)||decide (a=wPort)||decide (a=wPeer))=true:=by
   rcases c2 with c|c|c<;>simp[c]
  have ek:keyN a=2:=by unfold keyN;rw[if_neg c1,if_pos c2]
  have h2:2≤ws.length:=by rw[←ek,←ha];exact(Qn8 F).1
  have g1:(ws.map tS).getD 1 default=tS (ws.getD 1 []):=ZI (by omega);have l1:=w24 1 (by omega);rw[e,if_pos rfl,Qc (by omega),Qc (by simp only[Qbm,List.length_cons,List.length_nil];omega),Qc (by omega),Qip,g1,Qc (by simp only[Qbm,List.length_append,List.length_cons,List.length_nil];omega),Qip,ek];have:QdQ (ws.take 2)=a++[32]++ws.getD 1 []:=by
   rw[←ha]
   match ws,h2 with
   |x::y::t,_=>simp[QdQ]
  rw[this]
  rfl
 have e:(decide (a=QdD)||decide (a=wPort)||decide (a=wPeer))=false:=by
  simp only[not_or] at c2;simp[c2]
 rw[e,if_neg (by decide),b3];dsimp only;have ek:keyN a=3:=by unfold keyN;rw[if_neg c1,if_neg c2]
 have h3:3≤ws.length:=by rw[←ek,←ha];exact(Qn8 F).1
 by_cases c3:a=wRule∨a=wDoor
 ·have e:(decide (a=wRule)||decide (a=wDoor))=true:=by simpa using c3
  have g1:(ws.map tS).getD 1 default=tS (ws.getD 1 []):=ZI (by omega);have g2:(ws.map tS).getD 2 default=tS (ws.getD 2 []):=ZI (by omega);have l1:=w24 1 (by omega);have l2:=w24 2 (by omega);rw[e,if_pos rfl,Qc (by omega),Qc (by simp only[Qbm,List.length_cons,List.length_nil];omega),Qc (by omega),Qip,g1,Qc (by simp only[Qbm,List.length_append,List.length_cons,List.length_nil];omega),Qip,Qc (by simp only[Qbm,List.length_append,List.length_cons,List.length_nil];omega),Qc (by omega),Qip,g2,Qc (by simp only[Qbm,List.length_append,List.length_cons,List.length_nil];omega),Qip,ek];have:QdQ (ws.take 3)=a++[32]++ws.getD 1 []++[32]++ws.getD 2 []:=by
   rw[←ha]
   match ws,h3 with
   |x::y::z::t,_=>simp[QdQ]
  rw[this]
  rfl
 have e:(decide (a=wRule)||decide (a=wDoor))=false:=by simpa using c3
 rw[e,if_neg (by decide),ek];have:ws.length=3:=by
  simp only[not_or] at c1 c2 c3
  cases F with
  |route _ _=>rfl
  |host=>exact absurd ha.symm c1.1
  |user=>exact absurd ha.symm c2.1
  |port=>exact absurd ha.symm c2.2.1
  |port2=>exact absurd ha.symm c2.2.1
  |rule=>exact absurd ha.symm c3.1
  |peer=>exact absurd ha.symm c2.2.2
  |nat=>exact absurd ha.symm c1.2
  |door=>exact absurd ha.symm c3.2
 rw[←this,List.take_length,hj]
 rfl
theorem QaO {α β:Type} [Inhabited α] (xs:List α) (f:α→β):(List.range xs.length).map (fun i=>f (xs.getD i default))=xs.map f:=by
 apply List.ext_getElem?
 intro i
 by_cases h:i<xs.length
 ·simp[h,List.getD_eq_getElem?_getD]
 ·simp[h]
theorem Qpt {β:Type} (g:Nat→β):∀n,(List.range n).foldl (fun a i=>a++[g i]) []=(List.range n).map g
 |0=>rfl
 |n+1=>by rw[List.range_succ,List.foldl_append,Qpt g n,List.map_append];rfl
theorem Qet {α β:Type} {step:List α×Int→Option ((List α×Int)⊕β)} (n:Nat) (g:Nat→α) (d:List α→β) (h1:∀(i:Nat) (a:List α),i<n→a.length=i→step (a,(i:Int))=some (.inl (a++[g i],((i+1:Nat):Int)))) (h2:∀a,a.length=n→step (a,(n:Int))=some (.inr (d a))):lp step ([],0)=some (d ((List.range n).map g)):=by
 have:=(QhE n (fun a i=>a++[g i]) d [] (fun i a=>a.length=i) rfl (fun i a _ h=>by simp[h]) h1 h2).1;rwa[Qpt] at this
theorem QmT {α β:Type} [Inhabited α] (p:α→Bool) (g:α→β) (xs:List α):(List.range xs.length).foldl (fun a i=>if p (xs.getD i default)=true then a++[g (xs.getD i default)] else a) []=(xs.filter p).map g:=by
 have key:∀n,n≤xs.length→(List.range n).foldl (fun a i=>if p (xs.getD i default)=true then a++[g (xs.getD i default)] else a) []=((xs.take n).filter p).map g:=by
  intro n
  induction n with
  |zero=>intro _;rfl
  |succ n ih=>
   intro h;rw[List.range_succ,List.foldl_append,ih (by omega),List.take_succ];have e:xs[n]? =some (xs.getD n default):=by simp[List.getD_eq_getElem?_getD,show n<xs.length by omega]
   rw[e,List.filter_append,List.map_append];show(if p (xs.getD n default)=true then _ else _)=_++(List.filter p [xs.getD n default]).map g
   by_cases hp:p (xs.getD n default)=true
   ·rw[if_pos hp,List.filter_cons,if_pos hp];rfl
   ·rw[if_neg hp,List.filter_cons,if_neg hp];simp
 have:=key xs.length (Nat.le_refl _);rwa[List.take_length] at this
theorem Qui {α β γ:Type} [Inhabited α] {step:List β×Int→Option ((List β×Int)⊕γ)} (xs:List α) (p:α→Bool) (g:α→β) (d:List β→γ) (h1:∀(i:Nat) (a:List β),i<xs.length→a.length≤i→step (a,(i:Int))=some (.inl (if p (xs.getD i default)=true then a++[g (xs.getD i default)] else a,((i+1:Nat):Int)))) (h2:∀a,a.length≤xs.length→step (a,(xs.length:Int))=some (.inr (d a))):lp step ([],0)=some (d ((xs.filter p).map g)):=by
 have:=(QhE xs.length (fun a i=>if p (xs.getD i default)=true then a++[g (xs.getD i default)] else a) d [] (fun i a=>a.length≤i) (Nat.le_refl _) (fun i a _ h=>by split<;>(try simp)<;>omega) h1 h2).1;rwa[QmT] at this
theorem QxP {β:Type} {step:Int→Option (Int⊕β)} {s0:Int} (n s:Nat) (hs0:s0=(s:Int)) (p:Nat→Bool) (e d:β) (h1:∀i:Nat,s≤i→i<n→step i=some (if p i=true then .inl ((i+1:Nat):Int) else .inr e)) (h2:∀i:Nat,n≤i→step i=some (.inr d)):
  lp step s0=some (bif J5 n (fun i=>decide (i<s)||p i) then d else e):=by
 subst hs0;have key:∀k i:Nat,i+k=n→s≤i→(∀j,j<i→(decide (j<s)||p j)=true)→lp step (i:Int)=some (bif J5 n (fun i=>decide (i<s)||p i) then d else e):=by
  intro k
  induction k with
  |zero=>
   intro i hi hs hp;have:i=n:=by omega
   subst this;rw[Jo (h2 i (Nat.le_refl _)),Qax hp];rfl
  |succ k ih=>
   intro i hi hsi hp;have hs:=h1 i hsi (by omega)
   by_cases hpi:p i=true
   ·rw[if_pos hpi] at hs;rw[QaA hs];refine ih (i+1) (by omega) (by omega) fun j hj=>?_;rcases Nat.lt_or_ge j i with h|h
    ·exact hp j h
    ·have:j=i:=by omega
     subst this;simp[hpi]
   ·rw[if_neg hpi] at hs;rw[Jo hs,QiB (i:=i) (by omega) (by simp[hpi];omega)];rfl
 rcases Nat.lt_or_ge n s with h|h
 ·rw[Jo (h2 s (by omega)),Qax fun i hi=>by simp;omega];rfl
 ·exact key (n-s) s (by omega) (Nat.le_refl _) fun j hj=>by simp[hj]
theorem QxQ {ls:List Bs} (h:∀l∈ls,l.length≤1000000) (hn:ls.length≤1000000):Qcd (ls.map tS)=some ((ls.map QgP).map tS):=by
 unfold Qcd;rw[Qet ls.length (fun i=>tS (QgP (ls.getD i []))) (fun a=>(a.length,a)) (fun i a hi ha=>?_) (fun a ha=>?_),Qb]
 ·have:=QaO ls (fun l=>tS (QgP l));rw[List.map_map];exact congrArg some this
 ·dsimp only;rw[if_pos (by simp;omega),Qc (by simp;omega),Int.toNat_natCast,ZI hi,QwP (h _ (Qat hi)),Qb,Qc (by simp;omega),Qk hi (by omega)]
 ·dsimp only;rw[if_neg (by simp)]
def QqG (ls:List Bs):Bool:=J5 ls.length fun i=>decide (i<1)||bsl (tS (ls.getD (i-1) [])) (tS (ls.getD i []))
def QxR (ks:List Bs):Bool:=!(J5 ks.length fun i=>!((ks.take i).any fun k=>k==ks.getD i []))
def QfV (ls:List Bs):Int:=if ls.length>16 then 1 else bif ls.any (fun l=>!QdE l) then 2 else bif !QqG ls then 3 else bif QxR (ls.map QgP) then 4 else 0
theorem QxS {l:Bs} (h:QdE l=true):QgP l≠ []:=by
 obtain⟨ws,hc,hb,hj,hw⟩:=QdF h;have W:=Qd6 hc;have hk:=Qn8 (QvJ hb);unfold QgP;rw[h,cond_true,hw]
 cases ws with
 |nil=>exact absurd rfl (QqF hb)
 |cons a t=>
  have ha:a≠ []:=W.ne a (by simp);generalize keyN ((a::t).getD 0 [])=k at hk
  cases k with
  |zero=>omega
  |succ k=>
   intro e;have:a++(t.take k).flatMap (fun w=>32::w)=[]:=e;exact ha (List.append_eq_nil_iff.1 this).1
theorem QvM (l:Bs):(tS (QgP l)==(⟨#[]⟩:Bt))=!QdE l:=by
 rw[QhI]
 cases h:QdE l
 ·unfold QgP;rw[h];rfl
 ·have:=QxS h
  cases hk:QgP l with
  |nil=>exact absurd hk this
  |cons _ _=>rfl
theorem QzM {xs:List Bs} {a:Bs}:(xs.map tS).any (· ==tS a)=xs.any fun k=>k==a:=by
 rw[List.any_map]
 congr 1
 funext k
 exact Z2 k a
theorem QqH {α:Type} (xs:List α) (d:α) (p:α→Bool):xs.any p=!J5 xs.length fun i=>!p (xs.getD i d):=by
 rw[Bool.eq_iff_iff,List.any_eq_true,Bool.not_eq_true',←Bool.not_eq_true,Qdo]
 constructor
 ·rintro⟨x,hx,hp⟩ h;obtain⟨i,hi,e⟩:=List.getElem_of_mem hx;have:=h i hi;rw[List.getD_eq_getElem?_getD,List.getElem?_eq_getElem hi,Option.getD_some,e,hp] at this
  cases this
 ·intro h;refine Decidable.byContradiction fun hc=>h fun i hi=>?_;have hm:xs.getD i d∈xs:=by rw[List.getD_eq_getElem?_getD,List.getElem?_eq_getElem hi];exact List.getElem_mem hi
  cases hp:p (xs.getD i d)
  ·rfl
  ·exact absurd ⟨_,hm,hp⟩ hc
theorem QxT {ls:List Bs} (h:∀l∈ls,l.length≤1000000) (hn:ls.length≤1000000):Qce (ls.map tS)=some (QfV ls):=by
 unfold Qce QfV;rw[QxQ h hn];simp only[List.length_map]
 by_cases h16:ls.length>16
 ·rw[if_pos (by simp;omega),if_pos h16]
 rw[if_neg (by simp;omega),if_neg h16,Qb];rw[Qb7 ls.length (fun i=>QdE (ls.getD i [])) (.inl ()) (.inr ()) (fun i hi _=>?_) (fun _=>by rw[if_neg (by simp)]),Qb]
 ·have e1:ls.any (fun l=>!QdE l)=!J5 ls.length fun i=>QdE (ls.getD i []):=by
   rw[QqH ls []];simp only[Bool.not_not]
  rw[e1]
  cases hk:J5 ls.length fun i=>QdE (ls.getD i [])
  ·rfl
  rw[if_pos rfl];dsimp only;rw[QxP (s0:=1) ls.length 1 rfl (fun i=>bsl (tS (ls.getD (i-1) [])) (tS (ls.getD i []))) (.inl ()) (.inr ()) (fun i h1 hi=>?_) (fun i hi=>by rw[if_neg (by simp;omega)]),Qb]
  ·rw[show(J5 ls.length fun i=>decide (i<1)||bsl (tS (ls.getD (i-1) [])) (tS (ls.getD i [])))=QqG ls from rfl]
   cases hs:QqG ls
   ·rfl
   dsimp only[cond_true];rw[Qb7 ls.length (fun i=>!(((ls.map QgP).take i).any fun k=>k==(ls.map QgP).getD i [])) (.inl ()) (.inr ()) (fun i hi _=>?_) (fun _=>by rw[if_neg (by simp)]),Qb]
   ·unfold QxR;rw[List.length_map]
    cases J5 ls.length fun i=>!(((ls.map QgP).take i).any fun k=>k==(ls.map QgP).getD i [])<;>rfl
   ·have hik:i<(ls.map QgP).length:=by rw[List.length_map];exact hi
    rw[if_pos (by simp;omega),Qc (by simp only[List.length_map];omega),Qc (by simp only[List.length_map];omega),Int.toNat_natCast,Qn9,ZI hik,QwK (by rw[List.length_map,List.length_take];omega),Qb,QzM,Qk hi (by omega)]
    cases ((ls.map QgP).take i).any fun k=>k==(ls.map QgP).getD i []<;>rfl
  ·have e:=Qdv hi (by omega) (by omega);rw[if_pos (by simp;omega),e,Qc (by omega),Qc (by omega),Int.toNat_natCast,Int.toNat_natCast,ZI (by omega),ZI hi,Qk hi (by omega)]
   cases bsl (tS (ls.getD (i-1) [])) (tS (ls.getD i []))<;>rfl
 ·have hik:i<(ls.map QgP).length:=by rw[List.length_map];exact hi
  have ek:(ls.map QgP).getD i []=QgP (ls.getD i []):=by
   simp[List.getD_eq_getElem?_getD,hi]
  rw[if_pos (by simp;omega),Qc (by simp only[List.length_map];omega),Int.toNat_natCast,ZI hik,ek,QvM,Qk hi (by omega)]
  cases QdE (ls.getD i [])<;>rfl
end Go.Proofs.YtfpbhbbdhfbilaaGreatDoor
