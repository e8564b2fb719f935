/-
  Plain Lean: what the models of functions compute; no condition.
-/
import Derived.Test.YtmnnglbioibmfaaGreatDoorKz5
import Derived.Test.YtmnnglbioibmfaaGreatDoorAbz8
set_option linter.all false
namespace Go.Proofs.YtmnnglbioibmfaaGreatDoor
open Go Go.Ab
set_option maxHeartbeats 4000000
set_option maxRecDepth 100000
def Post {α:Type} (m:Option α) (Q:α→Prop):Prop:=∃x,m=some x∧Q x
theorem Post.ret {α:Type} {x:α} {Q:α→Prop} (h:Q x):Post (some x) Q:=⟨x,rfl,h⟩
theorem Post.bd {α β:Type} {m:Option α} {f:α→Option β} {Q:α→Prop} {R:β→Prop} (h:Post m Q) (k:∀x,Q x→Post (f x) R):Post (bd m f) R:=by
 obtain⟨x,e,hx⟩:=h;rw[e,Qa];exact k x hx
theorem Post.gd {α:Type} {c:Prop} [Decidable c] {m:Option α} {Q:α→Prop} (h:c) (k:Post m Q):Post (gd c m) Q:=by rwa[Qd h]
theorem Post.ite {α:Type} {c:Prop} [Decidable c] {a b:Option α} {Q:α→Prop} (k1:c→Post a Q) (k2:¬c→Post b Q):Post (if c then a else b) Q:=by
 by_cases h:c
 ·rw[if_pos h];exact k1 h
 ·rw[if_neg h];exact k2 h
theorem Post.gcall {α:Type} [Inhabited α] {c:Prop} [Decidable c] {m:Option α} {Q:α→Prop} (k1:c→Post m Q) (k2:¬c→Q default):Post (gcall c m) Q:=by
 by_cases h:c
 ·rw[Ql h];exact k1 h
 ·rw[QZ h];exact⟨_,rfl,k2 h⟩
theorem Post.mono {α:Type} {m:Option α} {Q R:α→Prop} (h:Post m Q) (k:∀x,Q x→R x):Post m R:=by
 obtain⟨x,e,hx⟩:=h;exact⟨x,e,k x hx⟩
theorem Post.lp {σ β:Type} {step:σ→Option (σ⊕β)} {s0:σ} {Q:β→Prop} (inv:σ→Prop) (meas:σ→Nat) (h0:inv s0)
  (hs:∀s,inv s→Post (step s) fun r=>match r with| .inl s'=>inv s'∧meas s'<meas s| .inr b=>Q b):Post (lp step s0) Q:=by
 have key:∀n s,meas s≤n→inv s→Post (Go.Ab.lp step s) Q:=by
  intro n
  induction n with
  |zero=>
   intro s hm hi;obtain⟨r,e,hr⟩:=hs s hi
   cases r with
   |inl s'=>exact absurd hr.2 (by omega)
   |inr b=>exact⟨b,ZN e,hr⟩
  |succ n ih=>
   intro s hm hi;obtain⟨r,e,hr⟩:=hs s hi
   cases r with
   |inl s'=>
    rw[J5 e];exact ih s' (by have:=hr.2;omega) hr.1
   |inr b=>exact⟨b,ZN e,hr⟩
 exact key (meas s0) s0 (Nat.le_refl _) h0
theorem QtP {α:Type} [Inhabited α] {p:α→Prop} {xs:List α} (h:∀x∈xs,p x) (h0:p default) (i:Nat):p (xs.getD i default):=by
 rw[List.getD_eq_getElem?_getD];rcases hx:xs[i]? with _|x
 ·exact h0
 ·exact h _ (List.mem_of_getElem? hx)
theorem QqQ {a b:Int} (ha:0≤a∧a≤4611686018427387904) (hb:0≤b∧b≤4611686018427387904):0≤bits .xor .i64 a b:=by
 unfold bits;have e1:IntKind.bits .i64=64:=rfl;have l:∀x:Int,0≤x∧x≤4611686018427387904→(BitVec.ofInt 64 x).toNat<2^63:=fun x hx=>by
  rw[BitVec.toNat_ofInt];omega
 have h:(BitVec.ofInt 64 a^^^BitVec.ofInt 64 b).toNat<2^63:=by
  rw[BitVec.toNat_xor];exact Nat.xor_lt_two_pow (l a ha) (l b hb)
 show 0≤IntKind.i64.wrap (((BitVec.ofInt 64 a^^^BitVec.ofInt 64 b).toNat:Nat):Int);rw[QC (by omega) (by omega)];omega
structure RdOk5 (r:Qyc) (k:Int):Prop where
 bytes:∀x∈r.b,Qoy x
 len:r.b.length≤2000
 p0:0≤r.p
 p1:r.p≤k
theorem QqR {r:Qyc} {n k:Int} (h:RdOk5 r k) (hk:k≤1099511627776) (hn:1≤n):Post (Q1 r n) fun x=>(0≤x.1∧x.1<n)∧RdOk5 ⟨r.b,x.2.p⟩ (k+1):=by
 obtain⟨h1,h2,h3,h4⟩:=h;unfold Q1;have e1:IntKind.i64.wrap (r.p+1)=r.p+1:=QC (by omega) (by omega);have e2:IntKind.i64.wrap (r.p+1-1)=r.p:=(QC (n:=r.p+1-1) (by omega) (by omega)).trans (by omega);have e3:IntKind.i64.wrap (r.p*7)=r.p*7:=QC (by omega) (by omega);have e4:IntKind.i64.wrap (r.p*7+3)=r.p*7+3:=QC (by omega) (by omega);have e5:IntKind.i64.wrap (r.p*29)=r.p*29:=QC (by omega) (by omega);rw[e1,e2,e3,e4,e5];have ok:RdOk5 ⟨r.b,r.p+1⟩ (k+1):=⟨h1,h2,by dsimp only;omega,by dsimp only;omega⟩;have byte:∀i:Nat,0≤r.b.getD i default∧r.b.getD i default≤255:=fun i=>QtP h1 ⟨Int.le_refl _,by decide⟩ i;have wb:∀i:Nat,IntKind.i64.wrap (r.b.getD i default)=r.b.getD i default:=fun i=>by have:=byte i;exact QC (by omega) (by omega)
 have md:∀x:Int,0≤x→0≤x.tmod n∧x.tmod n<n:=fun x hx=>⟨Int.tmod_nonneg _ hx,Int.tmod_lt_of_pos _ (by omega)⟩;refine .ite (fun _=>.ret ⟨⟨Int.le_refl _,by dsimp only;omega⟩,ok⟩) fun c1=>.ite (fun c2=>.gd ⟨h3,by simpa using c2⟩ (.gd (by omega) (.ret ⟨?_,ok⟩))) fun c2=>?_
 ·rw[wb];exact md _ (byte _).1
 ·have hl:(0:Int)<(r.b.length:Nat):=by
   have:r.b.length≠0:=fun e=>c1 (by rw[e];simp);omega
  have m1:0≤r.p.tmod (r.b.length:Nat)∧r.p.tmod (r.b.length:Nat)<(r.b.length:Nat):=⟨Int.tmod_nonneg _ h3,Int.tmod_lt_of_pos _ hl⟩;have m2:0≤(r.p*7+3).tmod (r.b.length:Nat)∧(r.p*7+3).tmod (r.b.length:Nat)<(r.b.length:Nat):=⟨Int.tmod_nonneg _ (by omega),Int.tmod_lt_of_pos _ hl⟩;refine .gd (by omega) (.gd m1 (.gd (by omega) (.gd m2 (.gd (by omega) (.gd (by decide) (.gd (by omega) (.ret ⟨?_,ok⟩)))))));have b1:=byte (r.p.tmod (r.b.length:Nat)).toNat
  have b2:=byte ((r.p*7+3).tmod (r.b.length:Nat)).toNat
  have d1:0≤r.p.tdiv (r.b.length:Nat)∧r.p.tdiv (r.b.length:Nat)≤r.p:=by
   refine⟨Int.tdiv_nonneg h3 (by omega),?_⟩;rw[Int.tdiv_eq_ediv_of_nonneg h3];exact Int.ediv_le_self _ h3
  rw[wb,wb];generalize r.b.getD (r.p.tmod (r.b.length:Nat)).toNat default=B1 at*;generalize r.b.getD ((r.p*7+3).tmod (r.b.length:Nat)).toNat default=B2 at*;generalize r.p.tdiv (r.b.length:Nat)=D1 at*;simp (disch:=omega) only[QC];have hX:0≤B1*131+B2*1117+r.p*29+D1*53∧B1*131+B2*1117+r.p*29+D1*53≤4611686018427387904:=by omega
  generalize B1*131+B2*1117+r.p*29+D1*53=X at*;have d2:0≤X.tdiv 64∧X.tdiv 64≤4611686018427387904:=by
   rw[Int.tdiv_eq_ediv_of_nonneg hX.1];omega
  rw[QC (n:=X.tdiv 64) (by omega) (by omega)];exact md _ (QqQ hX d2)
abbrev Bs:=List UInt8
def tB (s:Bt):Bs:=s.data.toList
def tS (l:Bs):Bt:=⟨l.toArray⟩
@[simp] theorem tB_tS (l:Bs):tB (tS l)=l:=by simp [tB,tS]
@[simp] theorem QoM (s:Bt):tS (tB s)=s:=by cases s; simp [tB,tS]
@[simp] theorem QnH (s:Bt):(tB s).length=s.size:=by cases s; simp [tB,ByteArray.size]
@[simp] theorem QaA (l:Bs):(tS l).size=l.length:=by simp [tS,ByteArray.size]
theorem Qsg {s t:Bt} (h:tB s=tB t):s=t:=by rw[←QoM s,h,QoM]
theorem QlJ {s t:Bs} (h:tS s=tS t):s=t:=by rw[←tB_tS s,h,tB_tS]
theorem QnI {s t:Bt}:(s==t)=true↔s=t:=by
 constructor
 ·intro h;have h1:(s.data==t.data)=true:=h;have h2:s.data=t.data:=by simpa using h1
  cases s;cases t;simp_all
 ·intro h;subst h;show(s.data==s.data)=true;simp
instance:ReflBEq Bt:=⟨QnI.2 rfl⟩
instance:LawfulBEq Bt:={eq_of_beq:=fun h=>QnI.1 h}
theorem Ju (s t:Bs):(tS s==tS t)=(s==t):=by
 rw[Bool.eq_iff_iff];simp only[beq_iff_eq];exact⟨QlJ,fun h=>h▸rfl⟩
theorem QlK (s:Bt) (i j:Nat):tB (s.extract i j)=((tB s).take j).drop i:=by
 simp[tB,ByteArray.data_extract,List.extract_eq_drop_take,List.drop_take]
theorem QtQ {l:Bs} {i:Nat} (h:i<l.length):Qah (tS l) i=((l.getD i 0).toNat:Int):=by
 unfold Qah;have hs:i<(tS l).size:=by simpa using h
 have:(tS l)[i]? =some (l.getD i 0):=by
  rw[getElem?_pos (tS l) i hs];show some (l.toArray[i]'(by simpa using h))=_;simp[List.getD_eq_getElem?_getD,h]
 rw[this]
theorem QiF {α:Type} {q:α→Bool}:∀ {l:List α} {i:Nat},i<l.length→(∀k x,k<i→l[k]? =some x→q x=true)→(∀x,l[i]? =some x→q x=false)→l.takeWhile q=l.take i
 |[],i,h,_,_=>by simp at h
 |a::r,0,_,_,h2=>by simp[List.takeWhile_cons,h2 a rfl]
 |a::r,i+1,h,h1,h2=>by
  have:=h1 0 a (by omega) rfl;simp only[List.takeWhile_cons,this,if_true,List.take_succ_cons];rw[QiF (l:=r) (i:=i) (by simpa using h) (fun k x hk hx=>h1 (k+1) x (by omega) (by simpa using hx)) fun x hx=>h2 x (by simpa using hx)]
theorem QeZ {α:Type} {q:α→Bool} {l:List α} (h:∀x∈l,q x=true):l.takeWhile q=l:=by
 induction l with
 |nil=>rfl
 |cons a r ih=>simp[List.takeWhile_cons,h a (by simp),ih fun x hx=>h x (by simp[hx])]
theorem Qeg {α:Type} {q:α→Bool}:∀ {l:List α},l.take (l.takeWhile q).length=l.takeWhile q
 |[]=>rfl
 |a::r=>by
  by_cases h:q a=true
  ·simp[List.takeWhile_cons,h,Qeg (l:=r)]
  ·simp[List.takeWhile_cons,h]
theorem Qa0 (c:UInt8):∀l:Bs,Lib.index l [c]=if c∈l then((l.takeWhile (· !=c)).length:Int) else-1
 |[]=>by simp[Lib.index]
 |b::r=>by
  have ih:=Qa0 c r;unfold Lib.index
  by_cases hb:b=c
  ·subst hb;simp[List.isPrefixOf]
  ·have h1:([c].isPrefixOf (b::r))=false:=by simp[List.isPrefixOf,Ne.symm hb]
   have h2:(b !=c)=true:=by simpa using hb
   rw[h1,ih]
   by_cases hc:c∈r
   ·have:¬((((r.takeWhile (· !=c)).length:Int))== -1)=true:=by
     rw[beq_iff_eq];omega
    rw[if_pos hc,if_neg (by decide),if_neg this,if_pos (by simp[hc])];simp[h2,List.takeWhile_cons]
   ·simp[hc,Ne.symm hb]
def Qcm (c:UInt8):Bs→List Bs
 |[]=>[[]]
 |b::r=>if b=c then []::Qcm c r else match Qcm c r with
  |[]=>[[b]]
  |w::ws=>(b::w)::ws
theorem Qmy (c:UInt8):∀l,Qcm c l≠ []
 |[]=>by simp[Qcm]
 |b::r=>by
  unfold Qcm;split
  ·simp
  ·split<;>simp
theorem QdP {c:UInt8}:∀ {l:Bs},c∉l→Qcm c l=[l]
 |[],_=>rfl
 |b::r,h=>by
  have h1:b≠c:=fun e=>h (by simp[e]);have h2:c∉r:=fun e=>h (by simp[e]);simp[Qcm,h1,QdP h2]
theorem Qe0 {c:UInt8}:∀ {a r:Bs},c∉a→Qcm c (a++c::r)=a::Qcm c r
 |[],r,_=>by simp[Qcm]
 |b::a,r,h=>by
  have h1:b≠c:=fun e=>h (by simp[e]);have h2:c∉a:=fun e=>h (by simp[e]);simp[Qcm,h1,Qe0 h2]
theorem Qjj {c:UInt8} {l:Bs} (h:c∈l):l=l.takeWhile (· !=c)++c::l.drop ((l.takeWhile (· !=c)).length+1)∧c∉l.takeWhile (· !=c):=by
 induction l with
 |nil=>simp at h
 |cons b r ih=>
  by_cases hb:b=c
  ·subst hb;simp
  ·have hc:c∈r:=by simpa[Ne.symm hb] using h
   obtain⟨h1,h2⟩:=ih hc;have hq:(b !=c)=true:=by simpa using hb
   simp only[List.takeWhile_cons,hq,if_true,List.length_cons,List.drop_succ_cons,List.cons_append];refine⟨by rw[←h1],?_⟩;simp[Ne.symm hb,h2]
theorem QnJ (c:UInt8):∀(n:Nat) (l:Bs),l.length≤n→Lib.splitK [c] 0 (Lib.count l [c]) l=Qcm c l
 |n,l,hn=>by
  by_cases hc:c∈l
  ·obtain⟨h1,h2⟩:=Qjj hc;have hi:Lib.index l [c]=((l.takeWhile (· !=c)).length:Int):=by rw[Qa0,if_pos hc]
   have hlen:(l.takeWhile (· !=c)).length+1≤l.length:=by
    have:=congrArg List.length h1;simp only[List.length_append,List.length_cons] at this;omega
   rw[Lib.count_hit (by simp) hi,Nat.add_comm 1]
   cases n with
   |zero=>simp at hn;subst hn;simp at hc
   |succ n=>
    have ih:=QnJ c n (l.drop ((l.takeWhile (· !=c)).length+1)) (by simp;omega);unfold Lib.splitK;rw[hi];have hne:¬((((l.takeWhile (· !=c)).length:Nat):Int)== -1)=true:=by rw[beq_iff_eq];omega
    rw[if_neg hne];simp only[Int.toNat_natCast,Nat.add_zero,List.length_cons,List.length_nil,Nat.zero_add];rw[ih];have ht:l.take (l.takeWhile (· !=c)).length=l.takeWhile (· !=c):=Qeg;rw[ht]
    conv=>rhs;rw[h1]
    rw[Qe0 h2]
  ·rw[Lib.count_miss (by rw[Qa0,if_neg hc]),QdP hc]
   rfl
theorem Qmz (c:UInt8) (l:Bs):QkE (tS l) (tS [c])=(Qcm c l).map tS:=by
 have h:(QkE (tS l) (tS [c])).map tB=Qcm c l:=by
  have:=Lib.splitB_data (tS [c]) 0 (Lib.countB (tS l) (tS [c])) (tS l);unfold QkE;show(Lib.splitB (tS [c]) 0 (Lib.countB (tS l) (tS [c])) (tS l)).map (fun x=>x.data.toList)=_;rw[this];have e:Lib.countB (tS l) (tS [c])=Lib.count l [c]:=by
   show Lib.count (tB (tS l)) (tB (tS [c]))=_;rw[tB_tS,tB_tS]
  rw[e];show Lib.splitK (tB (tS [c])) 0 _ (tB (tS l))=_;rw[tB_tS,tB_tS];exact QnJ c _ l (Nat.le_refl _)
 rw[←h,List.map_map];have:(tS∘tB)=id:=funext fun s=>QoM s;rw[this,List.map_id]
theorem QoN (c:UInt8) (l:Bs):Qrh (tS l) (tS [c])=if c∈l then(tS (l.takeWhile (· !=c)),tS (l.drop ((l.takeWhile (· !=c)).length+1)),true) else(tS l,tS [],false):=by
 have e1:(tS l).data.toList=l:=tB_tS l;have e2:(tS [c]).data.toList=[c]:=tB_tS [c];unfold Qrh;rw[e1,e2];unfold Lib.cut;rw[Qa0]
 by_cases hc:c∈l
 ·obtain⟨h1,h2⟩:=Qjj hc;have ht:l.take (l.takeWhile (· !=c)).length=l.takeWhile (· !=c):=Qeg;simp[hc,ht,tS]
 ·simp[hc,tS]
section
variable {α:Type} [Inhabited α]
noncomputable def QtR (pm:α→Option Bool) (a0:List α):Option Int:=
 bd (lp (σ:=Int) (β:=(Int⊕Unit)) (fun s1=>
(if(decide (s1<((a0.length:Nat):Int)))=true then
 gd ((0:Int)≤s1∧s1<((a0.length:Nat):Int))<|
 bd (pm (a0.getD s1.toNat default)) fun x6=>
(if x6=true then
 some (.inr (.inl s1))
else
 some (.inl (IntKind.i64.wrap (s1+1))))
else
 some (.inr (.inr ())))) 0) fun x4=>
(match x4 with
| .inl d7=>
 some d7
| .inr d8=>
 some (-1))
noncomputable def QuO (pm:α→Option Bool) (a0:List α):Option Bool:=
 bd (QtR pm a0) fun x1=>
 some (decide (x1≥0))
noncomputable def Qwu (pm:α→Option Bool) (a0:List α):Option (List α):=
 bd (QtR pm a0) fun x1=>
(if(x1==(-1))=true then
 some a0
else
 bd (lp (σ:=List α×Int×Int) (β:=(Nat×Int×(List α))) (fun s2=>
(if(decide (s2.2.2<((s2.1.length:Nat):Int)))=true then
 gd ((0:Int)≤s2.2.2∧s2.2.2<((s2.1.length:Nat):Int))<|
 bd (pm (s2.1.getD s2.2.2.toNat default)) fun x7=>
(if(!x7)=true then
 gd ((0:Int)≤s2.2.1∧s2.2.1<((s2.1.length:Nat):Int))<|
 some (.inl (s2.1.set s2.2.1.toNat (s2.1.getD s2.2.2.toNat default),IntKind.i64.wrap (s2.2.1+1),IntKind.i64.wrap (s2.2.2+1)))
else
 some (.inl (s2.1,s2.2.1,IntKind.i64.wrap (s2.2.2+1))))
else
 some (.inr (s2.1.length,s2.2.1,s2.1)))) (a0,x1,IntKind.i64.wrap (x1+1))) fun x5=>
 gd ((0:Int)≤x5.2.1∧x5.2.1≤((x5.1:Nat):Int)∧((x5.1:Nat):Int)≤((x5.1:Nat):Int))<|
 gd ((0:Int)≤(0:Int)∧(0:Int)≤x5.2.1∧x5.2.1≤((x5.1:Nat):Int))<|
 some ((QkT x5.2.2 x5.2.1.toNat (QhI ((x5.1:Nat):Int) x5.2.1)).take x5.2.1.toNat))
theorem JP {xs:List α} {i:Nat} (h:i<xs.length):xs.getD i default∈xs:=by
 rw[List.getD_eq_getElem?_getD,List.getElem?_eq_getElem h];exact List.getElem_mem h
theorem Qsh {pm:α→Option Bool} {p:α→Bool} {xs:List α} (hp:∀x∈xs,pm x=some (p x)) (h:xs.length≤1048576):
  QtR pm xs=some (match JA (fun i=>p (xs.getD i default)) xs.length with|some i=>(i:Int)|none=>-1):=by
 unfold QtR;rw[QaZ xs.length (fun i=>p (xs.getD i default)) (fun i=>Sum.inl (i:Int)) (.inr ()) (fun i hi=>?_) (by rw[if_neg (by simp)]),Qa]
 ·cases JA (fun i=>p (xs.getD i default)) xs.length<;>rfl
 ·rw[if_pos (by simp;omega),Qd (by omega),Int.toNat_natCast,Qm hi (by omega),hp _ (JP hi),Qa];split<;>simp_all
theorem QfL {p:α→Bool} {xs:List α}:xs.any p=(JA (fun i=>p (xs.getD i default)) xs.length).isSome:=by
 cases h:JA (fun i=>p (xs.getD i default)) xs.length with
 |none=>
  have:=Qcx h;simp only[Option.isSome_none,List.any_eq_false];intro x hx;obtain⟨i,hi,e⟩:=List.getElem_of_mem hx;have:=this i hi;rw[List.getD_eq_getElem?_getD,List.getElem?_eq_getElem hi] at this;rw[←e];simpa using this
 |some i=>
  obtain⟨h1,h2,_⟩:=Qcw h;simp only[Option.isSome_some,List.any_eq_true];exact⟨_,JP h1,h2⟩
theorem QlL {pm:α→Option Bool} {p:α→Bool} {xs:List α} (hp:∀x∈xs,pm x=some (p x)) (h:xs.length≤1048576):QuO pm xs=some (xs.any p):=by
 unfold QuO;rw[Qsh hp h,Qa,QfL]
 cases JA (fun i=>p (xs.getD i default)) xs.length with
 |none=>simp
 |some i=>simp
structure DlW (xs0:List α) (k:α→Bool) (xs:List α) (i j:Nat):Prop where
 lt:i<j
 le:j≤xs0.length
 len:xs.length=xs0.length
 take:xs.take i=(xs0.take j).filter k
 drop:∀q,j≤q→xs.getD q default=xs0.getD q default
theorem DlW.keep {xs0:List α} {k:α→Bool} {xs:List α} {i j:Nat} (h:DlW xs0 k xs i j) (hj:j<xs0.length) (hk:k (xs.getD j default)=true):DlW xs0 k (xs.set i (xs.getD j default)) (i+1) (j+1):=by
 have hd:=h.drop j (Nat.le_refl _);have hlt:=h.lt;have hl:=h.len;refine⟨by omega,hj,by simp[h.len],?_,fun q hq=>?_⟩
 ·rw[List.take_succ,List.take_set_of_le (Nat.le_refl _),h.take,List.take_succ (i:=j),List.filter_append,hd];rw[hd] at hk;have e1:(xs.set i (xs0.getD j default))[i]? =some (xs0.getD j default):=by rw[List.getElem?_set,if_pos rfl,if_pos (by omega)]
  have e2:xs0[j]? =some (xs0.getD j default):=by simp[List.getD_eq_getElem?_getD,hj]
  rw[e1,e2];show _++[xs0.getD j default]=_++([xs0.getD j default]).filter k;rw[List.filter_cons,if_pos hk]
  rfl
 ·have:(xs.set i (xs.getD j default)).getD q default=xs.getD q default:=by
   simp[List.getD_eq_getElem?_getD,List.getElem?_set,show i≠q by omega]
  rw[this];exact h.drop q (by omega)
theorem DlW.skip {xs0:List α} {k:α→Bool} {xs:List α} {i j:Nat} (h:DlW xs0 k xs i j) (hj:j<xs0.length) (hk:k (xs.getD j default)=false):DlW xs0 k xs i (j+1):=by
 have hd:=h.drop j (Nat.le_refl _);have hlt:=h.lt;rw[hd] at hk;refine⟨by omega,hj,h.len,?_,fun q hq=>h.drop q (by omega)⟩;have e2:xs0[j]? =some (xs0.getD j default):=by simp[List.getD_eq_getElem?_getD,hj]
 rw[List.take_succ,List.filter_append,←h.take,e2];show _=_++([xs0.getD j default]).filter k;rw[List.filter_cons,if_neg (by rw[hk];decide)];simp
theorem Qd5 {k:α→Bool} {xs:List α} {n:Nat} (h:∀q,q<n→q<xs.length→k (xs.getD q default)=true):(xs.take n).filter k=xs.take n:=by
 refine List.filter_eq_self.2 fun x hx=>?_;obtain⟨q,hq,e⟩:=List.getElem_of_mem hx;rw[List.length_take] at hq;have:=h q (by omega) (by omega);rw[List.getD_eq_getElem?_getD,List.getElem?_eq_getElem (by omega)] at this;rw[←e,List.getElem_take];exact this
theorem QnK {xs:List α} {i l:Nat}:(QkT xs i l).take i=xs.take i:=by
 apply List.ext_getElem?
 intro q
 by_cases hq:q<i
 ·by_cases hx:q<xs.length
  ·simp[QkT,List.getElem?_take,hq,hx,show ¬i≤q by omega,List.getD_eq_getElem?_getD]
  ·rw[List.getElem?_eq_none (by simp;omega),List.getElem?_eq_none (by simp;omega)]
 ·rw[List.getElem?_eq_none (by simp;omega),List.getElem?_eq_none (by simp;omega)]
theorem Qsi {pm:α→Option Bool} {p:α→Bool} {xs:List α} (hp:∀x∈xs,pm x=some (p x)) (h:xs.length≤1048576):Qwu pm xs=some (xs.filter fun x=>!p x):=by
 unfold Qwu;rw[Qsh hp h,Qa]
 cases hf:JA (fun i=>p (xs.getD i default)) xs.length with
 |none=>
  have:=Qcx hf;dsimp only;rw[if_pos (by decide)];have e:=Qd5 (k:=fun r=>!p r) (xs:=xs) (n:=xs.length) fun q hq _=>by simpa using this q hq
  rw[List.take_length] at e;rw[e]
 |some i=>
  obtain⟨h1,h2,h3⟩:=Qcw hf;dsimp only;rw[if_neg (by simp<;>omega)];have start:DlW xs (fun r=>!p r) xs i (i+1):=by
   refine⟨Nat.lt_succ_self _,h1,rfl,?_,fun _ _=>rfl⟩;have e2:xs[i]? =some (xs.getD i default):=by simp[List.getD_eq_getElem?_getD,h1]
   rw[List.take_succ,List.filter_append,e2,Qd5 fun q hq _=>by simpa using h3 q hq];show _=_++([xs.getD i default]).filter (fun r=>!p r);rw[List.filter_cons,if_neg (by rw[h2];decide)];simp
  have key:Post (lp (σ:=List α×Int×Int) (β:=(Nat×Int×(List α))) (fun s2=>
    (if(decide (s2.2.2<((s2.1.length:Nat):Int)))=true then
    gd ((0:Int)≤s2.2.2∧s2.2.2<((s2.1.length:Nat):Int))<|
    bd (pm (s2.1.getD s2.2.2.toNat default)) fun x7=>
    (if(!x7)=true then
    gd ((0:Int)≤s2.2.1∧s2.2.1<((s2.1.length:Nat):Int))<|
    some (.inl (s2.1.set s2.2.1.toNat (s2.1.getD s2.2.2.toNat default),IntKind.i64.wrap (s2.2.1+1),IntKind.i64.wrap (s2.2.2+1)))
    else
    some (.inl (s2.1,s2.2.1,IntKind.i64.wrap (s2.2.2+1))))
    else
    some (.inr (s2.1.length,s2.2.1,s2.1)))) (xs,(i:Int),IntKind.i64.wrap ((i:Int)+1))) fun x=>∃q:Nat,x.2.1=(q:Int)∧q≤x.1∧x.2.2.take q=xs.filter (fun r=>!p r):=by
   rw[Qm h1 (by omega)];refine .lp (fun s=>∃q j:Nat,s.2.1=(q:Int)∧s.2.2=(j:Int)∧DlW xs (fun r=>!p r) s.1 q j) (fun s=>xs.length-s.2.2.toNat) ⟨i,i+1,rfl,rfl,start⟩ fun s ⟨q,j,ep,ej,D⟩=>?_;obtain⟨ys,sp,sj⟩:=s;dsimp only at ep ej D⊢;subst ep ej;have hlt:=D.lt;have hle:=D.le;have hlen:=D.len;refine .ite (fun c=>?_) fun c=>.ret ?_
   ·have c:=of_decide_eq_true c;have hj:j<xs.length:=by omega
    refine .gd (by omega) ?_;have hpm:pm (ys.getD j default)=some (p (ys.getD j default)):=by rw[D.drop j (Nat.le_refl _)];exact hp _ (JP hj)
    rw[Int.toNat_natCast,hpm,Qa,Qm (n:=xs.length) hj (by omega)];refine .ite (fun k=>.gd (by omega) ?_) fun k=>.ret ⟨⟨q,j+1,rfl,rfl,D.skip hj (by simpa using k)⟩,by dsimp only;omega⟩;rw[Int.toNat_natCast,Qm (n:=xs.length) (by omega) (by omega)];exact .ret ⟨⟨q+1,j+1,rfl,rfl,D.keep hj k⟩,by dsimp only;omega⟩
   ·have:j=xs.length:=by
     simp only[decide_eq_true_eq] at c;omega
    refine⟨q,rfl,by dsimp only;omega,?_⟩;have t:=D.take;rw[this,List.take_length] at t;exact t
  obtain⟨x,e,q,e1,e2,e3⟩:=key;refine(congrArg (fun m=>bd m _) e).trans ?_;rw[Qa,e1,Qd (by omega),Qd (by omega),Int.toNat_natCast,QnK,e3]
end
def iB (b:UInt8):Int:=(b.toNat:Int)
theorem QtS (b:UInt8):0≤iB b∧iB b≤255:=by
 have:=b.toNat_lt;unfold iB;omega
theorem QwX {a b:UInt8} (h:iB a=iB b):a=b:=by
 unfold iB at h;exact UInt8.toNat_inj.1 (by omega)
theorem QlM {a b:UInt8}:(iB a==iB b)=(a==b):=by
 rw[Bool.eq_iff_iff];simp only[beq_iff_eq];exact⟨QwX,fun h=>h▸rfl⟩
theorem Qe1 {l:Bs} {i:Nat} (h:i<l.length):Qah (tS l) i=iB (l.getD i 0):=QtQ h
theorem QpI:∀(ns:List Int) (s:Bt),ns.foldl (fun r n=>r.push (UInt8.ofNat n.toNat)) s=tS (tB s++ns.map fun n=>UInt8.ofNat n.toNat)
 |[],s=>by simp
 |n::r,s=>by
  rw[List.foldl_cons,QpI r]
  congr 1
  simp[tB,ByteArray.push]
theorem QtT (ns:List Int):Qff ns=tS (ns.map fun n=>UInt8.ofNat n.toNat):=by
 unfold Qff;rw[QpI]
 rfl
theorem Qkh (w:Bs):Qff (Qn6 (w.map iB).length (rows Q3 (w.map iB)))=tS w:=by
 rw[QtT]
 congr 1
 apply List.ext_getElem?
 intro i
 by_cases h:i<w.length
 ·simp[Qn6,Qvf,h,iB,List.getD_eq_getElem?_getD]
 ·simp[Qn6,h]
def QaB (l:Bs):List Bs:=(Qcm 32 l).filter fun w=>!w.isEmpty
def okB (b:UInt8):Bool:=decide (32≤b.toNat)&&decide (b.toNat≤126)
def stripL (l:Bs):Bs:=l.takeWhile (· !=35)
def QwY (ws:List Bs):Bool:=decide (ws.length≤8)&&ws.all fun w=>decide (w.length≤24)
def Qe2 (l:Bs):Option (List Bs):=if(stripL l).all okB=true∧QwY (QaB (stripL l))=true then some (QaB (stripL l)) else none
theorem QqS {α:Type} (l:List α) (d:α) (p:α→Bool):(match JA (fun i=>p (l.getD i d)) l.length with|some i=>l.take i|none=>l)=l.takeWhile fun x=>!p x:=by
 cases h:JA (fun i=>p (l.getD i d)) l.length with
 |none=>
  have:=Qcx h;refine(QeZ fun x hx=>?_).symm;obtain⟨i,hi,e⟩:=List.getElem_of_mem hx;have:=this i hi;rw[List.getD_eq_getElem?_getD,List.getElem?_eq_getElem hi,Option.getD_some,e] at this;simp[this]
 |some i=>
  obtain⟨h1,h2,h3⟩:=Qcw h;refine(QiF h1 (fun k x hk hx=>?_) fun x hx=>?_).symm
  ·have:=h3 k hk;rw[List.getD_eq_getElem?_getD,hx,Option.getD_some] at this;simp[this]
  ·rw[List.getD_eq_getElem?_getD,hx,Option.getD_some] at h2;simp[h2]
theorem QvN {l:Bs} (h:l.length≤1073741824):QbS (tS l)=some (tS (stripL l)):=by
 unfold QbS;rw[QaZ l.length (fun i=>l.getD i 0==35) (fun i=>Sum.inl ((tS l).extract 0 i)) (.inr ()) (fun i hi=>?_) (by rw[if_neg (by simp)]),Qa]
 ·have e:=QqS l 0 (fun x=>x==35);have e2:stripL l=l.takeWhile fun x=>!(x==35):=rfl;rw[e2,←e]
  cases hf:JA (fun i=>l.getD i 0==35) l.length with
  |none=>rfl
  |some i=>
   refine congrArg some (Qsg ?_);rw[QlK,tB_tS,tB_tS,List.drop_zero]
 ·rw[if_pos (by simp;omega),Qd (by simp;omega),Int.toNat_natCast,Qe1 hi,Qm hi (by omega)];have e:(iB (l.getD i 0)==35)=(l.getD i 0==35):=QlM (b:=35);rw[e,Qd (by simp;omega)];split<;>simp_all
def Qsj:Bs→List Bs→Bs→Option (List Bs)
 |w,out,[]=>if w.length=0 then some out else if out.length+1>8 then none else some (out++[w])
 |w,out,c::r=>if okB c=false then none else if c≠32 then(if w.length+1>24 then none else Qsj (w++[c]) out r)
   else if w.length=0 then Qsj w out r else if out.length+1>8 then none else Qsj [] (out++[w]) r
theorem Qsk {c:UInt8} {a:Bs}:c∉a→∀r,Qcm c (a++r)=match Qcm c r with|[]=>[a]|x::xs=>(a++x)::xs:=by
 induction a with
 |nil=>
  intro _ r
  cases h:Qcm c r with
  |nil=>exact absurd h (Qmy c r)
  |cons x xs=>simp[h]
 |cons b a ih=>
  intro h r;have h1:b≠c:=fun e=>h (by simp[e]);have h2:c∉a:=fun e=>h (by simp[e]);rw[List.cons_append,Qcm,if_neg h1,ih h2 r]
  cases h:Qcm c r with
  |nil=>exact absurd h (Qmy c r)
  |cons x xs=>simp
theorem QoO {w:Bs} (h:(32:UInt8)∉w):QaB w=if w.isEmpty then [] else [w]:=by
 unfold QaB;rw[QdP h]
 cases w<;>rfl
theorem QnL (r:Bs):QaB (32::r)=QaB r:=by
 unfold QaB;rw[Qcm,if_pos rfl]
 rfl
theorem QqT {w:Bs} (h:(32:UInt8)∉w) (hw:w.isEmpty=false) (r:Bs):QaB (w++32::r)=w::QaB r:=by
 unfold QaB;rw[Qe0 h,List.filter_cons,if_pos (by simp[hw])]
theorem QoP {w:Bs} (h:(32:UInt8)∉w) (hw:w.isEmpty=false) (r:Bs):∃x∈QaB (w++r),w.length≤x.length:=by
 unfold QaB;rw[Qsk h]
 cases hs:Qcm 32 r with
 |nil=>exact absurd hs (Qmy _ r)
 |cons x xs=>
  refine⟨w++x,List.mem_filter.2 ⟨by simp,?_⟩,by simp⟩
  cases w with
  |nil=>simp at hw
  |cons _ _=>rfl
theorem QmA:∀(r w:Bs) (out:List Bs),(32:UInt8)∉w→w.length≤24→out.length≤8→
  Qsj w out r=if r.all okB=true∧(out++QaB (w++r)).length≤8∧(QaB (w++r)).all (fun w=>decide (w.length≤24))=true then some (out++QaB (w++r)) else none
 |[],w,out,h,hw,ho=>by
  rw[Qsj,List.append_nil,QoO h]
  cases w with
  |nil=>simp[ho]
  |cons b w=>
   have hl:w.length+1≤24:=by simpa using hw
   by_cases h8:out.length+1>8
   ·have:¬out.length+1≤8:=by omega
    simp[h8,this]
   ·have:out.length+1≤8:=by omega
    simp[h8,this,hl]
 |c::r,w,out,h,hw,ho=>by
  rw[Qsj]
  by_cases hc:okB c=false
  ·simp[hc]
  have hc':okB c=true:=by simpa using hc
  rw[if_neg hc]
  by_cases h32:c=32
  ·subst h32;rw[if_neg (by simp)]
   cases hwe:w with
   |nil=>
    rw[if_pos (c:=([]:Bs).length=0) rfl,QmA r [] out (by simp) (by simp) ho,List.nil_append,List.nil_append,QnL];simp[hc']
   |cons b w'=>
    rw[←hwe];have hne:w.isEmpty=false:=by rw[hwe];rfl
    rw[if_neg (by rw[hwe];simp),QqT h hne]
    by_cases h8:out.length+1>8
    ·rw[if_pos h8,if_neg];rintro⟨_,h2,_⟩;simp at h2;omega
    ·rw[if_neg h8,QmA r [] (out++[w]) (by simp) (by simp) (by simp;omega),List.nil_append];have hdec:decide (w.length≤24)=true:=decide_eq_true hw;simp only[List.all_cons,hc',hdec,Bool.true_and,List.append_assoc,List.singleton_append]
  ·rw[if_pos h32];have hnm:(32:UInt8)∉w++[c]:=by simp[h,Ne.symm h32]
   have e:w++c::r=(w++[c])++r:=by simp
   by_cases h24:w.length+1>24
   ·rw[if_pos h24,if_neg];rintro⟨_,_,h3⟩;obtain⟨x,hx,hl⟩:=QoP hnm (by simp) r;rw[e] at h3;have:=List.all_eq_true.1 h3 x hx;simp at this hl;omega
   ·rw[if_neg h24,QmA r (w++[c]) out hnm (by simp;omega) ho,e];simp[hc']
theorem QmB {l:Bs} (h:l.length≤1073741824):JB (tS l)=some (match Qe2 l with|some ws=>(ws.map tS,true)|none=>([],false)):=by
 unfold JB;rw[QvN h,Qa];have hlen:(stripL l).length≤1073741824:=Nat.le_trans (List.Sublist.length_le (List.takeWhile_sublist _)) h;have hc:Qe2 l=Qsj [] [] (stripL l):=by
  rw[QmA _ _ _ (by simp) (by simp) (by simp)];unfold Qe2 QwY;simp only[List.nil_append,Bool.and_eq_true,decide_eq_true_eq]
 rw[hc];generalize stripL l=t at hlen;have key:∀(k i:Nat) (w:Bs) (out:List Bs),i+k=t.length→w.length≤24→out.length≤8→
   lp (σ:=List Int×List Bt×Int) (β:=(Unit⊕(Nat×(List Bt)))) (fun s2=>
(if(decide (s2.2.2≤(((tS t).size:Nat):Int)))=true then
 gd ((decide (s2.2.2<(((tS t).size:Nat):Int)))=true→((0:Int)≤s2.2.2∧s2.2.2<(((tS t).size:Nat):Int)))<|
 gd ((decide ((Qah (tS t) s2.2.2.toNat)<32))=false→((decide (s2.2.2<(((tS t).size:Nat):Int)))=true→((0:Int)≤s2.2.2∧s2.2.2<(((tS t).size:Nat):Int))))<|
(if((decide (s2.2.2<(((tS t).size:Nat):Int)))&&((decide ((Qah (tS t) s2.2.2.toNat)<32))||(decide ((Qah (tS t) s2.2.2.toNat)>126))))=true then
 some (.inr (.inl ()))
else
 gd ((decide (s2.2.2<(((tS t).size:Nat):Int)))=true→((0:Int)≤s2.2.2∧s2.2.2<(((tS t).size:Nat):Int)))<|
(if((decide (s2.2.2<(((tS t).size:Nat):Int)))&&((Qah (tS t) s2.2.2.toNat) !=32))=true then
 gd ((0:Int)≤s2.2.2∧s2.2.2<(((tS t).size:Nat):Int))<|
 gd (((s2.1.length)+(([(Qah (tS t) s2.2.2.toNat)]:List Int).length))*(1+1)≤70368744177664)<|
(if(decide ((((s2.1++([(Qah (tS t) s2.2.2.toNat)]:List Int)).length:Nat):Int)>24))=true then
 some (.inr (.inl ()))
else
 some (.inl ((s2.1++([(Qah (tS t) s2.2.2.toNat)]:List Int)),s2.2.1,IntKind.i64.wrap (s2.2.2+1))))
else
(if(decide (((s2.1.length:Nat):Int)>0))=true then
 gd (((s2.2.1.length)+(([(Qff (Qn6 s2.1.length (rows Q3 s2.1)))]:List Bt).length))*(16+1)≤70368744177664)<|
(if(decide ((((s2.2.1++([(Qff (Qn6 s2.1.length (rows Q3 s2.1)))]:List Bt)).length:Nat):Int)>8))=true then
 some (.inr (.inl ()))
else
 some (.inl (([]:List Int),(s2.2.1++([(Qff (Qn6 s2.1.length (rows Q3 s2.1)))]:List Bt)),IntKind.i64.wrap (s2.2.2+1))))
else
 some (.inl (s2.1,s2.2.1,IntKind.i64.wrap (s2.2.2+1))))))
else
 some (.inr (.inr (s2.2.1.length,s2.2.1))))) (w.map iB,out.map tS,(i:Int))=some (match Qsj w out (t.drop i) with|some o=>.inr (o.length,o.map tS)|none=>.inl ()):=by
  intro k
  induction k with
  |zero=>
   intro i w out hi hw ho;have hi:i=t.length:=by omega
   subst hi;have hd:t.drop t.length=[]:=by simp
   rw[hd,Qsj];have hstop:∀(u:List Int) (v:List Bt),IntKind.i64.wrap ((t.length:Int)+1)=((t.length+1:Nat):Int):=fun _ _=>Qm (n:=t.length+1) (by omega) (by omega);have hnot:decide ((t.length:Int)<(((tS t).size:Nat):Int))=false:=by simp
   have hle:decide ((t.length:Int)≤(((tS t).size:Nat):Int))=true:=by simp
   by_cases hw0:w.length=0
   ·rw[if_pos hw0];have hwn:w=[]:=List.eq_nil_of_length_eq_zero hw0;subst hwn;rw[J5 (s':=(([]:Bs).map iB,out.map tS,((t.length+1:Nat):Int)))]
    ·refine ZN ?_;have:decide (((t.length+1:Nat):Int)≤(((tS t).size:Nat):Int))=false:=by simp<;>omega
     simp only[this,Bool.false_eq_true,if_false,List.length_map]
    ·simp only[hle,hnot,if_true,Bool.false_and,Bool.false_eq_true,if_false];rw[Qd (by simp),Qd (by simp),Qd (by simp)];simp[hstop [] []]
   ·rw[if_neg hw0]
    by_cases h8:out.length+1>8
    ·rw[if_pos h8];refine ZN ?_;simp only[hle,hnot,if_true,Bool.false_and,Bool.false_eq_true,if_false];rw[Qd (by simp),Qd (by simp),Qd (by simp),if_pos (by simp;omega),Qd (by simp;omega),if_pos (by simp;omega)]
    ·rw[if_neg h8,J5 (s':=(([]:List Int),(out++[w]).map tS,((t.length+1:Nat):Int)))]
     ·refine ZN ?_;have:decide (((t.length+1:Nat):Int)≤(((tS t).size:Nat):Int))=false:=by simp<;>omega
      simp only[this,Bool.false_eq_true,if_false,List.length_map]
     ·simp only[hle,hnot,if_true,Bool.false_and,Bool.false_eq_true,if_false];rw[Qd (by simp),Qd (by simp),Qd (by simp),if_pos (by simp;omega),Qd (by simp;omega),if_neg (by simp;omega),Qkh,hstop [] []];simp
  |succ k ih=>
   intro i w out hi hw ho;have hil:i<t.length:=by omega
   have hd:t.drop i=t.getD i 0::t.drop (i+1):=by
    rw[List.drop_eq_getElem_cons hil,List.getD_eq_getElem?_getD,List.getElem?_eq_getElem hil];rfl
   have hlt:decide ((i:Int)<(((tS t).size:Nat):Int))=true:=by simp;omega
   have hle:decide ((i:Int)≤(((tS t).size:Nat):Int))=true:=by simp;omega
   have hsz:(0:Int)≤i∧(i:Int)<(((tS t).size:Nat):Int):=by simp;omega
   have hws:IntKind.i64.wrap ((i:Int)+1)=((i+1:Nat):Int):=Qm hil (by omega);rw[hd,Qsj];generalize hcg:t.getD i 0=c;have hat:Qah (tS t) (i:Int).toNat=iB c:=by rw[Int.toNat_natCast,Qe1 hil,hcg]
   have hok:(decide (iB c<32)||decide (iB c>126))=!okB c:=by
    unfold okB iB
    by_cases h1:32≤c.toNat<;>by_cases h2:c.toNat≤126<;>simp[h1,h2]<;>omega
   have h32:(iB c !=32)=(c !=32):=by
    have:(iB c==32)=(c==32):=QlM (b:=32);simp only[bne,this]
   by_cases hc:okB c=false
   ·rw[if_pos hc];refine ZN ?_;simp only[hle,hlt,if_true,hat,Bool.true_and,hok,hc];rw[Qd (fun _=>hsz),Qd (fun _ _=>hsz),if_pos (by simp)]
   have hc':okB c=true:=by simpa using hc
   rw[if_neg hc]
   by_cases hcn:c=32
   ·rw[if_neg (by simp[hcn])];have hb:(c !=32)=false:=by simp[hcn]
    by_cases hw0:w.length=0
    ·rw[if_pos hw0,←ih (i+1) w out (by omega) hw ho];refine J5 ?_;simp only[hle,hlt,if_true,hat,Bool.true_and,hok,hc',h32,hb];rw[Qd (fun _=>hsz),Qd (fun _ _=>hsz),if_neg (by simp),Qd (fun _=>hsz),if_neg (by simp),if_neg (by simp[hw0]),hws]
    ·rw[if_neg hw0]
     by_cases h8:out.length+1>8
     ·rw[if_pos h8];refine ZN ?_;simp only[hle,hlt,if_true,hat,Bool.true_and,hok,hc',h32,hb];rw[Qd (fun _=>hsz),Qd (fun _ _=>hsz),if_neg (by simp),Qd (fun _=>hsz),if_neg (by simp),if_pos (by simp;omega),Qd (by simp;omega),if_pos (by simp;omega)]
     ·rw[if_neg h8,←ih (i+1) [] (out++[w]) (by omega) (by simp) (by simp;omega)];refine J5 ?_;simp only[hle,hlt,if_true,hat,Bool.true_and,hok,hc',h32,hb];rw[Qd (fun _=>hsz),Qd (fun _ _=>hsz),if_neg (by simp),Qd (fun _=>hsz),if_neg (by simp),if_pos (by simp;omega),Qd (by simp;omega),if_neg (by simp;omega),Qkh,hws];simp
   ·rw[if_pos hcn];have hb:(c !=32)=true:=by simp[hcn]
    by_cases h24:w.length+1>24
    ·rw[if_pos h24];refine ZN ?_;simp only[hle,hlt,if_true,hat,Bool.true_and,hok,hc',h32,hb];rw[Qd (fun _=>hsz),Qd (fun _ _=>hsz),if_neg (by simp),Qd (fun _=>hsz),Qd hsz,Qd (by simp;omega),if_pos (by simp;omega)]
    ·rw[if_neg h24,←ih (i+1) (w++[c]) out (by omega) (by simp;omega) ho];refine J5 ?_;simp only[hle,hlt,if_true,hat,Bool.true_and,hok,hc',h32,hb];rw[Qd (fun _=>hsz),Qd (fun _ _=>hsz),if_neg (by simp),Qd (fun _=>hsz),Qd hsz,Qd (by simp;omega),if_neg (by simp;omega),hws];simp
 have k0:=key t.length 0 [] [] (by omega) (by simp) (by simp);rw[List.drop_zero] at k0;refine(congrArg (fun m=>bd m _) k0).trans ?_;rw[Qa]
 cases Qsj [] [] t<;>rfl
def Qjk (b:UInt8):Bool:=decide (48≤b.toNat)&&decide (b.toNat≤57)
def QoQ (n:Nat) (w:Bs):Nat:=w.foldl (fun n b=>n*10+(b.toNat-48)) n
def valL (w:Bs):Nat:=QoQ 0 w
def QkH (w:Bs):Bool:=!w.isEmpty&&w.all Qjk&&(decide (w.length=1)||w.getD 0 0 !=48)
def inI (a lo hi:Int):Bool:=decide (lo≤a)&&decide (a≤hi)
theorem QfM {a lo hi:Int}:inI a lo hi=true↔lo≤a∧a≤hi:=by simp[inI]
def Qco (w:Bs):Int:=if QkH w=true∧w.length≤6 then(valL w:Int) else-1
def Qk4 (w:Bs):Int:=if QkH w=true∧valL w<9223372036854775808 then(valL w:Int) else-1
def isN (w:Bs) (lo hi:Int):Bool:=inI (Qco w) lo hi
theorem QtU (n:Nat) (w:Bs) (b:UInt8):QoQ n (w++[b])=QoQ n w*10+(b.toNat-48):=by simp[QoQ]
theorem Qjl (w:Bs) (b:UInt8):valL (w++[b])=valL w*10+(b.toNat-48):=QtU 0 w b
theorem QoR:∀(w:Bs) (n:Nat),n≤QoQ n w
 |[],n=>Nat.le_refl _
 |b::r,n=>by
  have:=QoR r (n*10+(b.toNat-48));show n≤QoQ (n*10+(b.toNat-48)) r;omega
theorem QoS:∀(n:Nat) (w:Bs),w.length=n→w.all Qjk=true→valL w<10^n
 |0,w,h,_=>by
  have:w=[]:=List.eq_nil_of_length_eq_zero h;subst this;decide
 |n+1,w,h,hd=>by
  rcases List.eq_nil_or_concat w with rfl|⟨u,b,e⟩
  ·simp at h
  ·rw[List.concat_eq_append] at e;subst e;simp at h;simp only[List.all_append,Bool.and_eq_true,List.all_cons,List.all_nil,Bool.and_true] at hd;have ih:=QoS n u h hd.1;have hb:=hd.2;simp only[Qjk,Bool.and_eq_true,decide_eq_true_eq] at hb;rw[Qjl,Nat.pow_succ];omega
theorem Qsl {b:UInt8} (h:48≤b.toNat∧b.toNat≤57):Qjk b=true:=by simp[Qjk,h]
theorem QtV {n:Nat} (h:n<256):(UInt8.ofNat n).toNat=n:=by
 simp[UInt8.toNat_ofNat,Nat.mod_eq_of_lt h]
theorem Qsm:∀(n:Nat),(Lib.decDigits n).all Qjk=true∧valL (Lib.decDigits n)=n∧Lib.decDigits n≠ []∧(0<n→(Lib.decDigits n).getD 0 0≠48)∧(n<10→(Lib.decDigits n).length=1)
 |n=>by
  unfold Lib.decDigits
  by_cases h:n<10
  ·rw[dif_pos h];have e:=QtV (n:=48+n) (by omega);refine⟨?_,?_,by simp,fun h0 h1=>?_,fun _=>rfl⟩
   ·simp only[List.all_cons,List.all_nil,Bool.and_true];exact Qsl (by rw[e];omega)
   ·show 0*10+((UInt8.ofNat (48+n)).toNat-48)=n;rw[e];omega
   ·have:=congrArg UInt8.toNat h1;rw[List.getD_cons_zero,e] at this;have h48:(48:UInt8).toNat=48:=rfl;omega
  ·rw[dif_neg h];have hlt:n/10<n:=by omega
   obtain⟨h1,h2,h3,h4,_⟩:=Qsm (n/10);have e:=QtV (n:=48+n%10) (by omega);refine⟨?_,?_,by simp,fun _=>?_,fun h'=>absurd h' h⟩
   ·rw[List.all_append,h1];simp only[List.all_cons,List.all_nil,Bool.and_true,Bool.true_and];exact Qsl (by rw[e];omega)
   ·rw[Qjl,h2,e];omega
   ·have:=h4 (by omega)
    cases hd:Lib.decDigits (n/10) with
    |nil=>exact absurd hd h3
    |cons x xs=>rw[hd] at this;simpa using this
termination_by n=>n
theorem QvO (n:Nat):QkH (Lib.decDigits n)=true:=by
 obtain⟨h1,h2,h3,h4,h5⟩:=Qsm n;unfold QkH;rw[h1];have e:(Lib.decDigits n).isEmpty=false:=by cases hd:Lib.decDigits n with|nil=>exact absurd hd h3|cons _ _=>rfl
 rw[e]
 by_cases h:n<10
 ·simp[h5 h]
 ·have hb:((Lib.decDigits n).getD 0 0 !=48)=true:=by rw[bne_iff_ne];exact h4 (by omega)
  rw[hb];simp
theorem Qsn {u:Bs} {b:UInt8} (hu:u≠ []) (h:QkH (u++[b])=true):QkH u=true∧Qjk b=true∧u.getD 0 0≠48:=by
 simp only[QkH,Bool.and_eq_true,List.all_append,List.all_cons,List.all_nil,Bool.and_true] at h;obtain⟨⟨_,h1,h2⟩,h3⟩:=h;have hlen:¬(u++[b]).length=1:=by
  cases u with|nil=>exact absurd rfl hu|cons _ _=>simp
 have hg:(u++[b]).getD 0 0=u.getD 0 0:=by cases u with|nil=>exact absurd rfl hu|cons _ _=>simp
 rw[hg] at h3;have h4:u.getD 0 0≠48:=by
  simp only[decide_eq_false hlen,Bool.false_or] at h3;simpa using h3
 refine⟨?_,h2,h4⟩;unfold QkH;rw[h1]
 cases u with
 |nil=>exact absurd rfl hu
 |cons x xs=>simp at h4⊢;simp[h4]
theorem Qso {u:Bs} (hu:u≠ []) (hd:u.all Qjk=true) (h:u.getD 0 0≠48):1≤valL u:=by
 cases u with
 |nil=>exact absurd rfl hu
 |cons x xs=>
  simp only[List.all_cons,Bool.and_eq_true,Qjk,decide_eq_true_eq] at hd;have hx:x.toNat≠48:=fun e=>h (by simp;exact UInt8.toNat_inj.1 e);have:=QoR xs (0*10+(x.toNat-48));show 1≤QoQ (0*10+(x.toNat-48)) xs;omega
theorem QbQ {w:Bs} (h:QkH w=true):w.all Qjk=true∧w≠ []:=by
 simp only[QkH,Bool.and_eq_true] at h;refine⟨h.1.2,fun e=>?_⟩;subst e;simp at h
theorem QlN:∀(n:Nat) (w:Bs),w.length=n→QkH w=true→Lib.decDigits (valL w)=w
 |n,w,hn,h=>by
  rcases List.eq_nil_or_concat w with rfl|⟨u,b,e⟩
  ·simp[QkH] at h
  ·rw[List.concat_eq_append] at e;subst e
   by_cases hu:u=[]
   ·subst hu;have hd:=(QbQ h).1;simp only[List.nil_append,List.all_cons,List.all_nil,Bool.and_true,Qjk,Bool.and_eq_true,decide_eq_true_eq] at hd;have e:valL ([]++[b])=b.toNat-48:=by simp[valL,QoQ]
    rw[e,Lib.decDigits,dif_pos (by omega)];show [_]=[b]
    congr 1
    apply UInt8.toNat_inj.1
    rw[QtV (by have:=b.toNat_lt;omega)];omega
   ·obtain⟨h1,h2,h3⟩:=Qsn hu h;have hlen:u.length<n:=by simp at hn;omega
    have ih:=QlN u.length u rfl h1;have hp:=Qso hu (QbQ h1).1 h3;simp only[Qjk,Bool.and_eq_true,decide_eq_true_eq] at h2;rw[Qjl,Lib.decDigits,dif_neg (by omega)];have e1:(valL u*10+(b.toNat-48))/10=valL u:=by omega
    have e2:(valL u*10+(b.toNat-48))%10=b.toNat-48:=by omega
    rw[e1,e2,ih]
    congr 1
    show [_]=[b]
    congr 1
    apply UInt8.toNat_inj.1
    rw[QtV (by have:=b.toNat_lt;omega)];omega
termination_by n=>n
theorem QvP {w:Bs} (h:QkH w=true) (h2:2≤w.length):10^(w.length-1)≤valL w:=by
 have key:∀(n:Nat) (w:Bs),w.length=n+1→w.all Qjk=true→w.getD 0 0≠48→10^n≤valL w:=by
  intro n
  induction n with
  |zero=>intro w hw hd h0;have:=Qso (u:=w) (by intro e;subst e;simp at hw) hd h0;simpa using this
  |succ n ih=>
   intro w hw hd h0;rcases List.eq_nil_or_concat w with rfl|⟨u,b,e⟩
   ·simp at hw
   ·rw[List.concat_eq_append] at e;subst e;simp at hw;simp only[List.all_append,Bool.and_eq_true] at hd;have hu:u≠ []:=by intro e;subst e;simp at hw
    have hg:(u++[b]).getD 0 0=u.getD 0 0:=by cases u with|nil=>exact absurd rfl hu|cons _ _=>simp
    rw[hg] at h0;have:=ih u (by omega) hd.1 h0;rw[Qjl,Nat.pow_succ];omega
 obtain⟨h3,_⟩:=QbQ h;have h0:w.getD 0 0≠48:=by
  simp only[QkH,Bool.and_eq_true] at h;have:=h.2;rw[decide_eq_false (by omega:¬w.length=1),Bool.false_or] at this;simpa using this
 exact key (w.length-1) w (by omega) h3 h0
theorem QtW {w:Bs} (h:QkH w=true) (hv:valL w<1000000):w.length≤6:=by
 rcases Nat.lt_or_ge w.length 7 with h7|h7
 ·omega
 ·have:=QvP h (by omega);have h6:10^6≤10^(w.length-1):=Nat.pow_le_pow_right (by omega) (by omega);omega
theorem QpJ:∀(w:Bs) (acc:Nat),w.all Qjk=true→QoQ acc w<9223372036854775808→Lib.parseUint10 acc w=.ok (QoQ acc w)
 |[],acc,_,_=>rfl
 |c::r,acc,hd,hv=>by
  simp only[List.all_cons,Bool.and_eq_true] at hd;have hc:=hd.1;simp only[Qjk,Bool.and_eq_true,decide_eq_true_eq] at hc;have hv':QoQ (acc*10+(c.toNat-48)) r<9223372036854775808:=hv;have hle:=QoR r (acc*10+(c.toNat-48));unfold Lib.parseUint10;rw[if_pos hc,if_neg (by omega),if_neg (by omega)];exact QpJ r _ hd.2 hv'
theorem QvQ {w:Bs} (h:QkH w=true) (hv:valL w<9223372036854775808):Lib.atoiAll w=.ok (valL w:Int):=by
 obtain⟨hd,hne⟩:=QbQ h
 cases w with
 |nil=>exact absurd rfl hne
 |cons c r=>
  have hc:Qjk c=true:=by simp only[List.all_cons,Bool.and_eq_true] at hd;exact hd.1
  simp only[Qjk,Bool.and_eq_true,decide_eq_true_eq] at hc;unfold Lib.atoiAll;have h1:¬(c.toNat=43∨c.toNat=45):=by omega
  have h2:¬c.toNat=45:=by omega
  have hp:Lib.parseMag (c::r)=.ok (valL (c::r)):=by
   unfold Lib.parseMag;rw[if_neg (by simp)];exact QpJ _ _ hd hv
  have h3:(if c.toNat=43∨c.toNat=45 then r else c::r)=c::r:=if_neg h1;simp only[h3];rw[hp];simp only[h2,not_false_iff,true_and,false_and,if_false];rw[if_neg (by omega)]
theorem QvR (w:Bs):Qwo (tS w)=Qk4 w:=by
 have e1:(tS w).data.toList=w:=tB_tS w;unfold Qwo Qk4;rw[e1]
 by_cases hc:QkH w=true∧valL w<9223372036854775808
 ·rw[if_pos hc,QvQ hc.1 hc.2];have:Ql1 (valL w:Int)=tS w:=by
   unfold Ql1 Lib.itoa;rw[if_neg (by omega),Int.toNat_natCast,QlN _ w rfl hc.1]
   rfl
  dsimp only;rw[if_neg];rintro(h|h)
  ·omega
  ·exact h this
 ·rw[if_neg hc]
  cases ha:Lib.atoiAll w with
  |ok v=>
   by_cases hq:v<0∨Ql1 v≠tS w
   ·simp only[if_pos hq]
   ·exfalso;have hv:0≤v:=by have:=fun h=>hq (.inl h);omega
    have he:Ql1 v=tS w:=Decidable.byContradiction fun h=>hq (.inr h);have hw:w=Lib.decDigits v.toNat:=by
     have:tS (Lib.itoa v)=tS w:=he;have:=QlJ this;rw[←this];unfold Lib.itoa;rw[if_neg (by omega)]
    have hf:=QmY ha;refine hc ⟨?_,?_⟩
    ·rw[hw];exact QvO _
    ·rw[hw,(Qsm _).2.1];omega
  |_=>rfl
theorem QpK {w:Bs} (h:w.length≤6):Qk4 w=Qco w:=by
 unfold Qk4 Qco
 by_cases hc:QkH w=true
 ·have:=QoS w.length w rfl (QbQ hc).1;have h6:10^w.length≤10^6:=Nat.pow_le_pow_right (by omega) h;rw[if_pos ⟨hc,by omega⟩,if_pos ⟨hc,h⟩]
 ·rw[if_neg (fun h=>hc h.1),if_neg (fun h=>hc h.1)]
theorem QoT {w:Bs} {lo hi:Int} (h0:0≤lo) (h1:hi≤999999):inI (Qk4 w) lo hi=inI (Qco w) lo hi∧(inI (Qk4 w) lo hi=true→Qk4 w=Qco w):=by
 by_cases hc:QkH w=true
 ·by_cases hv:valL w<1000000
  ·have hs:=QtW hc hv;rw[QpK hs];exact⟨rfl,fun _=>rfl⟩
  ·have e1:inI (Qk4 w) lo hi=false:=by
    unfold Qk4 inI;split<;>simp<;>omega
   have e2:inI (Qco w) lo hi=false:=by
    have:¬w.length≤6:=fun h=>by
     have:=QoS w.length w rfl (QbQ hc).1;have h6:10^w.length≤10^6:=Nat.pow_le_pow_right (by omega) h;omega
    unfold Qco inI;rw[if_neg (fun h=>this h.2)];simp;omega
   rw[e1,e2];exact⟨rfl,fun h=>by cases h⟩
 ·have e1:Qk4 w=-1:=by unfold Qk4;rw[if_neg (fun h=>hc h.1)]
  have e2:Qco w=-1:=by unfold Qco;rw[if_neg (fun h=>hc h.1)]
  rw[e1,e2];exact⟨rfl,fun _=>rfl⟩
theorem QmC (b:UInt8):IntKind.i64.wrap (iB b)=iB b:=by
 have:=QtS b;exact QC (by omega) (by omega)
theorem QtX (b:UInt8) {lo hi:Nat}:inI (iB b) lo hi=(decide (lo≤b.toNat)&&decide (b.toNat≤hi)):=by
 unfold inI iB;rw[Bool.eq_iff_iff];simp only[Bool.and_eq_true,decide_eq_true_eq];omega
theorem Qf5 (c:UInt8):∀l,(Qcm c l).length≤l.length+1
 |[]=>by simp[Qcm]
 |b::r=>by
  have ih:=Qf5 c r;unfold Qcm;split
  ·simp;omega
  ·split
   ·simp
   ·rename_i h;rw[h] at ih;simp at ih⊢;omega
theorem QvS (c:UInt8) (l:Bs):(Qrh (tS l) (tS [c])).1=tS (l.takeWhile (· !=c)):=by
 rw[QoN]
 by_cases h:c∈l
 ·rw[if_pos h]
 ·rw[if_neg h,QeZ];intro x hx;simp only[bne_iff_ne];exact fun e=>h (e▸hx)
theorem Qsp {t:Bs} {p:UInt8→Bool}:t.all p=(JA (fun i=>!p (t.getD i 0)) t.length).isNone:=by
 have h:t.any (fun x=>!p x)=(JA (fun i=>!p (t.getD i 0)) t.length).isSome:=QfL (p:=fun x=>!p x) (xs:=t);rw[←Option.not_isSome,←h];simp[List.not_any_eq_all_not]
theorem QmD {β:Type} {step:Int→Option (Int⊕β)} {t:Bs} {p:UInt8→Bool} {e d:β} (h1:∀i:Nat,i<t.length→step i=some (if p (t.getD i 0)=true then .inl ((i+1:Nat):Int) else .inr e)) (h2:step t.length=some (.inr d)):lp step 0=some (if t.all p=true then d else e):=by
 rw[QaZ t.length (fun i=>!p (t.getD i 0)) (fun _=>e) d (fun i hi=>?_) h2,Qsp]
 ·cases JA (fun i=>!p (t.getD i 0)) t.length<;>simp
 ·rw[h1 i hi]
  cases p (t.getD i 0)<;>rfl
theorem QgR (w:Bs):(tS w==(⟨#[]⟩:Bt))=w.isEmpty:=by
 have:(tS w==tS [])=(w==[]):=Ju w [];refine this.trans ?_
 cases w<;>rfl
theorem QtY {l:Bs} (h:l.length≤1000000):QbC (tS l)=some (match Qe2 l with|some ws=>(ws.map tS,true)|none=>([],false)):=by
 have e35:(⟨#[35]⟩:Bt)=tS [35]:=rfl;have e32:(⟨#[32]⟩:Bt)=tS [32]:=rfl;have hs:(stripL l).length≤1000000:=Nat.le_trans (List.Sublist.length_le (List.takeWhile_sublist _)) h;have ec:(Qrh (tS l) (tS [35])).1=tS (stripL l):=QvS 35 l;unfold QbC Jj ZK;rw[e35,e32,Qd (by simp;omega),Qa,ec];unfold Qe2;generalize stripL l=t at hs;rw[QmD (t:=t) (p:=okB) (e:=.inl ()) (d:=.inr ()) (fun i hi=>?_) (by rw[if_neg (by simp)]),Qa]
 ·by_cases ho:t.all okB=true
  ·rw[if_pos ho];dsimp only;have hd:QB ((Qcm 32 t).map tS)=some ((QaB t).map tS):=by
    have e:QB=Qwu Jv:=rfl;rw[e,Qsi (pm:=Jv) (p:=fun x=>x==(⟨#[]⟩:Bt)) (fun x _=>rfl) (by have:=Qf5 32 t;simp;omega),List.filter_map];refine congrArg (fun q=>some ((List.filter q (Qcm 32 t)).map tS)) (funext fun w=>?_);simp only[Function.comp,QgR]
   have hl:(QaB t).length≤1000001:=by
    have h1:=Qf5 32 t;have h2:(QaB t).length≤(Qcm 32 t).length:=List.length_filter_le _ _;omega
   have hc:QH ((QaB t).map tS)=some ((QaB t).any fun w=>decide (w.length>24)):=by
    have e:QH=QuO Qak:=rfl;rw[e,QlL (pm:=Qak) (p:=fun x:Bt=>decide (((x.size:Nat):Int)>24)) (fun x _=>rfl) (by simp;omega),List.any_map]
    congr 2
    funext w
    simp only[Function.comp,QaA];rw[decide_eq_decide];omega
   rw[Qd (by simp;omega),Qa,Qmz,hd,Qa,hc];have hf:QwY (QaB t)=!(decide ((((QaB t).map tS).length:Int)>8)||(QaB t).any fun w=>decide (w.length>24)):=by
    unfold QwY;rw[Bool.eq_iff_iff];simp only[Bool.and_eq_true,decide_eq_true_eq,List.all_eq_true,Bool.not_eq_true',Bool.or_eq_false_iff,decide_eq_false_iff_not,List.any_eq_false,List.length_map]
    constructor
    ·rintro⟨a,b⟩;exact⟨by omega,fun x hx=>by have:=b x hx;omega⟩
    ·rintro⟨a,b⟩;exact⟨by omega,fun x hx=>by have:=b x hx;omega⟩
   rw[hf]
   cases h8:decide ((((QaB t).map tS).length:Int)>8)
   ·rw[Ql rfl,Qa,Bool.false_or]
    cases (QaB t).any fun w=>decide (w.length>24)
    ·rw[if_neg (by decide),if_pos ⟨ho,rfl⟩]
    ·rw[if_pos rfl,if_neg (by simp)]
   ·rw[QZ (by decide),Qa,if_pos (by simp),if_neg (by simp)]
  ·rw[if_neg ho,if_neg fun h=>ho h.1]
 ·have e:Qn (iB (t.getD i 0)) 32 126=some (okB (t.getD i 0)):=congrArg some (QtX (lo:=32) (hi:=126) (t.getD i 0));rw[if_pos (by simp;omega),Qd (by simp;omega),Int.toNat_natCast,Qe1 hi,QmC,Qm hi (by omega),e,Qa]
  cases okB (t.getD i 0)<;>rfl
def nmB (b:UInt8):Bool:=(decide (97≤b.toNat)&&decide (b.toNat≤122))||(decide (48≤b.toNat)&&decide (b.toNat≤57))||b==45
def Qdd (w:Bs):Bool:=inI w.length 1 8&&w.all nmB
theorem Qsq {w:Bs} (h:w.length≤1000000):Qb3 (tS w)=some (Qdd w):=by
 unfold Qb3;rw[QmD (t:=w) (p:=nmB) (e:=.inl ()) (d:=.inr ()) (fun i hi=>?_) (by rw[if_neg (by simp)]),Qa]
 ·have e:Qn ((w.length:Nat):Int) 1 8=some (inI w.length 1 8):=rfl;unfold Qdd
  by_cases hw:w.all nmB=true
  ·rw[if_pos hw,hw,Bool.and_true];dsimp only;rw[QaA,e,Qa]
  ·rw[if_neg hw,Bool.eq_false_iff.2 hw,Bool.and_false]
 ·rw[if_pos (by simp;omega),Qd (by simp;omega),Int.toNat_natCast,Qe1 hi,Qm hi (by omega)];have e45:(iB (w.getD i 0) !=45)=!(w.getD i 0==45):=by
   have:(iB (w.getD i 0)==45)=(w.getD i 0==45):=QlM (b:=45);simp only[bne,this]
  have e:(((iB (w.getD i 0) !=45)&&(decide (iB (w.getD i 0)<97)||decide (iB (w.getD i 0)>122)))&&(decide (iB (w.getD i 0)<48)||decide (iB (w.getD i 0)>57)))=!nmB (w.getD i 0):=by
   rw[e45];generalize w.getD i 0=b;unfold nmB iB
   cases b==45
   ·rw[Bool.eq_iff_iff];simp;omega
   ·simp
  rw[e]
  cases nmB (w.getD i 0)<;>rfl
theorem Qki (a lo hi:Int):JR a lo hi=some (inI a lo hi):=rfl
theorem Qkj (a lo hi:Int):Qn a lo hi=some (inI a lo hi):=rfl
theorem QmE {w:Bs} (h:w.length≤1000000):Qan (tS w)=some (Qdd w):=by
 unfold Qan;rw[Qki,Qa,QaA];unfold Qdd
 cases h1:inI (w.length:Int) 1 8
 ·rfl
 rw[if_neg (by decide)];rw[QmD (t:=w) (p:=nmB) (e:=.inl ()) (d:=.inr ()) (fun i hi=>?_) (by rw[if_neg (by simp)]),Qa]
 ·rw[Bool.true_and]
  cases w.all nmB<;>rfl
 ·rw[if_pos (by simp;omega),Qd (by omega),Int.toNat_natCast,Qe1 hi,Qm hi (by omega),QmC,Qki,Qki,Qa,Qd (fun _=>by omega)];have e45:(iB (w.getD i 0) !=45)=!(w.getD i 0==45):=by
   have:(iB (w.getD i 0)==45)=(w.getD i 0==45):=QlM (b:=45);simp only[bne,this]
  have e:(!inI (iB (w.getD i 0)) 97 122&& !inI (iB (w.getD i 0)) 48 57&&(iB (w.getD i 0) !=45))=!nmB (w.getD i 0):=by
   rw[e45,show inI (iB (w.getD i 0)) 97 122=_ from QtX (lo:=97) (hi:=122) _,show inI (iB (w.getD i 0)) 48 57=_ from QtX (lo:=48) (hi:=57) _];unfold nmB;simp only[Bool.not_or]
  rw[Qsb,Qa,Qd (fun _=>by omega)];have e2:(!inI (iB (w.getD i 0)) 97 122&& !(!inI (iB (w.getD i 0)) 97 122&&inI (iB (w.getD i 0)) 48 57)&&(iB (w.getD i 0) !=45))=!nmB (w.getD i 0):=by
   rw[←e];cases inI (iB (w.getD i 0)) 97 122<;>rfl
  rw[e2]
  cases nmB (w.getD i 0)<;>rfl
theorem Qsr {l:Bs} {i:Nat} (h:i<l.length):l.drop i=l.getD i 0::l.drop (i+1):=by
 rw[List.drop_eq_getElem_cons h,List.getD_eq_getElem?_getD,List.getElem?_eq_getElem h];rfl
theorem QuP (l:Bs) (i j:Nat):(tS l).extract i j=tS ((l.take j).drop i):=Qsg (by rw[QlK,tB_tS,tB_tS])
def QnM (c:UInt8):Bs→Bs→List Bs
 |w,[]=>[w]
 |w,b::r=>if b=c then w::QnM c [] r else QnM c (w++[b]) r
theorem QmF (c:UInt8):∀(r w:Bs),c∉w→QnM c w r=Qcm c (w++r)
 |[],w,h=>by rw[QnM,List.append_nil,QdP h]
 |b::r,w,h=>by
  rw[QnM]
  by_cases hb:b=c
  ·subst hb;rw[if_pos rfl,Qe0 h,QmF b r [] (by simp),List.nil_append]
  ·rw[if_neg hb,QmF c r (w++[b]) (by simp[h,Ne.symm hb])];simp
theorem Qss {l:Bs} (c:UInt8) (h:l.length≤1000000):JL (tS l) (iB c)=some ((Qcm c l).map tS):=by
 unfold JL;have key:∀(k i j:Nat) (out:List Bs),i+k=l.length→j≤i→out.length+k≤l.length→
   ∃x:Nat×Int×List Bt,lp (σ:=List Bt×Int×Int) (β:=(Nat×Int×(List Bt))) (fun s1=>
(if(decide (s1.2.2<(((tS l).size:Nat):Int)))=true then
 gd ((0:Int)≤s1.2.2∧s1.2.2<(((tS l).size:Nat):Int))<|
(if((Qah (tS l) s1.2.2.toNat)==iB c)=true then
 gd ((0:Int)≤s1.2.1∧s1.2.1≤s1.2.2∧s1.2.2≤(((tS l).size:Nat):Int))<|
 gd (((s1.1.length)+(([((tS l).extract s1.2.1.toNat s1.2.2.toNat)]:List Bt).length))*(16+1)≤70368744177664)<|
 some (.inl ((s1.1++([((tS l).extract s1.2.1.toNat s1.2.2.toNat)]:List Bt)),IntKind.i64.wrap (s1.2.2+1),IntKind.i64.wrap (s1.2.2+1)))
else
 some (.inl (s1.1,s1.2.1,IntKind.i64.wrap (s1.2.2+1))))
else
 some (.inr (s1.1.length,s1.2.1,s1.1)))) (out.map tS,(j:Int),(i:Int))=some x∧x.1=x.2.2.length∧(x.1≤l.length)∧(∃q:Nat,x.2.1=(q:Int)∧q≤l.length∧x.2.2++[tS (l.drop q)]=(out++QnM c ((l.take i).drop j) (l.drop i)).map tS):=by
  intro k
  induction k with
  |zero=>
   intro i j out hi hj ho;have hi:i=l.length:=by omega
   subst hi;refine⟨(out.length,(j:Int),out.map tS),ZN ?_,by simp,by dsimp only;omega,j,rfl,hj,?_⟩
   ·rw[if_neg (by simp)];simp
   ·rw[List.drop_length,QnM,List.take_length];simp
  |succ k ih=>
   intro i j out hi hj ho;have hil:i<l.length:=by omega
   have hb:(iB (l.getD i 0)==iB c)=(l.getD i 0==c):=QlM;have hws:IntKind.i64.wrap ((i:Int)+1)=((i+1:Nat):Int):=Qm hil (by omega);rw[Qsr hil,QnM]
   by_cases hc:l.getD i 0=c
   ·rw[if_pos hc];obtain⟨x,h1,h2⟩:=ih (i+1) (i+1) (out++[(l.take i).drop j]) (by omega) (Nat.le_refl _) (by simp;omega);refine⟨x,(J5 ?_).trans h1,h2.1,h2.2.1,?_⟩
    ·dsimp only;rw[if_pos (by simp;omega),Qd (by simp;omega),Int.toNat_natCast,Qe1 hil,hb,if_pos (beq_iff_eq.2 hc),Qd (by simp;omega),Qd (by simp;omega),Int.toNat_natCast,QuP,hws];simp
    ·obtain⟨q,q1,q2,q3⟩:=h2.2.2;refine⟨q,q1,q2,?_⟩;rw[q3];have:(l.take (i+1)).drop (i+1)=[]:=by simp
     rw[this];simp
   ·rw[if_neg hc];obtain⟨x,h1,h2⟩:=ih (i+1) j out (by omega) (by omega) (by omega);have hcf:(l.getD i 0==c)=false:=by simpa using hc
    refine⟨x,(J5 ?_).trans h1,h2.1,h2.2.1,?_⟩
    ·dsimp only;rw[if_pos (by simp;omega),Qd (by simp;omega),Int.toNat_natCast,Qe1 hil,hb,hcf,if_neg (by simp),hws]
    ·obtain⟨q,q1,q2,q3⟩:=h2.2.2;refine⟨q,q1,q2,?_⟩;rw[q3];have:(l.take (i+1)).drop j=(l.take i).drop j++[l.getD i 0]:=by
      rw[List.take_succ,List.drop_append_of_le_length (by simp;omega),List.getD_eq_getElem?_getD,List.getElem?_eq_getElem hil]
      rfl
     rw[this]
 obtain⟨x,e,h1,h2,q,q1,q2,q3⟩:=key l.length 0 0 [] (by omega) (Nat.le_refl _) (by simp);refine(congrArg (fun m=>bd m _) e).trans ?_;rw[Qa,q1,Qd (by simp;omega),Qd (by simp;omega),Int.toNat_natCast,Int.toNat_natCast,QuP,QaA,List.take_length,q3];rw[List.take_zero,List.drop_zero,List.nil_append,QmF _ _ _ (by simp),List.nil_append]
 rfl
theorem QuQ {xs:List Bt} {a:Bt} (h:xs.length≤1048576):QbU xs a=some (xs.any (· ==a)):=by
 unfold QbU;rw[QaZ xs.length (fun i=>xs.getD i default==a) (fun i=>.inl ()) (.inr ()) (fun i hi=>?_) (by rw[if_neg (by simp)]),Qa,QfL]
 ·cases JA (fun i=>xs.getD i default==a) xs.length<;>rfl
 ·rw[if_pos (by simp;omega),Qd (by omega),Int.toNat_natCast,Qm hi (by omega)]
  cases xs.getD i default==a<;>rfl
theorem QlO {xs:List Bt} {a:Bt} (h:xs.length≤1048576):Qq xs a=some (xs.any (· ==a)):=by
 unfold Qq Z2;rw[QaZ xs.length (fun i=>xs.getD i default==a) (fun i=>.inl (i:Int)) (.inr ()) (fun i hi=>?_) (by rw[if_neg (by simp)]),Qa,QfL]
 ·cases JA (fun i=>xs.getD i default==a) xs.length
  ·rfl
  ·simp
 ·have e:(a==xs.getD i default)=(xs.getD i default==a):=by rw[Bool.eq_iff_iff];simp only[beq_iff_eq];exact eq_comm
  rw[if_pos (by simp;omega),Qd (by omega),Int.toNat_natCast,Qm hi (by omega),e]
  cases xs.getD i default==a<;>rfl
def heads:List Bt:=[⟨#[100,111,111,114]⟩,⟨#[104,111,115,116]⟩,⟨#[110,97,116]⟩,⟨#[112,101,101,114]⟩,⟨#[112,111,114,116]⟩,⟨#[114,111,117,116,101]⟩,⟨#[114,117,108,101]⟩,⟨#[117,115,101,114]⟩]
def QtZ (ps:List Bt) (i:Nat):Bool:=!(heads.any (· ==ps.getD i default))||(decide (0<i)&& !(bsl (ps.getD (i-1) default) (ps.getD i default)))
def Qib (ps:List Bt):Bool:=(JA (QtZ ps) ps.length).isNone
def QuR (w:Bs):Bool:=(tS w==⟨#[97,108,108]⟩)||(tS w==⟨#[110,111,110,101]⟩)
def Qkk (w:Bs):Bool:=QuR w||Qib ((Qcm 44 w).map tS)
theorem QuS {ps:List Bt} {i:Nat} (hi:i<ps.length) (h:ps.length≤1048576):(!(heads.any (· ==ps.getD i default))||(decide ((i:Int)>0)&& !(bsl (ps.getD ((IntKind.i64.wrap ((i:Int) -1)).toNat) default) (ps.getD i default))))=QtZ ps i:=by
 unfold QtZ
 cases i with
 |zero=>simp
 |succ i=>
  rw[QjD hi (by omega) (by omega),Int.toNat_natCast];have:decide (((i+1:Nat):Int)>0)=decide (0<i+1):=by simp<;>omega
  rw[this]
theorem Qst {i:Nat} {n:Nat} {b:Bool} (hi:i<n) (h:n≤1048576):(decide ((i:Int)>0))=true→((!b)=false→((0:Int)≤IntKind.i64.wrap ((i:Int) -1)∧IntKind.i64.wrap ((i:Int) -1)<((n:Nat):Int))):=by
 intro h0 _;have h0:=of_decide_eq_true h0;rw[QC (by omega) (by omega)];omega
theorem Qkl {w:Bs} (h:w.length≤1000000):Qa2 (tS w)=some (if QuR w=true then([tS w],true) else if Qib ((Qcm 44 w).map tS)=true then((Qcm 44 w).map tS,true) else([],false)):=by
 have e44:(⟨#[44]⟩:Bt)=tS [44]:=rfl;unfold Qa2 ZK;show(if QuR w=true then _ else _)=_
 by_cases ha:QuR w=true
 ·rw[if_pos ha,if_pos ha]
 rw[if_neg ha,if_neg ha,e44,Qd (by simp;omega),Qa,Qmz];have hl:((Qcm 44 w).map tS).length≤1048576:=by have:=Qf5 44 w;simp;omega
 unfold Qib;generalize (Qcm 44 w).map tS=ps at hl;rw[QaZ ps.length (QtZ ps) (fun _=>.inl ()) (.inr ()) (fun i hi=>?_) (by rw[if_neg (by simp)]),Qa]
 ·cases JA (QtZ ps) ps.length<;>rfl
 ·rw[if_pos (by simp;omega),Qd (by omega),Int.toNat_natCast,Qm hi (by omega),show Qq [_,_,_,_,_,_,_,_] (ps.getD i default)=_ from QlO (xs:=heads) (by decide),Qa,Qd (Qst hi hl),QuS hi hl]
  cases QtZ ps i<;>rfl
theorem Qsu {w:Bs} (h:w.length≤1000000):Qb4 (tS w)=some (Qkk w):=by
 unfold Qb4;rw[Qkl h,Qa];unfold Qkk
 cases QuR w
 ·cases Qib ((Qcm 44 w).map tS)<;>rfl
 ·rfl
theorem Qsv {w:Bs} (h:w.length≤1000000):QbA (tS w)=some (Qkk w):=by
 unfold QbA;show(if QuR w=true then _ else _)=_;unfold Qkk
 by_cases ha:QuR w=true
 ·rw[if_pos ha,ha];rfl
 rw[if_neg ha,Bool.eq_false_iff.2 ha,Bool.false_or];have hl:((Qcm 44 w).map tS).length≤1048576:=by have:=Qf5 44 w;simp;omega
 rw[show JL (tS w) 44=_ from Qss 44 h,Qa];unfold Qib;generalize (Qcm 44 w).map tS=ps at hl;rw[QaZ ps.length (QtZ ps) (fun _=>.inl ()) (.inr ()) (fun i hi=>?_) (by rw[if_neg (by simp)]),Qa]
 ·cases JA (QtZ ps) ps.length<;>rfl
 ·rw[if_pos (by simp;omega),show QbT=some heads from rfl,Qa,Qd (by omega),Int.toNat_natCast,QuQ (xs:=heads) (by decide),Qa,Qd (Qst hi hl),Qd (fun _ _=>by omega),Qm hi (by omega),QuS hi hl]
  cases QtZ ps i<;>rfl
theorem Qsw (n:Nat) (b:UInt8) (r:Bs):QoQ n (b::r)=QoQ (n*10+(b.toNat-48)) r:=by
 unfold QoQ;rw[List.foldl_cons]
theorem QuT {n:Int} (h1:0≤n) (h2:n≤255):IntKind.u8.wrap n=n:=by
 have e1:IntKind.bits .u8=8:=rfl;have e2:IntKind.signed .u8=false:=rfl;unfold IntKind.wrap;simp only[e1,e2,Bool.false_and];rw[Int.emod_eq_of_lt h1 (by omega)]
 rfl
theorem Qsx (b:UInt8):inI (iB b) 48 57=Qjk b:=QtX (lo:=48) (hi:=57) b
theorem QnN (w:Bs) (h:w.length≤1000000):ZP (tS w)=some (Qco w):=by
 unfold ZP;rw[Qki,Qa,QaA];unfold Qco;rcases Bool.eq_false_or_eq_true (inI (w.length:Int) 1 6) with h1|h1
 ·have hr:=QfM.1 h1;have h0:Qah (tS w) 0=iB (w.getD 0 0):=Qe1 (by omega);have h48:(iB (w.getD 0 0)==48)=(w.getD 0 0==48):=QlM (b:=48);rw[h1,Qd (fun _ _=>by omega),h0,h48,Bool.not_true,Bool.false_or]
  by_cases hz:(decide ((w.length:Int)>1)&&(w.getD 0 0==48))=true
  ·rw[if_pos hz,if_neg];rintro⟨hc,_⟩;simp only[QkH,Bool.and_eq_true,Bool.or_eq_true,decide_eq_true_eq,bne_iff_ne,beq_iff_eq] at hc hz;rcases hc.2 with h|h
   ·omega
   ·exact h hz.2
  rw[if_neg hz];have hcan:QkH w=w.all Qjk:=by
   unfold QkH;have e1:w.isEmpty=false:=by cases w with|nil=>simp at hr|cons _ _=>rfl
   have e2:(decide (w.length=1)||w.getD 0 0 !=48)=true:=by
    rcases Nat.lt_or_ge 1 w.length with hl|hl
    ·have:decide ((w.length:Int)>1)=true:=decide_eq_true (by omega);rw[this,Bool.true_and] at hz;have:(w.getD 0 0 !=48)=true:=by simpa[bne] using hz
     rw[this,Bool.or_true]
    ·rw[decide_eq_true (by omega),Bool.true_or]
   rw[e1,e2,Bool.and_true];rfl
  have key:∀(k i v:Nat),i+k=w.length→v<10^i→lp (σ:=Int×Int) (β:=(Unit⊕Int)) (fun s3=>
 (if(decide (s3.2<((w.length:Nat):Int)))=true then
 gd ((0:Int)≤s3.2∧s3.2<((w.length:Nat):Int))<|
 bd (JR (IntKind.i64.wrap (Qah (tS w) s3.2.toNat)) 48 57) fun x8=>
 (if(!x8)=true then
 some (.inr (.inl ()))
 else
 gd ((0:Int)≤s3.2∧s3.2<((w.length:Nat):Int))<|
 some (.inl (IntKind.i64.wrap ((IntKind.i64.wrap (s3.1*10))+(IntKind.i64.wrap (IntKind.u8.wrap ((Qah (tS w) s3.2.toNat) -48)))),IntKind.i64.wrap (s3.2+1))))
 else
 some (.inr (.inr s3.1)))) ((v:Int),(i:Int))=some (if(w.drop i).all Qjk=true then .inr ((QoQ v (w.drop i):Nat):Int) else .inl ()):=by
   intro k
   induction k with
   |zero=>
    intro i v hi hv;have hi:i=w.length:=by omega
    subst hi;rw[ZN (b:=.inr (v:Int)) (by rw[if_neg (by simp)])];rw[List.drop_length];rfl
   |succ k ih=>
    intro i v hi hv;have hil:i<w.length:=by omega
    have hi6:10^i≤10^6:=Nat.pow_le_pow_right (by omega) (by omega);rw[Qsr hil,List.all_cons,Qsw];generalize hcg:w.getD i 0=c;have hat:Qah (tS w) ((i:Int)).toNat=iB c:=by rw[Int.toNat_natCast,Qe1 hil,hcg]
    cases hd:Qjk c
    ·rw[Bool.false_and,if_neg (by decide)];refine ZN ?_;dsimp only;rw[if_pos (by simp;omega),Qd (by omega),hat,QmC,Qki,Qa,Qsx,hd,if_pos (by rfl)]
    ·have hd':=hd;simp only[Qjk,Bool.and_eq_true,decide_eq_true_eq] at hd';rw[Bool.true_and,←ih (i+1) (v*10+(c.toNat-48)) (by omega) (by rw[Nat.pow_succ];omega)];refine J5 ?_;dsimp only;rw[if_pos (by simp;omega),Qd (by omega),hat,QmC,Qki,Qa,Qsx,hd,if_neg (by decide),Qd (by omega),Qm hil (by omega)];have e1:IntKind.u8.wrap (iB c-48)=((c.toNat-48:Nat):Int):=by
      unfold iB;rw[QuT (by omega) (by omega)];omega
     have e2:IntKind.i64.wrap ((v:Int)*10)=(v:Int)*10:=QC (by omega) (by omega);rw[e1,e2,QC (n:=((c.toNat-48:Nat):Int)) (by omega) (by omega),QC (by omega) (by omega)];simp
  have k0:=key w.length 0 0 (by omega) (by decide);refine(congrArg (fun m=>bd m _) k0).trans ?_;rw[Qa,List.drop_zero,hcan]
  by_cases hd:w.all Qjk=true
  ·rw[if_pos hd,if_pos ⟨hd,by omega⟩];rfl
  ·rw[if_neg hd,if_neg fun h=>hd h.1]
 ·rw[h1,Qd (fun _ h=>by cases h),if_pos (by rfl),if_neg];rintro⟨hc,hl⟩;have h1:=fun h=>Bool.eq_false_iff.1 h1 (QfM.2 h);refine h1 ?_;obtain⟨_,hne⟩:=QbQ hc;have:w.length≠0:=fun e=>hne (List.eq_nil_of_length_eq_zero e);omega
theorem QgS {w:Bs} {lo hi:Int} (h:w.length≤1000000):Zi (tS w) lo hi=some (isN w lo hi):=by
 unfold Zi;rw[QnN w h,Qa,Qki,Qa]
 rfl
theorem Qkm {w:Bs} (h:w.length≤1000000):JT (tS w)=some (Qk4 w):=by
 unfold JT;rw[Qd (by simp;omega),QvR]
theorem QpL {w:Bs} (h:w.length≤1000000):QaG (tS w)=some (Qco w):=by
 unfold QaG;rw[QaA]
 by_cases h6:w.length≤6
 ·rw[if_neg (by simp;omega),Qkm h,Qa,QpK h6]
 ·rw[if_pos (by simp;omega)];unfold Qco;rw[if_neg fun h=>h6 h.2]
theorem QxK {w:Bs} {lo hi:Int} (h:w.length≤1000000):QbE (tS w) lo hi=some (isN w lo hi):=by
 unfold QbE;rw[QpL h,Qa,Qkj,Qa]
 rfl
def Qre (c:UInt8) (w:Bs):Option (Bs×Bs):=match Qcm c w with
 |[a,b]=>some (a,b)
 |_=>none
def ZR (w:Bs):Int:=match Qre 46 w with
 |some (a,b)=>if isN a 0 255=true∧isN b 0 255=true then 256*Qco a+Qco b else-1
 |none=>-1
theorem Qkn {c:UInt8} {w a b:Bs} (h:Qre c w=some (a,b)):Qcm c w=[a,b]:=by
 unfold Qre at h;split at h
 ·rename_i e;simp only[Option.some.injEq,Prod.mk.injEq] at h;rw[e,h.1,h.2]
 ·cases h
theorem Qez (c:UInt8):∀(l x:Bs),x∈Qcm c l→x.length≤l.length
 |[],x,h=>by simp[Qcm] at h;simp[h]
 |b::r,x,h=>by
  unfold Qcm at h;split at h
  ·rcases List.mem_cons.1 h with rfl|h
   ·simp
   ·have:=Qez c r x h;simp;omega
  ·split at h
   ·simp at h;subst h;simp
   ·rename_i w ws e;rcases List.mem_cons.1 h with rfl|h
    ·have:=Qez c r w (by rw[e];simp);simp;omega
    ·have:=Qez c r x (by rw[e];simp[h]);simp;omega
theorem QpM {c:UInt8} {w a b:Bs} (h:Qre c w=some (a,b)):a.length≤w.length∧b.length≤w.length:=by
 have e:=Qkn h;exact⟨Qez c w a (by rw[e];simp),Qez c w b (by rw[e];simp)⟩
theorem QpN {c:UInt8} {l:Bs}:Qre c l=if c∈l∧c∉l.drop ((l.takeWhile (· !=c)).length+1) then some (l.takeWhile (· !=c),l.drop ((l.takeWhile (· !=c)).length+1)) else none:=by
 by_cases hc:c∈l
 ·obtain⟨h1,h2⟩:=Qjj hc;generalize l.takeWhile (· !=c)=a at h1 h2;generalize l.drop (a.length+1)=r at h1;subst h1;unfold Qre;rw[Qe0 h2]
  by_cases hr:c∈r
  ·rw[if_neg (fun h=>h.2 hr)];obtain⟨h3,h4⟩:=Qjj hr;rw[h3,Qe0 h4]
   cases hs:Qcm c (List.drop ((List.takeWhile (fun x=>x !=c) r).length+1) r) with
   |nil=>exact absurd hs (Qmy _ _)
   |cons x xs=>rfl
  ·rw[if_pos ⟨hc,hr⟩,QdP hr]
 ·rw[if_neg fun h=>hc h.1];unfold Qre;rw[QdP hc]
theorem QeA {w:Bs} {lo hi:Int} (h:isN w lo hi=true):lo≤Qco w∧Qco w≤hi:=QfM.1 h
theorem Qko (w:Bs):-1≤ZR w∧ZR w≤65535:=by
 unfold ZR;split
 ·split
  ·rename_i h;have h1:=QeA h.1;have h2:=QeA h.2;omega
  ·omega
 ·omega
theorem Qsy {c:UInt8} {w:Bs} (h:Qre c w=none):(Qcm c w).length≠2:=by
 unfold Qre at h;split at h
 ·cases h
 ·rename_i hn;intro hl
  match hs:Qcm c w,hl with
  |[a,b],_=>exact hn a b hs
theorem Qic {w:Bs} (h:w.length≤1000000):Ze (tS w)=some (ZR w):=by
 unfold Ze;rw[show JL (tS w) 46=_ from Qss 46 h,Qa];unfold ZR
 cases hc:Qre 46 w with
 |none=>
  have hn:=Qsy hc;have e:((((Qcm 46 w).map tS).length:Int) !=2)=true:=by simp;omega
  rw[e,Qd (fun h=>by cases h),QZ (by decide),Qa];simp only[Bool.true_or];rw[Qd (fun h=>by cases h),QZ (by decide),Qa,if_pos (by simp)]
 |some p=>
  obtain⟨a,b⟩:=p;have e:=Qkn hc;obtain⟨l1,l2⟩:=QpM hc;rw[e];have e2:((([a,b].map tS).length:Int) !=2)=false:=by rfl
  have g0:([a,b].map tS).getD 0 default=tS a:=rfl;have g1:([a,b].map tS).getD 1 default=tS b:=rfl;have hl:(([a,b].map tS).length:Int)=2:=rfl;rw[e2,g0,g1,Qd (fun _=>by rw[hl];decide),Ql rfl,QgS (by omega),Qa,Bool.false_or,QgS (by omega),Qd (fun _=>by rw[hl];decide),Qji,Qa];dsimp only
  cases ha:isN a 0 255
  ·simp
  ·cases hb:isN b 0 255
   ·simp
   ·have h1:=QeA ha;have h2:=QeA hb;have e1:IntKind.i64.wrap (256*Qco a)=256*Qco a:=QC (by omega) (by omega);rw[if_neg (by decide),Qd (by rw[hl];decide),QnN a (by omega),Qa,Qd (by rw[hl];decide),QnN b (by omega),Qa,e1,QC (by omega) (by omega),if_pos ⟨rfl,rfl⟩]
theorem QnO {w:Bs} {c:UInt8} (hc:c∈w) (hd:Qjk c=false):Qk4 w=-1:=by
 unfold Qk4;rw[if_neg];rintro⟨h,_⟩;have:=List.all_eq_true.1 (QbQ h).1 c hc;rw[hd] at this;cases this
theorem Qid {w:Bs} (h:w.length≤1000000):JU (tS w)=some (ZR w):=by
 have e46:(⟨#[46]⟩:Bt)=tS [46]:=rfl;unfold JU Jj;rw[e46,Qd (by simp;omega),Qa,QoN];unfold ZR;rw[QpN]
 by_cases hc:(46:UInt8)∈w
 ·rw[if_pos hc];have hlen:(w.takeWhile (· !=46)).length≤w.length:=List.Sublist.length_le (List.takeWhile_sublist _);generalize w.takeWhile (· !=46)=a at hlen;have hlen2:(w.drop (a.length+1)).length≤w.length:=by rw[List.length_drop];omega
  generalize w.drop (a.length+1)=b at hlen2;dsimp only;rw[Qkm (by omega),Qa,Qkm (by omega),Qa,Qkj,Qkj,Ql (by rfl),Qa,Bool.not_true,Bool.false_or,Qji,Qa];obtain⟨p1,p2⟩:=QoT (w:=a) (lo:=0) (hi:=255) (by decide) (by decide);obtain⟨q1,q2⟩:=QoT (w:=b) (lo:=0) (hi:=255) (by decide) (by decide)
  by_cases hb:(46:UInt8)∈b
  ·rw[if_neg (show ¬((46:UInt8)∈w∧(46:UInt8)∉b) from fun h=>h.2 hb)];have:inI (Qk4 b) 0 255=false:=by rw[QnO hb (by decide)];decide
   rw[this,Bool.and_false,if_pos (by simp)]
  ·rw[if_pos (show(46:UInt8)∈w∧(46:UInt8)∉b from⟨hc,hb⟩)];dsimp only;unfold isN;rw[←p1,←q1]
   cases ha:inI (Qk4 a) 0 255
   ·simp
   ·cases hb:inI (Qk4 b) 0 255
    ·simp
    ·have h1:=QfM.1 ha;have h2:=QfM.1 hb;have e1:IntKind.i64.wrap (256*Qk4 a)=256*Qk4 a:=QC (by omega) (by omega);rw[if_neg (by decide),if_pos ⟨rfl,rfl⟩,←p2 ha,←q2 hb,e1,QC (by omega) (by omega)]
 ·rw[if_neg hc,if_neg fun h=>hc h.1];dsimp only;rw[Qkm h,Qa,Qkm (by simp),Qa,QZ (by decide),Qa,Bool.not_false,Bool.true_or,QZ (by decide),Qa,Bool.true_or,if_pos rfl]
def QdV (w:Bs):Option (Int×Nat):=match Qre 47 w with
 |some (a,b)=>if 0≤ZR a∧isN b 0 16=true∧(ZR a).toNat%2^(16-(Qco b).toNat)=0 then some (ZR a,(Qco b).toNat) else none
 |none=>none
theorem QgT {w:Bs} {a:Int} {n:Nat} (h:QdV w=some (a,n)):0≤a∧a≤65535∧n≤16∧a.toNat%2^(16-n)=0:=by
 unfold QdV at h;split at h
 ·split at h
  ·rename_i h1;simp only[Option.some.injEq,Prod.mk.injEq] at h;obtain⟨rfl,rfl⟩:=h;have:=QeA h1.2.1;exact⟨h1.1,(Qko _).2,by omega,h1.2.2⟩
  ·cases h
 ·cases h
theorem QvT {n:Nat} (h:n≤16):QcB (n:Int)=some ((2^(16-n):Nat):Int):=by
 unfold QcB;have key:∀(k m v:Nat),m+k=16→v*2^k≤65536→lp (σ:=Int×Int) (β:=(Int)) (fun s1=>
(if(decide (s1.2<16))=true then
 some (.inl (IntKind.i64.wrap (s1.1*2),IntKind.i64.wrap (s1.2+1)))
else
 some (.inr s1.1))) ((v:Int),(m:Int))=some ((v*2^k:Nat):Int):=by
  intro k
  induction k with
  |zero=>
   intro m v hm hv;refine ZN ?_;dsimp only;rw[if_neg (by simp;omega)];simp
  |succ k ih=>
   intro m v hm hv;rw[Nat.pow_succ] at hv;have e:v*2^(k+1)=(v*2)*2^k:=by rw[Nat.pow_succ,Nat.mul_comm (2^k),Nat.mul_assoc]
   have hle:v*2≤(v*2)*2^k:=Nat.le_mul_of_pos_right _ (Nat.pow_pos (by decide));have hv2:(v*2)*2^k≤65536:=by rw[Nat.mul_assoc,Nat.mul_comm 2];exact hv
   rw[e,←ih (m+1) (v*2) (by omega) hv2];refine J5 ?_;dsimp only;rw[if_pos (by simp;omega),QC (by omega) (by omega),QC (by omega) (by omega)];simp
 have:=key (16-n) n 1 (by omega) (by rw[Nat.one_mul];exact Nat.pow_le_pow_right (n:=2) (j:=16) (by decide) (by omega));refine(congrArg (fun m=>bd m _) this).trans ?_;rw[Qa,Nat.one_mul]
theorem QpO (a b:Nat):((a:Int).tmod (b:Int) !=0)=!decide (a%b=0):=by
 have:(a:Int).tmod (b:Int)=((a%b:Nat):Int):=rfl;rw[this]
 by_cases h:a%b=0
 ·rw[h];rfl
 ·rw[decide_eq_false h];simp;omega
theorem QpP (k:Nat):((2^k:Nat):Int)≠0:=by
 have:0<2^k:=Nat.pow_pos (by decide);omega
theorem QnP {w:Bs} (h:w.length≤1000000):Zu (tS w)=some (match QdV w with|some (a,n)=>(a,((2^(16-n):Nat):Int))|none=>(-1,0)):=by
 unfold Zu;rw[show JL (tS w) 47=_ from Qss 47 h,Qa];unfold QdV
 cases hc:Qre 47 w with
 |none=>
  have hn:=Qsy hc;have e:((((Qcm 47 w).map tS).length:Int) !=2)=true:=by simp;omega
  rw[e,Qd (fun h=>by cases h),QZ (by decide),Qa];simp only[Bool.true_or];rw[Qd (fun h=>by cases h),QZ (by decide),Qa,if_pos (by simp)]
 |some p=>
  obtain⟨a,b⟩:=p;have e:=Qkn hc;obtain⟨l1,l2⟩:=QpM hc;rw[e];have e2:((([a,b].map tS).length:Int) !=2)=false:=by rfl
  have g0:([a,b].map tS).getD 0 default=tS a:=rfl;have g1:([a,b].map tS).getD 1 default=tS b:=rfl;have hl:(([a,b].map tS).length:Int)=2:=rfl;rw[e2,g0,g1,Qd (fun _=>by rw[hl];decide),Ql rfl,Qic (by omega),Qa,Bool.false_or,QgS (by omega),Qd (fun _=>by rw[hl];decide),Qji,Qa];dsimp only
  by_cases ha:0≤ZR a
  ·rw[decide_eq_false (by omega)]
   cases hb:isN b 0 16
   ·simp
   ·have h2:=QeA hb;have hz:Qco b=((Qco b).toNat:Int):=by omega
    have hz2:ZR a=((ZR a).toNat:Int):=by omega
    rw[if_neg (by decide),Qd (by rw[hl];decide),Qa,Qd (by rw[hl];decide),QnN b (by omega),Qa,hz,QvT (by omega),Qa,Qd (QpP _),hz2,QpO];simp only[Int.toNat_natCast]
    by_cases hm:(ZR a).toNat%2^(16-(Qco b).toNat)=0
    ·rw[decide_eq_true hm,if_neg (by decide),if_pos ⟨by omega,trivial,hm⟩]
    ·rw[decide_eq_false hm,if_pos (by rfl),if_neg fun h=>hm h.2.2]
  ·have hn:¬(0≤ZR a∧isN b 0 16=true∧(ZR a).toNat%2^(16-(Qco b).toNat)=0):=fun h=>ha h.1;rw[decide_eq_true (by omega),if_neg hn,if_pos (by simp)]
theorem Qcy {w:Bs} (h:w.length≤1000000):ZG (tS w)=some (QdV w).isSome:=by
 unfold ZG;rw[QnP h,Qa]
 cases hp:QdV w with
 |none=>rfl
 |some p=>
  obtain⟨a,n⟩:=p;have:=QgT hp;exact congrArg some (decide_eq_true this.1)
def mkP (a:Int) (n:Nat):Qye:=⟨a,(n:Int)⟩
theorem QpQ {a:Int} {n:Nat} (h:n≤16):ZW (mkP a n)=some ((2^(16-n):Nat):Int):=by
 unfold ZW mkP;dsimp only;have e:IntKind.i64.wrap (16-(n:Int))=((16-n:Nat):Int):=by rw[QC (by omega) (by omega)];omega
 have hp:2^(16-n)≤2^16:=Nat.pow_le_pow_right (by decide) (by omega);rw[e,Qd (by omega),Int.toNat_natCast,Nat.min_eq_left (by show 16-n≤64;omega)];have hz:(1:Int)*2^(16-n)=((2^(16-n):Nat):Int):=by rw[Int.one_mul,Int.natCast_pow];rfl
 have hp':2^(16-n)≤65536:=hp;rw[hz];generalize 2^(16-n)=z at hp';rw[QC (by omega) (by omega)]
theorem QnQ {w:Bs} (h:w.length≤1000000):JX (tS w)=some (match QdV w with|some (a,n)=>(mkP a n,true)|none=>(mkP 0 0,false)):=by
 have e47:(⟨#[47]⟩:Bt)=tS [47]:=rfl;unfold JX Jj;rw[e47,Qd (by simp;omega),Qa,QoN];unfold QdV;rw[QpN]
 by_cases hc:(47:UInt8)∈w
 ·rw[if_pos hc];have hlen:(w.takeWhile (· !=47)).length≤w.length:=List.Sublist.length_le (List.takeWhile_sublist _);generalize w.takeWhile (· !=47)=a at hlen;have hlen2:(w.drop (a.length+1)).length≤w.length:=by rw[List.length_drop];omega
  generalize w.drop (a.length+1)=b at hlen2;dsimp only;rw[Qid (by omega),Qa,Qkm (by omega),Qa,Ql (by rfl)];unfold Qfh;dsimp only;rw[Qkj,Qa,Qkj];have hr:=Qko a;obtain⟨q1,q2⟩:=QoT (w:=b) (lo:=0) (hi:=16) (by decide) (by decide)
  cases hl:inI (Qk4 b) 0 16
  ·simp only[gcall,Qa,Bool.false_and,Bool.false_eq_true,if_false,gd];rw[if_pos (by simp)];have:isN b 0 16=false:=by unfold isN;rw[←q1];exact hl
   have hn:¬(0≤ZR a∧isN b 0 16=true∧(ZR a).toNat%2^(16-(Qco b).toNat)=0):=fun h=>by rw[this] at h;exact absurd h.2.1 (by decide)
   by_cases hq:(47:UInt8)∈w∧(47:UInt8)∉b
   ·rw[if_pos hq];dsimp only;rw[if_neg hn]
    rfl
   ·rw[if_neg hq]
    rfl
  ·have hi:=QfM.1 hl;have hN:isN b 0 16=true:=by unfold isN;rw[←q1];exact hl
   have hnb:(47:UInt8)∉b:=fun hm=>by rw[QnO hm (by decide)] at hi;omega
   rw[if_pos (show(47:UInt8)∈w∧(47:UInt8)∉b from⟨hc,hnb⟩)];dsimp only
   by_cases ha:0≤ZR a
   ·have hA:inI (ZR a) 0 65535=true:=QfM.2 ⟨ha,hr.2⟩;have hz:Qk4 b=((Qco b).toNat:Int):=by rw[←q2 hl];omega
    have hz2:ZR a=((ZR a).toNat:Int):=by omega
    rw[hA,Ql (by rfl),Qa,Ql (by rfl),hz,show ZW ⟨ZR a,(((Qco b).toNat:Nat):Int)⟩=_ from QpQ (a:=ZR a) (n:=(Qco b).toNat) (by omega),Qa,Qd (fun _=>QpP _),Qa];have ht:((ZR a).tmod ((2^(16-(Qco b).toNat):Nat):Int)==0)=decide ((ZR a).toNat%2^(16-(Qco b).toNat)=0):=by
     rw[hz2];have:=QpO (ZR a).toNat (2^(16-(Qco b).toNat));simp only[bne,Int.toNat_natCast] at this⊢;simpa using this
    rw[ht]
    by_cases hm:(ZR a).toNat%2^(16-(Qco b).toNat)=0
    ·rw[decide_eq_true hm,if_neg (by decide),if_pos ⟨ha,hN,hm⟩];rfl
    ·rw[decide_eq_false hm,if_pos (by decide),if_neg fun h=>hm h.2.2];rfl
   ·have hA:inI (ZR a) 0 65535=false:=Bool.eq_false_iff.2 fun h=>ha (QfM.1 h).1;have hn:¬(0≤ZR a∧isN b 0 16=true∧(ZR a).toNat%2^(16-(Qco b).toNat)=0):=fun h=>ha h.1;rw[hA,if_neg hn];simp only[gcall,Qa,Bool.and_false,Bool.false_and,Bool.false_eq_true,if_false,if_true,gd];rw[if_pos (by simp)]
    rfl
 ·rw[if_neg hc,if_neg fun h=>hc h.1];dsimp only;rw[Qid h,Qa,Qkm (by simp),Qa,QZ (by decide),Qa,if_pos (by simp)]
  rfl
theorem QoU {w:Bs} (h:w.length≤1000000):Qb5 (tS w)=some (QdV w).isSome:=by
 unfold Qb5;rw[QnQ h,Qa]
 cases QdV w<;>rfl
theorem Qsz {w:Bs} (h:w.length≤1000000):QbD (tS w)=some (decide (0≤ZR w)):=by
 unfold QbD;rw[Qid h,Qa]
def Qfe:Bs:=[104,111,115,116]
def wUser:Bs:=[117,115,101,114]
def Q7:Bs:=[112,111,114,116]
def QaM:Bs:=[114,117,108,101]
def QaR:Bs:=[114,111,117,116,101]
def Qbm:Bs:=[112,101,101,114]
def Qie:Bs:=[110,97,116]
def wDoor:Bs:=[100,111,111,114]
def wIn:Bs:=[105,110]
def QgU:Bs:=[112,101,114,109,105,116]
def QoV:Bs:=[100,101,110,121]
def Qwv:Bs:=[97,108,108]
def ckP (w:Bs):Bool:=(QdV w).isSome
def ckA (w:Bs):Bool:=decide (0≤ZR w)
def ckV (w:Bs):Bool:=w==QgU||w==QoV
def QfN:List Bs→Bool
 |[]=>false
 |a::t=>if a=Qfe then(match t with|[b]=>Qdd b|_=>false)
  else if a=wUser then(match t with|[b,c]=>Qdd b&&Qkk c|_=>false)
  else if a=Q7 then(match t with|[b,c]=>isN b 0 7&&ckP c|[b,c,d,e]=>isN b 0 7&&ckP c&&d==wIn&&Qdd e|_=>false)
  else if a=QaM then(match t with|[b,c,d,e,f,g]=>Qdd b&&isN c 0 99&&ckV d&&ckP e&&ckP f&&isN g 0 7|_=>false)
  else if a=QaR then(match t with|[b,c]=>ckP b&&ckA c|_=>false)
  else if a=Qbm then(match t with|[b,c,d]=>ckA b&&isN c 1 9&&isN d 1 999999|_=>false)
  else if a=Qie then(match t with|[b,c,d,e]=>ckP b&&ckA c&&isN d 1 65535&&isN e 1 65535|_=>false)
  else if a=wDoor then(match t with|[b,c,d,e]=>isN b 1 7&&isN c 1 65535&&ckA d&&isN e 1 65535|_=>false)
  else false
def keyN (a:Bs):Nat:=if a=Qfe∨a=Qie then 1 else if a=wUser∨a=Q7∨a=Qbm then 2 else 3
theorem QxL (a c:Bs):(tS a==tS c)=decide (a=c):=by
 rw[Ju]
 by_cases h:a=c
 ·rw[decide_eq_true h,h];simp
 ·rw[decide_eq_false h];simpa using h
theorem Qt0 {t:List Bs} {a:Bs} {n:Nat} (h:t.length≠n):(((((a::t).map tS).length:Nat):Int)==((n+1:Nat):Int))=false:=by
 simp only[List.length_map,List.length_cons];rw[beq_eq_false_iff_ne];omega
theorem Qx3 {t:List Bs} (h:t.length=1):∃b,t=[b]:=by
 match t,h with
 |[b],_=>exact⟨b,rfl⟩
theorem Qww {t:List Bs} (h:t.length=2):∃b c,t=[b,c]:=by
 match t,h with
 |[b,c],_=>exact⟨b,c,rfl⟩
theorem Qx4 {t:List Bs} (h:t.length=3):∃b c d,t=[b,c,d]:=by
 match t,h with
 |[b,c,d],_=>exact⟨b,c,d,rfl⟩
theorem Qwx {t:List Bs} (h:t.length=4):∃b c d e,t=[b,c,d,e]:=by
 match t,h with
 |[b,c,d,e],_=>exact⟨b,c,d,e,rfl⟩
theorem Qx5 {t:List Bs} (h:t.length=6):∃b c d e f g,t=[b,c,d,e,f,g]:=by
 match t,h with
 |[b,c,d,e,f,g],_=>exact⟨b,c,d,e,f,g,rfl⟩
theorem m1 (P:Bs→Bool):∀ {t:List Bs},t.length≠1→(match t with|[b]=>P b|_=>false)=false:=by
 intro t h;split
 ·rename_i h;simp at h
 ·rfl
theorem m2 (P:Bs→Bs→Bool):∀ {t:List Bs},t.length≠2→(match t with|[b,c]=>P b c|_=>false)=false:=by
 intro t h;split
 ·rename_i h;simp at h
 ·rfl
theorem m3 (P:Bs→Bs→Bs→Bool):∀ {t:List Bs},t.length≠3→(match t with|[b,c,d]=>P b c d|_=>false)=false:=by
 intro t h;split
 ·rename_i h;simp at h
 ·rfl
theorem m4 (P:Bs→Bs→Bs→Bs→Bool):∀ {t:List Bs},t.length≠4→(match t with|[b,c,d,e]=>P b c d e|_=>false)=false:=by
 intro t h;split
 ·rename_i h;simp at h
 ·rfl
theorem m6 (P:Bs→Bs→Bs→Bs→Bs→Bs→Bool):∀ {t:List Bs},t.length≠6→(match t with|[b,c,d,e,f,g]=>P b c d e f g|_=>false)=false:=by
 intro t h;split
 ·rename_i h;simp at h
 ·rfl
theorem m24 (P:Bs→Bs→Bool) (Q:Bs→Bs→Bs→Bs→Bool):∀ {t:List Bs},t.length≠2→t.length≠4→(match t with|[b,c]=>P b c|[b,c,d,e]=>Q b c d e|_=>false)=false:=by
 intro t h h';split
 ·rename_i h _;simp at h
 ·rename_i h';simp at h'
 ·rfl
theorem QvU {ws:List Bs} (h:∀w∈ws,w.length≤1000000):QcC (ws.map tS)=some (QfN ws):=by
 unfold QcC
 cases ws with
 |nil=>rfl
 |cons a t=>
  have g0:((a::t).map tS).getD 0 default=tS a:=rfl;have hl:(((((a::t).map tS).length:Nat):Int)==0)=false:=by rw[beq_eq_false_iff_ne];simp only[List.length_map,List.length_cons];omega
  have hb:∀w∈t,w.length≤1000000:=fun w hw=>h w (by simp[hw]);rw[hl,if_neg (by decide),Qd (by simp),g0];rw[show(⟨#[104,111,115,116]⟩:Bt)=tS Qfe from rfl,show(⟨#[117,115,101,114]⟩:Bt)=tS wUser from rfl,show(⟨#[112,111,114,116]⟩:Bt)=tS Q7 from rfl,show(⟨#[114,117,108,101]⟩:Bt)=tS QaM from rfl,show(⟨#[114,111,117,116,101]⟩:Bt)=tS QaR from rfl,show(⟨#[112,101,101,114]⟩:Bt)=tS Qbm from rfl,show(⟨#[110,97,116]⟩:Bt)=tS Qie from rfl,show(⟨#[100,111,111,114]⟩:Bt)=tS wDoor from rfl];simp only[QxL a,decide_eq_true_eq];dsimp only[QfN]
  by_cases c1:a=Qfe
  ·rw[if_pos c1,if_pos c1]
   by_cases hn:t.length=1
   ·obtain⟨b,rfl⟩:=Qx3 hn;have e1:=QmE (hb b (by simp));simp[gd,gcall,bd,e1]
   ·have e:=Qt0 (a:=a) hn;rw[m1 _ hn];simp only[show(2:Int)=((1+1:Nat):Int) from rfl,e,gd,gcall,bd];simp
  rw[if_neg c1,if_neg c1]
  by_cases c2:a=wUser
  ·rw[if_pos c2,if_pos c2]
   by_cases hn:t.length=2
   ·obtain⟨b,c,rfl⟩:=Qww hn;have e1:=QmE (hb b (by simp));have e2:=Qsv (hb c (by simp));simp[gd,gcall,bd,e1,e2]
    cases Qdd b<;>simp
   ·have e:=Qt0 (a:=a) hn;rw[m2 _ hn];simp only[show(3:Int)=((2+1:Nat):Int) from rfl,e,gd,gcall,bd];simp
  rw[if_neg c2,if_neg c2]
  by_cases c3:a=Q7
  ·rw[if_pos c3,if_pos c3]
   by_cases hn:t.length=2
   ·obtain⟨b,c,rfl⟩:=Qww hn;have e1:=QgS (lo:=0) (hi:=7) (hb b (by simp));have e2:=Qcy (hb c (by simp));simp[gd,gcall,bd,e1,e2,ckP]
    cases isN b 0 7<;>simp
   ·by_cases hn4:t.length=4
    ·obtain⟨b,c,d,e,rfl⟩:=Qwx hn4;have e1:=QgS (lo:=0) (hi:=7) (hb b (by simp));have e2:=Qcy (hb c (by simp));have e3:=QmE (hb e (by simp));have e4:(tS d==(⟨#[105,110]⟩:Bt))=(d==wIn):=Ju d wIn;simp[gd,gcall,bd,e1,e2,e3,e4,ckP]
     by_cases hd:d=wIn<;>simp[hd]
     cases Qdd e<;>cases isN b 0 7<;>simp
    ·have e:=Qt0 (a:=a) hn;have e5:=Qt0 (a:=a) hn4;rw[m24 _ _ hn hn4];simp only[show(3:Int)=((2+1:Nat):Int) from rfl,show(5:Int)=((4+1:Nat):Int) from rfl,e,e5,gd,gcall,bd];simp
  rw[if_neg c3,if_neg c3]
  by_cases c4:a=QaM
  ·rw[if_pos c4,if_pos c4]
   by_cases hn:t.length=6
   ·obtain⟨b,c,d,e,f,g,rfl⟩:=Qx5 hn;have e1:=QmE (hb b (by simp));have e2:=QgS (lo:=0) (hi:=99) (hb c (by simp));have e3:(tS d==(⟨#[112,101,114,109,105,116]⟩:Bt))=(d==QgU):=Ju d QgU;have e4:(tS d==(⟨#[100,101,110,121]⟩:Bt))=(d==QoV):=Ju d QoV;have e5:=Qcy (hb e (by simp));have e6:=Qcy (hb f (by simp));have e7:=QgS (lo:=0) (hi:=7) (hb g (by simp));simp[gd,gcall,bd,e1,e2,e3,e4,e5,e6,e7,ckP,ckV]
    cases Qdd b<;>simp
    cases isN c 0 99<;>simp
    by_cases hd:d=QgU∨d=QoV
    ·simp[hd]
     cases QdV e<;>simp
     cases QdV f<;>simp
    ·simp[hd]
   ·have e:=Qt0 (a:=a) hn;rw[m6 _ hn];simp only[show(7:Int)=((6+1:Nat):Int) from rfl,e,gd,gcall,bd];simp
  rw[if_neg c4,if_neg c4]
  by_cases c5:a=QaR
  ·rw[if_pos c5,if_pos c5]
   by_cases hn:t.length=2
   ·obtain⟨b,c,rfl⟩:=Qww hn;have e1:=Qcy (hb b (by simp));have e2:=Qic (hb c (by simp));simp[gd,gcall,bd,e1,e2,ckP,ckA]
    cases QdV b<;>simp
   ·have e:=Qt0 (a:=a) hn;rw[m2 _ hn];simp only[show(3:Int)=((2+1:Nat):Int) from rfl,e,gd,gcall,bd];simp
  rw[if_neg c5,if_neg c5]
  by_cases c6:a=Qbm
  ·rw[if_pos c6,if_pos c6]
   by_cases hn:t.length=3
   ·obtain⟨b,c,d,rfl⟩:=Qx4 hn;have e1:=Qic (hb b (by simp));have e2:=QgS (lo:=1) (hi:=9) (hb c (by simp));have e3:=QgS (lo:=1) (hi:=999999) (hb d (by simp));simp[gd,gcall,bd,e1,e2,e3,ckA]
    by_cases hA:0≤ZR b
    ·simp[hA];cases isN c 1 9<;>simp
    ·simp[hA]
   ·have e:=Qt0 (a:=a) hn;rw[m3 _ hn];simp only[show(4:Int)=((3+1:Nat):Int) from rfl,e,gd,gcall,bd];simp
  rw[if_neg c6,if_neg c6]
  by_cases c7:a=Qie
  ·rw[if_pos c7,if_pos c7]
   by_cases hn:t.length=4
   ·obtain⟨b,c,d,e,rfl⟩:=Qwx hn;have e1:=Qcy (hb b (by simp));have e2:=Qic (hb c (by simp));have e3:=QgS (lo:=1) (hi:=65535) (hb d (by simp));have e4:=QgS (lo:=1) (hi:=65535) (hb e (by simp));simp[gd,gcall,bd,e1,e2,e3,e4,ckA,ckP]
    cases QdV b<;>simp
    by_cases hA:0≤ZR c
    ·simp[hA];cases isN d 1 65535<;>simp
    ·simp[hA]
   ·have e:=Qt0 (a:=a) hn;rw[m4 _ hn];simp only[show(5:Int)=((4+1:Nat):Int) from rfl,e,gd,gcall,bd];simp
  rw[if_neg c7,if_neg c7]
  by_cases c8:a=wDoor
  ·rw[if_pos c8,if_pos c8]
   by_cases hn:t.length=4
   ·obtain⟨b,c,d,e,rfl⟩:=Qwx hn;have e1:=QgS (lo:=1) (hi:=7) (hb b (by simp));have e2:=QgS (lo:=1) (hi:=65535) (hb c (by simp));have e3:=Qic (hb d (by simp));have e4:=QgS (lo:=1) (hi:=65535) (hb e (by simp));simp[gd,gcall,bd,e1,e2,e3,e4,ckA]
    cases isN b 1 7<;>simp
    cases isN c 1 65535<;>simp
    by_cases hA:0≤ZR d
    ·simp[hA]
    ·simp[hA]
   ·have e:=Qt0 (a:=a) hn;rw[m4 _ hn];simp only[show(5:Int)=((4+1:Nat):Int) from rfl,e,gd,gcall,bd];simp
  rw[if_neg c8,if_neg c8]
def ckF:Fnv→Bs→Bool
 | .k f,w=>if f=97 then Qdd w else if f=180 then Qkk w else if f=181 then ckP w else ckA w
 | .r _ lo hi,w=>isN w lo hi
 | .w _ ws,w=>ws.any (· ==tS w)
def okF:Fnv→Prop
 | .k f=>f=97∨f=180∨f=181∨f=183
 | .r f _ _=>f=205
 | .w f ws=>f=206∧ws.length≤100
theorem QwZ {c:Fnv} {w:Bs} (hc:okF c) (h:w.length≤1000000):Qgr c (tS w)=some (ckF c w):=by
 unfold Qgr ckF
 cases c with
 |k f=>
  rcases hc with rfl|rfl|rfl|rfl
  ·exact Qsq h
  ·exact Qsu h
  ·exact QoU h
  ·exact Qsz h
 |r f lo hi=>
  have hc:f=205:=hc;subst hc;exact QxK h
 |w f ws=>
  obtain⟨hf,hl⟩:=hc;subst hf;show Qb6 (tS w) ws=_;unfold Qb6;rw[QlO (by omega),Qa]
def Qhy (f:form) (ws:List Bs):Bool:=decide (ws.length=f.checks.length+1)&&QaH f.checks.length fun i=>ckF (f.checks.getD i default) (ws.getD (i+1) [])
theorem ZO {xs:List Bs} {i:Nat} (h:i<xs.length):(xs.map tS).getD i default=tS (xs.getD i []):=by
 simp[List.getD_eq_getElem?_getD,h]
theorem Qbd {xs:List Bs} {i:Nat} (h:i<xs.length):xs.getD i []∈xs:=by
 rw[List.getD_eq_getElem?_getD,List.getElem?_eq_getElem h];exact List.getElem_mem h
theorem QvV {f:form} {ws:List Bs} (hf:∀c∈f.checks,okF c) (hl:f.checks.length≤100) (h:∀w∈ws,w.length≤1000000):QbF f (ws.map tS)=some (Qhy f ws):=by
 unfold QbF Qhy;rw[QC (by omega) (by omega)]
 by_cases hn:ws.length=f.checks.length+1
 ·rw[if_neg (by simp;omega),decide_eq_true hn,Bool.true_and];rw[Qgm f.checks.length (fun i=>ckF (f.checks.getD i default) (ws.getD (i+1) [])) (.inl ()) (.inr ()) (fun i hi _=>?_) (fun _=>by rw[if_neg (by simp)]),Qa]
  ·cases QaH f.checks.length fun i=>ckF (f.checks.getD i default) (ws.getD (i+1) [])<;>rfl
  ·have hw:i+1<ws.length:=by omega
   rw[if_pos (by simp;omega),Qd (by omega),Qm hi (by omega),Qd (by simp;omega),Int.toNat_natCast,Int.toNat_natCast,ZO hw,QwZ (hf _ (JP hi)) (h _ (Qbd hw)),Qa]
   cases ckF (f.checks.getD i default) (ws.getD (i+1) [])<;>rfl
 ·rw[if_pos (by simp;omega),decide_eq_false hn,Bool.false_and]
def fHost:form:=⟨tS Qfe,1,[.k 97]⟩
def fUser:form:=⟨tS wUser,2,[.k 97,.k 180]⟩
def QoW:form:=⟨tS Q7,2,[.r 205 0 7,.k 181]⟩
def Qhz:form:=⟨tS Q7,2,[.r 205 0 7,.k 181,.w 206 [tS wIn],.k 97]⟩
def fRule:form:=⟨tS QaM,3,[.k 97,.r 205 0 99,.w 206 [tS QgU,tS QoV],.k 181,.k 181,.r 205 0 7]⟩
def fRoute:form:=⟨tS QaR,3,[.k 181,.k 183]⟩
def fPeer:form:=⟨tS Qbm,2,[.k 183,.r 205 1 9,.r 205 1 999999]⟩
def fNat:form:=⟨tS Qie,1,[.k 181,.k 183,.r 205 1 65535,.r 205 1 65535]⟩
def fDoor:form:=⟨tS wDoor,3,[.r 205 1 7,.r 205 1 65535,.k 183,.r 205 1 65535]⟩
def allF:List form:=[fHost,fUser,QoW,Qhz,fRule,fRoute,fPeer,fNat,fDoor]
theorem QvW:∀f∈allF,(∀c∈f.checks,okF c)∧f.checks.length≤100:=by
 intro f hf;simp only[allF,List.mem_cons,List.mem_nil_iff,or_false] at hf;rcases hf with rfl|rfl|rfl|rfl|rfl|rfl|rfl|rfl|rfl<;>refine⟨?_,by decide⟩<;>intro c hc<;>
  simp only[fHost,fUser,QoW,Qhz,fRule,fRoute,fPeer,fNat,fDoor,List.mem_cons,List.mem_nil_iff,or_false] at hc<;>
  rcases hc with rfl|rfl|rfl|rfl|rfl|rfl<;>simp[okF]
theorem Qt1 (s:Bt):QcK s=some (allF.filter fun f=>f.word==s):=by
 have e:QcK s=Qwu (fun f=>Qaf f s) allF:=rfl;rw[e,Qsi (pm:=fun f=>Qaf f s) (p:=fun f=>!(f.word==s)) (fun x _=>rfl) (by decide)];simp
def QmG:List Bs→Option form
 |[]=>none
 |a::t=>(allF.filter fun f=>f.word==tS a).find? fun f=>Qhy f (a::t)
theorem QlP {α:Type} [Inhabited α] {p:α→Bool} {xs:List α}:xs.find? p=(JA (fun i=>p (xs.getD i default)) xs.length).map fun i=>xs.getD i default:=by
 cases h:JA (fun i=>p (xs.getD i default)) xs.length with
 |none=>
  have:=Qcx h;rw[Option.map_none,List.find?_eq_none];intro x hx;obtain⟨i,hi,e⟩:=List.getElem_of_mem hx;have:=this i hi;rw[List.getD_eq_getElem?_getD,List.getElem?_eq_getElem hi] at this;rw[←e];simpa using this
 |some i=>
  obtain⟨h1,h2,h3⟩:=Qcw h;rw[Option.map_some,List.find?_eq_some_iff_getElem];refine⟨h2,i,h1,?_,fun j hj=>?_⟩
  ·rw[List.getD_eq_getElem?_getD,List.getElem?_eq_getElem h1];rfl
  ·have:=h3 j hj;rw[List.getD_eq_getElem?_getD,List.getElem?_eq_getElem (by omega)] at this;simpa using this
theorem QnR {ws:List Bs} (h:∀w∈ws,w.length≤1000000):Qb7 (ws.map tS)=some (match QmG ws with|some f=>(f,true)|none=>(⟨ByteArray.empty,0,[]⟩,false)):=by
 unfold Qb7
 cases ws with
 |nil=>rfl
 |cons a t=>
  have g0:((a::t).map tS).getD 0 default=tS a:=rfl;have hl:(((((a::t).map tS).length:Nat):Int)==0)=false:=by rw[beq_eq_false_iff_ne];simp only[List.length_map,List.length_cons];omega
  rw[hl,if_neg (by decide),Qd (by simp),g0,Qt1,Qa];dsimp only[QmG];have hin:∀f∈allF.filter (fun f=>f.word==tS a),f∈allF:=fun f hf=>(List.mem_filter.1 hf).1;have hlen:(allF.filter (fun f=>f.word==tS a)).length≤9:=List.length_filter_le _ _;generalize allF.filter (fun f=>f.word==tS a)=xs at hin hlen;rw[QlP];rw[QaZ xs.length (fun i=>Qhy (xs.getD i default) (a::t)) (fun i=>.inl ((xs.getD i default).word,(xs.getD i default).key,(xs.getD i default).checks)) (.inr ()) (fun i hi=>?_) (by rw[if_neg (by simp)]),Qa]
  ·cases JA (fun i=>Qhy (xs.getD i default) (a::t)) xs.length<;>rfl
  ·have ho:=QvW _ (hin _ (JP hi));rw[if_pos (by simp;omega),Qd (by omega),Int.toNat_natCast,QvV ho.1 ho.2 h,Qa,Qm hi (by omega)]
   cases Qhy (xs.getD i default) (a::t)<;>rfl
theorem QxM (a:Bs):(allF.filter fun f=>f.word==tS a)=if a=Qfe then [fHost] else if a=wUser then [fUser] else if a=Q7 then [QoW,Qhz] else if a=QaM then [fRule] else if a=QaR then [fRoute] else if a=Qbm then [fPeer] else if a=Qie then [fNat] else if a=wDoor then [fDoor] else []:=by
 have e:∀c:Bs,(tS c==tS a)=decide (a=c):=fun c=>by
  rw[QxL];rw[decide_eq_decide];exact eq_comm
 simp only[allF,fHost,fUser,QoW,Qhz,fRule,fRoute,fPeer,fNat,fDoor,List.filter_cons,List.filter_nil,e,decide_eq_true_eq]
 by_cases c1:a=Qfe
 ·subst c1;rfl
 rw[if_neg c1,if_neg c1]
 by_cases c2:a=wUser
 ·subst c2;rfl
 rw[if_neg c2,if_neg c2]
 by_cases c3:a=Q7
 ·subst c3;rfl
 rw[if_neg c3,if_neg c3,if_neg c3]
 by_cases c4:a=QaM
 ·subst c4;rfl
 rw[if_neg c4,if_neg c4]
 by_cases c5:a=QaR
 ·subst c5;rfl
 rw[if_neg c5,if_neg c5]
 by_cases c6:a=Qbm
 ·subst c6;rfl
 rw[if_neg c6,if_neg c6]
 by_cases c7:a=Qie
 ·subst c7;rfl
 rw[if_neg c7,if_neg c7]
theorem Qgn {f:form} {a:Bs} {t:List Bs} (h:t.length≠f.checks.length):Qhy f (a::t)=false:=by
 unfold Qhy;rw[decide_eq_false (by simp only[List.length_cons];omega),Bool.false_and]
theorem QhA {f:form} {p:form→Bool} {b:Bool} (h:p f=b):([f].find? p).map (·.key)=bif b then some f.key else none:=by
 subst h;simp only[List.find?_cons,List.find?_nil]
 cases p f<;>rfl
theorem inB (d:Bs):ckF (.w 206 [tS wIn]) d=(d==wIn):=by
 show(tS wIn==tS d||false)=_;rw[Ju,Bool.or_false,Bool.eq_iff_iff];simp only[beq_iff_eq];exact eq_comm
theorem inV (d:Bs):ckF (.w 206 [tS QgU,tS QoV]) d=ckV d:=by
 show(tS QgU==tS d||(tS QoV==tS d||false))=_;rw[Ju,Ju,Bool.or_false,Bool.eq_iff_iff];unfold ckV;simp only[beq_iff_eq,Bool.or_eq_true]
 constructor<;>rintro(h|h)<;>simp[h]
theorem QnS (ws:List Bs):(QmG ws).map (·.key)=bif QfN ws then some ((keyN (ws.getD 0 []):Nat):Int) else none:=by
 cases ws with
 |nil=>rfl
 |cons a t=>
  dsimp only[QmG,QfN];rw[QxM];have hk:(a::t).getD 0 []=a:=rfl;rw[hk]
  by_cases c1:a=Qfe
  ·rw[if_pos c1,if_pos c1];have kk:keyN a=fHost.key.toNat:=by rw[c1];rfl
   by_cases hn:t.length=1
   ·obtain⟨b,rfl⟩:=Qx3 hn;rw[kk];refine QhA ?_;simp[Qhy,fHost,QaH,List.range_succ,ckF,inV,←inV,Bool.and_assoc]
   ·rw[m1 _ hn];exact QhA (p:=fun f=>Qhy f (a::t)) (Qgn (f:=fHost) hn)
  rw[if_neg c1,if_neg c1]
  by_cases c2:a=wUser
  ·rw[if_pos c2,if_pos c2];have kk:keyN a=fUser.key.toNat:=by rw[c2];rfl
   by_cases hn:t.length=2
   ·obtain⟨b,c,rfl⟩:=Qww hn;rw[kk];refine QhA ?_;simp[Qhy,fUser,QaH,List.range_succ,ckF,inV,←inV,Bool.and_assoc]
   ·rw[m2 _ hn];exact QhA (p:=fun f=>Qhy f (a::t)) (Qgn (f:=fUser) hn)
  rw[if_neg c2,if_neg c2]
  by_cases c3:a=Q7
  ·rw[if_pos c3,if_pos c3];have kk:keyN a=2:=by rw[c3];rfl
   rw[kk]
   by_cases hn:t.length=2
   ·obtain⟨b,c,rfl⟩:=Qww hn;have e1:Qhy QoW [a,b,c]=(isN b 0 7&&ckP c):=by simp[Qhy,QoW,QaH,List.range_succ,ckF]
    have e2:Qhy Qhz [a,b,c]=false:=Qgn (by simp[Qhz]);simp only[List.find?_cons,List.find?_nil,e1,e2]
    cases isN b 0 7&&ckP c<;>rfl
   ·have e1:Qhy QoW (a::t)=false:=Qgn hn
    by_cases hn4:t.length=4
    ·obtain⟨b,c,d,e,rfl⟩:=Qwx hn4;have e2:Qhy Qhz [a,b,c,d,e]=(isN b 0 7&&ckP c&&d==wIn&&Qdd e):=by
      rw[←inB d];simp[Qhy,Qhz,QaH,List.range_succ,ckF,Bool.and_assoc]
     simp only[List.find?_cons,List.find?_nil,e1,e2]
     cases isN b 0 7&&ckP c&&d==wIn&&Qdd e<;>rfl
    ·have e2:Qhy Qhz (a::t)=false:=Qgn hn4;simp only[List.find?_cons,List.find?_nil,e1,e2,m24 _ _ hn hn4]
     rfl
  rw[if_neg c3,if_neg c3]
  by_cases c4:a=QaM
  ·rw[if_pos c4,if_pos c4];have kk:keyN a=fRule.key.toNat:=by rw[c4];rfl
   by_cases hn:t.length=6
   ·obtain⟨b,c,d,e,f,g,rfl⟩:=Qx5 hn;rw[kk];refine QhA ?_;simp[Qhy,fRule,QaH,List.range_succ,ckF,inV,←inV,Bool.and_assoc]
   ·rw[m6 _ hn];exact QhA (p:=fun f=>Qhy f (a::t)) (Qgn (f:=fRule) hn)
  rw[if_neg c4,if_neg c4]
  by_cases c5:a=QaR
  ·rw[if_pos c5,if_pos c5];have kk:keyN a=fRoute.key.toNat:=by rw[c5];rfl
   by_cases hn:t.length=2
   ·obtain⟨b,c,rfl⟩:=Qww hn;rw[kk];refine QhA ?_;simp[Qhy,fRoute,QaH,List.range_succ,ckF,inV,←inV,Bool.and_assoc]
   ·rw[m2 _ hn];exact QhA (p:=fun f=>Qhy f (a::t)) (Qgn (f:=fRoute) hn)
  rw[if_neg c5,if_neg c5]
  by_cases c6:a=Qbm
  ·rw[if_pos c6,if_pos c6];have kk:keyN a=fPeer.key.toNat:=by rw[c6];rfl
   by_cases hn:t.length=3
   ·obtain⟨b,c,d,rfl⟩:=Qx4 hn;rw[kk];refine QhA ?_;simp[Qhy,fPeer,QaH,List.range_succ,ckF,inV,←inV,Bool.and_assoc]
   ·rw[m3 _ hn];exact QhA (p:=fun f=>Qhy f (a::t)) (Qgn (f:=fPeer) hn)
  rw[if_neg c6,if_neg c6]
  by_cases c7:a=Qie
  ·rw[if_pos c7,if_pos c7];have kk:keyN a=fNat.key.toNat:=by rw[c7];rfl
   by_cases hn:t.length=4
   ·obtain⟨b,c,d,e,rfl⟩:=Qwx hn;rw[kk];refine QhA ?_;simp[Qhy,fNat,QaH,List.range_succ,ckF,inV,←inV,Bool.and_assoc]
   ·rw[m4 _ hn];exact QhA (p:=fun f=>Qhy f (a::t)) (Qgn (f:=fNat) hn)
  rw[if_neg c7,if_neg c7]
  by_cases c8:a=wDoor
  ·rw[if_pos c8,if_pos c8];have kk:keyN a=fDoor.key.toNat:=by rw[c8];rfl
   by_cases hn:t.length=4
   ·obtain⟨b,c,d,e,rfl⟩:=Qwx hn;rw[kk];refine QhA ?_;simp[Qhy,fDoor,QaH,List.range_succ,ckF,inV,←inV,Bool.and_assoc]
   ·rw[m4 _ hn];exact QhA (p:=fun f=>Qhy f (a::t)) (Qgn (f:=fDoor) hn)
  rw[if_neg c8,if_neg c8]
  rfl
theorem QlQ {ws:List Bs} {f:form} (h:QmG ws=some f):QfN ws=true∧f.key=((keyN (ws.getD 0 []):Nat):Int):=by
 have:=QnS ws;rw[h,Option.map_some] at this
 cases hb:QfN ws
 ·rw[hb] at this;cases this
 ·rw[hb,cond_true,Option.some.injEq] at this;exact⟨rfl,this⟩
theorem QlR {ws:List Bs} (h:QmG ws=none):QfN ws=false:=by
 have:=QnS ws;rw[h,Option.map_none] at this
 cases hb:QfN ws
 ·rfl
 ·rw[hb] at this;cases this
def QbM:List Bs→Bs
 |[]=>[]
 |a::t=>a++t.flatMap fun w=>32::w
theorem QhB (a b:Bs):tS a++tS b=tS (a++b):=by
 apply Qsg
 rw[tB_tS];show(ByteArray.append (tS a) (tS b)).data.toList=_;simp[tS]
theorem QvX (ws:List Bs):QiP (ws.map tS) (tS [32])=tS (QbM ws):=by
 have e1:(ws.map tS).map (fun x=>x.data.toList)=ws:=by
  rw[List.map_map];have:((fun x:Bt=>x.data.toList)∘tS)=id:=funext fun x=>tB_tS x;rw[this,List.map_id]
 have e2:(tS [32]).data.toList=[32]:=rfl;unfold QiP;rw[e1,e2];show tS _=_
 cases ws with
 |nil=>rfl
 |cons a t=>
  rw[Lib.join_cons];unfold Lib.joinTail QbM
  congr 2
def QgV (ws:List Bs) (i:Nat):Bs:=if i=0 then QbM ws else(ws.drop i).flatMap fun w=>32::w
theorem QvY {ws:List Bs} (h:(QbM ws).length≤1000000000) (hw:ws.length≤1000000):Qbn (ws.map tS) (tS [32])=some (tS (QbM ws)):=by
 unfold Qbn;have key:∀(k i:Nat) (s:Bs),i+k=ws.length→(i=0→s=[])→(s++QgV ws i).length≤1000000000→lp (σ:=Bt×Int) (β:=(Bt)) (fun s1=>
(if(decide (s1.2<(((ws.map tS).length:Nat):Int)))=true then
(if(decide (s1.2>0))=true then
 gd (s1.1.size+(tS [32]).size≤9223372036854775807)<|
 gd ((0:Int)≤s1.2∧s1.2<(((ws.map tS).length:Nat):Int))<|
 gd ((s1.1++(tS [32])).size+((ws.map tS).getD s1.2.toNat default).size≤9223372036854775807)<|
 some (.inl (((s1.1++(tS [32]))++((ws.map tS).getD s1.2.toNat default)),IntKind.i64.wrap (s1.2+1)))
else
 gd ((0:Int)≤s1.2∧s1.2<(((ws.map tS).length:Nat):Int))<|
 gd (s1.1.size+((ws.map tS).getD s1.2.toNat default).size≤9223372036854775807)<|
 some (.inl ((s1.1++((ws.map tS).getD s1.2.toNat default)),IntKind.i64.wrap (s1.2+1))))
else
 some (.inr s1.1))) (tS s,(i:Int))=some (tS (s++QgV ws i)):=by
  intro k
  induction k with
  |zero=>
   intro i s hi h0 hl;have hi:i=ws.length:=by omega
   subst hi;refine ZN ?_;dsimp only;rw[if_neg (by simp)];have:QgV ws ws.length=[]:=by
    unfold QgV;split
    ·rename_i h;rw[List.eq_nil_of_length_eq_zero h];rfl
    ·simp
   rw[this,List.append_nil]
  |succ k ih=>
   intro i s hi h0 hl;have hil:i<ws.length:=by omega
   have hd:ws.drop i=ws.getD i []::ws.drop (i+1):=by
    rw[List.drop_eq_getElem_cons hil,List.getD_eq_getElem?_getD,List.getElem?_eq_getElem hil];rfl
   have hr1:QgV ws (i+1)=(ws.drop (i+1)).flatMap fun w=>32::w:=if_neg (by omega)
   by_cases hz:i=0
   ·subst hz;have hs:=h0 rfl;subst hs;have hr:QgV ws 0=ws.getD 0 []++QgV ws 1:=by
     rw[hr1];unfold QgV;rw[if_pos rfl];rw[List.drop_zero] at hd
     conv=>lhs;rw[hd]
     rfl
    have e:([]:Bs)++QgV ws 0=ws.getD 0 []++QgV ws (0+1):=hr;have hl':=hl;rw[e] at hl'⊢;have hlen:=hl';rw[List.length_append] at hlen;rw[←ih 1 (ws.getD 0 []) (by omega) (by omega) hl'];refine J5 ?_;dsimp only;rw[if_pos (by simp;omega),if_neg (by simp),Qd (by simp;omega),Int.toNat_natCast,ZO hil,Qd (by simp only[QaA,List.length_nil];omega),QhB,Qm hil (by omega)]
    rfl
   ·have hr:QgV ws i=32::ws.getD i []++QgV ws (i+1):=by
     rw[hr1];unfold QgV;rw[if_neg hz,hd]
     rfl
    have e:s++QgV ws i=(s++[32]++ws.getD i [])++QgV ws (i+1):=by rw[hr];simp
    rw[e] at hl⊢;have hlen:=hl;simp only[List.length_append,List.length_cons,List.length_nil] at hlen;rw[←ih (i+1) (s++[32]++ws.getD i []) (by omega) (by omega) hl];refine J5 ?_;dsimp only;rw[if_pos (by simp;omega),if_pos (by simp;omega),Qd (by simp;omega),Qd (by simp;omega),Int.toNat_natCast,ZO hil,QhB,Qd (by simp only[QaA,List.length_append,List.length_cons,List.length_nil];omega),QhB,Qm hil (by omega)]
 have k0:=key ws.length 0 [] (by omega) (fun _=>rfl) (by rw[List.nil_append];exact h);refine(congrArg (fun m=>bd m _) k0).trans ?_;rw[Qa]
 rfl
theorem QmH {c:UInt8}:∀ {l w:Bs},w∈Qcm c l→c∉w
 |[],w,h=>by simp[Qcm] at h;simp[h]
 |b::r,w,h=>by
  unfold Qcm at h;split at h
  ·rcases List.mem_cons.1 h with rfl|h
   ·simp
   ·exact QmH h
  ·rename_i hb;split at h
   ·simp at h;subst h;simp[Ne.symm hb]
   ·rename_i x xs e;rcases List.mem_cons.1 h with rfl|h
    ·have:c∉x:=QmH (l:=r) (by rw[e];simp);simp[Ne.symm hb,this]
    ·exact QmH (l:=r) (by rw[e];simp[h])
structure WordsOk (ws:List Bs):Prop where
 few:ws.length≤8
 short:∀w∈ws,w.length≤24
 no:∀w∈ws,(32:UInt8)∉w
 ne:∀w∈ws,w≠ []
theorem QcW {l:Bs} {ws:List Bs} (h:Qe2 l=some ws):WordsOk ws:=by
 unfold Qe2 at h;split at h
 ·rename_i hc;simp only[Option.some.injEq] at h;subst h;have hf:=hc.2;simp only[QwY,Bool.and_eq_true,decide_eq_true_eq,List.all_eq_true] at hf;refine⟨hf.1,hf.2,fun w hw=>?_,fun w hw=>?_⟩
  ·exact QmH (List.mem_filter.1 hw).1
  ·have:=(List.mem_filter.1 hw).2;intro e;subst e;simp at this
 ·cases h
theorem WordsOk.long {ws:List Bs} (h:WordsOk ws):∀w∈ws,w.length≤1000000:=fun w hw=>by have:=h.short w hw;omega
theorem QpR:∀ {t:List Bs},(∀w∈t,w.length≤24)→(t.flatMap fun w=>32::w).length≤25*t.length
 |[],_=>by simp
 |b::r,h=>by
  have:=QpR (t:=r) fun w hw=>h w (by simp[hw]);have:=h b (by simp);rw[List.flatMap_cons,List.length_append,List.length_cons,List.length_cons];omega
theorem WordsOk.joins {ws:List Bs} (h:WordsOk ws):(QbM ws).length≤200:=by
 cases ws with
 |nil=>simp[QbM]
 |cons a t=>
  have h1:=QpR (t:=t) fun w hw=>h.short w (by simp[hw]);have h2:=h.short a (by simp);have h3:=h.few;show(a++t.flatMap fun w=>32::w).length≤200;rw[List.length_append];simp at h3;omega
theorem Qif:∀ {ws:List Bs},ws≠ []→(∀w∈ws,(32:UInt8)∉w)→Qcm 32 (QbM ws)=ws
 |[],h,_=>absurd rfl h
 |[a],_,h=>by
  have:QbM [a]=a:=by simp[QbM]
  rw[this,QdP (h a (by simp))]
 |a::b::t,_,h=>by
  have e:QbM (a::b::t)=a++32::QbM (b::t):=by simp[QbM]
  rw[e,Qe0 (h a (by simp)),Qif (by simp) fun w hw=>h w (by simp[hw])]
def Qig (l:Bs):Option Bs:=match Qe2 l with
 |some ws=>bif QfN ws then some (QbM ws) else none
 |none=>none
def QaW (l:Bs):Bool:=Qig l==some l
def wsL (l:Bs):List Bs:=(Qe2 l).getD []
def Qde (l:Bs):Bs:=bif QaW l then QbM ((wsL l).take (keyN ((wsL l).getD 0 []))) else []
theorem QvZ {l:Bs} (h:l.length≤1000000):QbV (tS l)=some (match Qig l with|some x=>(tS x,true)|none=>(tS [],false)):=by
 unfold QbV Qig;rw[QmB (by omega)]
 cases hc:Qe2 l with
 |none=>
  dsimp only;rw[Qa];dsimp only;rw[QZ (by decide),Qa,if_pos (by rfl)]
  rfl
 |some ws=>
  have W:=QcW hc;dsimp only;rw[Qa];dsimp only;rw[Ql (by rfl),QvU W.long,Qa]
  cases QfN ws
  ·rfl
  ·have:=W.joins;rw[if_neg (by decide),show Qbn (ws.map tS) ⟨#[32]⟩=_ from QvY (by omega) (by have:=W.few;omega),Qa]
   rfl
theorem QsA {ws:List Bs} (h:(QbM ws).length≤1000000) (hw:ws.length≤1000000):QaV (ws.map tS) ⟨#[32]⟩=some (tS (QbM ws)):=by
 unfold QaV;rw[show QiP (ws.map tS) ⟨#[32]⟩=_ from QvX ws,Qd (by simp;omega)]
theorem QsB {l:Bs} (h:l.length≤1000000):Qa3 (tS l)=some (match Qig l with|some x=>(tS x,true)|none=>(tS [],false)):=by
 unfold Qa3 Qig;rw[QtY h]
 cases hc:Qe2 l with
 |none=>
  dsimp only;rw[Qa,if_pos (by rfl)]
  rfl
 |some ws=>
  have W:=QcW hc;have hj:=W.joins;have hf:=W.few;dsimp only;rw[Qa,if_neg (by simp),QnR W.long,Qa]
  cases hF:QmG ws with
  |none=>rw[QlR hF];rfl
  |some f=>
   rw[(QlQ hF).1];dsimp only;rw[if_neg (by decide),QsA (by omega) (by omega),Qa]
   rfl
theorem Qv0 (l:Bs) (o:Option Bs):((match o with|some x=>(tS x,true)|none=>(tS [],false)):Bt×Bool).2=true∧(((match o with|some x=>(tS x,true)|none=>(tS [],false)):Bt×Bool).1==tS l)=true↔(o==some l)=true:=by
 cases o with
 |none=>simp
 |some x=>simp[Ju]
theorem QuU (l:Bs) (o:Option Bs):(((match o with|some x=>(tS x,true)|none=>(tS [],false)):Bt×Bool).2&&(((match o with|some x=>(tS x,true)|none=>(tS [],false)):Bt×Bool).1==tS l))=(o==some l):=by
 rw[Bool.eq_iff_iff,Bool.and_eq_true];exact Qv0 l o
theorem Qv1 {l:Bs} (h:l.length≤1000000):QcD (tS l)=some (QaW l):=by
 unfold QcD;rw[QvZ h,Qa,QuU]
 rfl
theorem QsC {l:Bs} (h:l.length≤1000000):Qb8 (tS l)=some (QaW l):=by
 unfold Qb8;rw[QsB h,Qa,QuU]
 rfl
theorem Qc9 {l:Bs} (h:QaW l=true):∃ws,Qe2 l=some ws∧QfN ws=true∧QbM ws=l∧wsL l=ws:=by
 unfold QaW Qig at h
 cases hc:Qe2 l with
 |none=>rw[hc] at h;simp at h
 |some ws=>
  rw[hc] at h;dsimp only at h
  cases hf:QfN ws
  ·rw[hf] at h;simp at h
  ·rw[hf] at h;simp at h;exact⟨ws,rfl,hf,h,by simp[wsL,hc]⟩
inductive LineF:List Bs→Prop
 |host {b:Bs} (h1:Qdd b=true):LineF [Qfe,b]
 |user {b c:Bs} (h1:Qdd b=true) (h2:Qkk c=true):LineF [wUser,b,c]
 |port {b c:Bs} (h1:isN b 0 7=true) (h2:ckP c=true):LineF [Q7,b,c]
 |port2 {b c e:Bs} (h1:isN b 0 7=true) (h2:ckP c=true) (h3:Qdd e=true):LineF [Q7,b,c,wIn,e]
 |rule {b c d e f g:Bs} (h1:Qdd b=true) (h2:isN c 0 99=true) (h3:ckV d=true) (h4:ckP e=true) (h5:ckP f=true) (h6:isN g 0 7=true):LineF [QaM,b,c,d,e,f,g]
 |route {b c:Bs} (h1:ckP b=true) (h2:ckA c=true):LineF [QaR,b,c]
 |peer {b c d:Bs} (h1:ckA b=true) (h2:isN c 1 9=true) (h3:isN d 1 999999=true):LineF [Qbm,b,c,d]
 |nat {b c d e:Bs} (h1:ckP b=true) (h2:ckA c=true) (h3:isN d 1 65535=true) (h4:isN e 1 65535=true):LineF [Qie,b,c,d,e]
 |door {b c d e:Bs} (h1:isN b 1 7=true) (h2:isN c 1 65535=true) (h3:ckA d=true) (h4:isN e 1 65535=true):LineF [wDoor,b,c,d,e]
theorem Qt2 {ws:List Bs} (h:QfN ws=true):LineF ws:=by
 cases ws with
 |nil=>cases h
 |cons a t=>
  dsimp only[QfN] at h
  by_cases c1:a=Qfe
  ·rw[if_pos c1] at h;subst c1;split at h
   ·exact .host h
   ·cases h
  rw[if_neg c1] at h
  by_cases c2:a=wUser
  ·rw[if_pos c2] at h;subst c2;split at h
   ·simp only[Bool.and_eq_true] at h;exact .user h.1 h.2
   ·cases h
  rw[if_neg c2] at h
  by_cases c3:a=Q7
  ·rw[if_pos c3] at h;subst c3;split at h
   ·simp only[Bool.and_eq_true] at h;exact .port h.1 h.2
   ·simp only[Bool.and_eq_true,beq_iff_eq] at h;obtain⟨⟨⟨h1,h2⟩,h3⟩,h4⟩:=h;subst h3;exact .port2 h1 h2 h4
   ·cases h
  rw[if_neg c3] at h
  by_cases c4:a=QaM
  ·rw[if_pos c4] at h;subst c4;split at h
   ·simp only[Bool.and_eq_true] at h;obtain⟨⟨⟨⟨⟨h1,h2⟩,h3⟩,h4⟩,h5⟩,h6⟩:=h;exact .rule h1 h2 h3 h4 h5 h6
   ·cases h
  rw[if_neg c4] at h
  by_cases c5:a=QaR
  ·rw[if_pos c5] at h;subst c5;split at h
   ·simp only[Bool.and_eq_true] at h;exact .route h.1 h.2
   ·cases h
  rw[if_neg c5] at h
  by_cases c6:a=Qbm
  ·rw[if_pos c6] at h;subst c6;split at h
   ·simp only[Bool.and_eq_true] at h;exact .peer h.1.1 h.1.2 h.2
   ·cases h
  rw[if_neg c6] at h
  by_cases c7:a=Qie
  ·rw[if_pos c7] at h;subst c7;split at h
   ·simp only[Bool.and_eq_true] at h;exact .nat h.1.1.1 h.1.1.2 h.1.2 h.2
   ·cases h
  rw[if_neg c7] at h
  by_cases c8:a=wDoor
  ·rw[if_pos c8] at h;subst c8;split at h
   ·simp only[Bool.and_eq_true] at h;exact .door h.1.1.1 h.1.1.2 h.1.2 h.2
   ·cases h
  rw[if_neg c8] at h;cases h
theorem QmI {ws:List Bs} (h:LineF ws):keyN (ws.getD 0 [])≤ws.length∧1≤keyN (ws.getD 0 []):=by
 cases h<;>(simp only[List.getD_cons_zero,List.length_cons,List.length_nil];decide)
theorem QmJ {ws:List Bs} (h:QfN ws=true):ws≠ []:=by
 intro e;subst e;cases h
theorem Qt3 {ws:List Bs} (h:QfN ws=true):∃f,QmG ws=some f:=by
 cases hf:QmG ws with
 |none=>rw[QlR hf] at h;cases h
 |some f=>exact⟨f,rfl⟩
theorem QmK (ws:List Bs) (k:Nat):(ws.map tS).take k=(ws.take k).map tS:=List.map_take.symm
theorem QlS {ws:List Bs} (h:WordsOk ws) (k:Nat):(QbM (ws.take k)).length≤200:=by
 refine WordsOk.joins ⟨?_,fun w hw=>h.short w (List.mem_of_mem_take hw),fun w hw=>h.no w (List.mem_of_mem_take hw),fun w hw=>h.ne w (List.mem_of_mem_take hw)⟩;have:=h.few;rw[List.length_take];omega
theorem QlT {l:Bs} (h:QaW l=true):Qcm 32 l=wsL l:=by
 obtain⟨ws,hc,hb,hj,hw⟩:=Qc9 h;rw[hw,←hj];exact Qif (QmJ hb) (QcW hc).no
theorem QhC {l:Bs} (h:QaW l=true):l.length≤200:=by
 obtain⟨ws,hc,hb,hj,hw⟩:=Qc9 h;rw[←hj];exact(QcW hc).joins
theorem QsD {l:Bs} (h:l.length≤1000000):Zv (tS l)=some (tS (Qde l)):=by
 unfold Zv Qde;rw[QsC h,Qa]
 cases hk:QaW l
 ·rfl
 obtain⟨ws,hc,hb,hj,hw⟩:=Qc9 hk;obtain⟨f,hf⟩:=Qt3 hb;have W:=QcW hc;have hkn:=QmI (Qt2 hb);have hs:Qcm 32 l=ws:=by rw[QlT hk,hw]
 rw[if_neg (by decide),ZK,Qd ⟨by rw[QaA];omega,by decide⟩,Qa,show QkE (tS l) ⟨#[32]⟩=_ from Qmz 32 l,hs,QnR W.long,Qa,hf];dsimp only;rw[(QlQ hf).2,Qd (by rw[List.length_map];omega),Int.toNat_natCast,QmK,QsA (by have:=QlS W (keyN (ws.getD 0 []));omega) (by have:=W.few;rw[List.length_take];omega),Qa,hw]
 rfl
theorem QuV {l:Bs} (h:l.length≤1000000):Zl (tS l)=some (tS (Qde l)):=by
 unfold Zl Qde;rw[Qv1 h,Qa]
 cases hk:QaW l
 ·rfl
 obtain⟨ws,hc,hb,hj,hw⟩:=Qc9 hk;have W:=QcW hc;have F:=Qt2 hb;rw[if_neg (by decide),QmB (by omega),hc,Qa,hw];dsimp only;have e32:(⟨#[32]⟩:Bt)=tS [32]:=rfl;have w24:∀i,i<ws.length→(ws.getD i []).length≤24:=fun i hi=>W.short _ (Qbd hi);have hpos:0<ws.length:=by cases F<;>simp
 generalize hwl:((ws.map tS).length:Nat)=n;have hn:n=ws.length:=by rw[←hwl,List.length_map]
 have g0:(ws.map tS).getD 0 default=tS (ws.getD 0 []):=ZO hpos;rw[g0];generalize ha:ws.getD 0 []=a;rw[show(⟨#[104,111,115,116]⟩:Bt)=tS Qfe from rfl,show(⟨#[117,115,101,114]⟩:Bt)=tS wUser from rfl,show(⟨#[112,111,114,116]⟩:Bt)=tS Q7 from rfl,show(⟨#[114,117,108,101]⟩:Bt)=tS QaM from rfl,show(⟨#[112,101,101,114]⟩:Bt)=tS Qbm from rfl,show(⟨#[110,97,116]⟩:Bt)=tS Qie from rfl,show(⟨#[100,111,111,114]⟩:Bt)=tS wDoor from rfl,e32];simp only[QxL a,decide_eq_true_eq];have hal:a.length≤24:=by rw[←ha];exact w24 0 hpos
 have b1:(bd (α:=Bool) (β:=Bt) (if a=Qfe then some (decide (a=Qfe)) else some (decide (a=Qie))))=fun f=>f (decide (a=Qfe)||decide (a=Qie)):=by
  funext f
  by_cases c:a=Qfe<;>simp[c,bd]
 have b2:(bd (α:=Bool) (β:=Bt) (if a=wUser then some (decide (a=wUser)) else if a=Q7 then some (decide (a=Q7)) else some (decide (a=Qbm))))=fun f=>f (decide (a=wUser)||decide (a=Q7)||decide (a=Qbm)):=by
  funext f
  by_cases c:a=wUser
  ·simp[c,bd]
  ·by_cases c':a=Q7
   ·rw[if_neg c,if_pos c',Qa,decide_eq_true c',decide_eq_false c];rfl
   ·rw[if_neg c,if_neg c',Qa,decide_eq_false c,decide_eq_false c'];rfl
 have b3:(bd (α:=Bool) (β:=Bt) (if a=QaM then some (decide (a=QaM)) else some (decide (a=wDoor))))=fun f=>f (decide (a=QaM)||decide (a=wDoor)):=by
  funext f
  by_cases c:a=QaM<;>simp[c,bd]
 rw[Qd (by omega),b1];dsimp only
 by_cases c1:a=Qfe∨a=Qie
 ·have e:(decide (a=Qfe)||decide (a=Qie))=true:=by simpa using c1
  have ek:keyN a=1:=by unfold keyN;rw[if_pos c1]
  rw[e,if_pos rfl,Qd (by omega),ek];have:QbM (ws.take 1)=a:=by
   rw[←ha]
   cases ws with
   |nil=>simp at hpos
   |cons x t=>simp[QbM]
  rw[this]
  rfl
 have e:(decide (a=Qfe)||decide (a=Qie))=false:=by simpa using c1
 rw[e,if_neg (by decide),b2];dsimp only
 by_cases c2:a=wUser∨a=Q7∨a=Qbm
 ·have e:(decide (a=wUser)||decide (a=Q7)||decide (a=Qbm))=true:=by
   rcases c2 with c|c|c<;>simp[c]
  have ek:keyN a=2:=by unfold keyN;rw[if_neg c1,if_pos c2]
  have h2:2≤ws.length:=by rw[←ek,←ha];exact(QmI F).1
  have g1:(ws.map tS).getD 1 default=tS (ws.getD 1 []):=ZO (by omega);have l1:=w24 1 (by omega);rw[e,if_pos rfl,Qd (by omega),Qd (by simp only[QaA,List.length_cons,List.length_nil];omega),Qd (by omega),QhB,g1,Qd (by simp only[QaA,List.length_append,List.length_cons,List.length_nil];omega),QhB,ek];have:QbM (ws.take 2)=a++[32]++ws.getD 1 []:=by
   rw[←ha]
   match ws,h2 with
   |x::y::t,_=>simp[QbM]
  rw[this]
  rfl
 have e:(decide (a=wUser)||decide (a=Q7)||decide (a=Qbm))=false:=by
  simp only[not_or] at c2;simp[c2]
 rw[e,if_neg (by decide),b3];dsimp only;have ek:keyN a=3:=by unfold keyN;rw[if_neg c1,if_neg c2]
 have h3:3≤ws.length:=by rw[←ek,←ha];exact(QmI F).1
 by_cases c3:a=QaM∨a=wDoor
 ·have e:(decide (a=QaM)||decide (a=wDoor))=true:=by simpa using c3
  have g1:(ws.map tS).getD 1 default=tS (ws.getD 1 []):=ZO (by omega);have g2:(ws.map tS).getD 2 default=tS (ws.getD 2 []):=ZO (by omega);have l1:=w24 1 (by omega);have l2:=w24 2 (by omega);rw[e,if_pos rfl,Qd (by omega),Qd (by simp only[QaA,List.length_cons,List.length_nil];omega),Qd (by omega),QhB,g1,Qd (by simp only[QaA,List.length_append,List.length_cons,List.length_nil];omega),QhB,Qd (by simp only[QaA,List.length_append,List.length_cons,List.length_nil];omega),Qd (by omega),QhB,g2,Qd (by simp only[QaA,List.length_append,List.length_cons,List.length_nil];omega),QhB,ek];have:QbM (ws.take 3)=a++[32]++ws.getD 1 []++[32]++ws.getD 2 []:=by
   rw[←ha]
   match ws,h3 with
   |x::y::z::t,_=>simp[QbM]
  rw[this]
  rfl
 have e:(decide (a=QaM)||decide (a=wDoor))=false:=by simpa using c3
 rw[e,if_neg (by decide),ek];have:ws.length=3:=by
  simp only[not_or] at c1 c2 c3
  cases F with
  |route _ _=>rfl
  |host=>exact absurd ha.symm c1.1
  |user=>exact absurd ha.symm c2.1
  |port=>exact absurd ha.symm c2.2.1
  |port2=>exact absurd ha.symm c2.2.1
  |rule=>exact absurd ha.symm c3.1
  |peer=>exact absurd ha.symm c2.2.2
  |nat=>exact absurd ha.symm c1.2
  |door=>exact absurd ha.symm c3.2
 rw[←this,List.take_length,hj]
 rfl
theorem QdQ {α β:Type} [Inhabited α] (xs:List α) (f:α→β):(List.range xs.length).map (fun i=>f (xs.getD i default))=xs.map f:=by
 apply List.ext_getElem?
 intro i
 by_cases h:i<xs.length
 ·simp[h,List.getD_eq_getElem?_getD]
 ·simp[h]
theorem QnT {β:Type} (g:Nat→β):∀n,(List.range n).foldl (fun a i=>a++[g i]) []=(List.range n).map g
 |0=>rfl
 |n+1=>by rw[List.range_succ,List.foldl_append,QnT g n,List.map_append];rfl
theorem Qih {α β:Type} {step:List α×Int→Option ((List α×Int)⊕β)} (n:Nat) (g:Nat→α) (d:List α→β) (h1:∀(i:Nat) (a:List α),i<n→a.length=i→step (a,(i:Int))=some (.inl (a++[g i],((i+1:Nat):Int)))) (h2:∀a,a.length=n→step (a,(n:Int))=some (.inr (d a))):lp step ([],0)=some (d ((List.range n).map g)):=by
 have:=(QoJ n (fun a i=>a++[g i]) d [] (fun i a=>a.length=i) rfl (fun i a _ h=>by simp[h]) h1 h2).1;rwa[QnT] at this
theorem QqU {α β:Type} [Inhabited α] (p:α→Bool) (g:α→β) (xs:List α):(List.range xs.length).foldl (fun a i=>if p (xs.getD i default)=true then a++[g (xs.getD i default)] else a) []=(xs.filter p).map g:=by
 have key:∀n,n≤xs.length→(List.range n).foldl (fun a i=>if p (xs.getD i default)=true then a++[g (xs.getD i default)] else a) []=((xs.take n).filter p).map g:=by
  intro n
  induction n with
  |zero=>intro _;rfl
  |succ n ih=>
   intro h;rw[List.range_succ,List.foldl_append,ih (by omega),List.take_succ];have e:xs[n]? =some (xs.getD n default):=by simp[List.getD_eq_getElem?_getD,show n<xs.length by omega]
   rw[e,List.filter_append,List.map_append];show(if p (xs.getD n default)=true then _ else _)=_++(List.filter p [xs.getD n default]).map g
   by_cases hp:p (xs.getD n default)=true
   ·rw[if_pos hp,List.filter_cons,if_pos hp];rfl
   ·rw[if_neg hp,List.filter_cons,if_neg hp];simp
 have:=key xs.length (Nat.le_refl _);rwa[List.take_length] at this
theorem Qv2 {α β γ:Type} [Inhabited α] {step:List β×Int→Option ((List β×Int)⊕γ)} (xs:List α) (p:α→Bool) (g:α→β) (d:List β→γ) (h1:∀(i:Nat) (a:List β),i<xs.length→a.length≤i→step (a,(i:Int))=some (.inl (if p (xs.getD i default)=true then a++[g (xs.getD i default)] else a,((i+1:Nat):Int)))) (h2:∀a,a.length≤xs.length→step (a,(xs.length:Int))=some (.inr (d a))):lp step ([],0)=some (d ((xs.filter p).map g)):=by
 have:=(QoJ xs.length (fun a i=>if p (xs.getD i default)=true then a++[g (xs.getD i default)] else a) d [] (fun i a=>a.length≤i) (Nat.le_refl _) (fun i a _ h=>by split<;>(try simp)<;>omega) h1 h2).1;rwa[QqU] at this
theorem Qv3 {β:Type} {step:Int→Option (Int⊕β)} {s0:Int} (n s:Nat) (hs0:s0=(s:Int)) (p:Nat→Bool) (e d:β) (h1:∀i:Nat,s≤i→i<n→step i=some (if p i=true then .inl ((i+1:Nat):Int) else .inr e)) (h2:∀i:Nat,n≤i→step i=some (.inr d)):
  lp step s0=some (bif QaH n (fun i=>decide (i<s)||p i) then d else e):=by
 subst hs0;have key:∀k i:Nat,i+k=n→s≤i→(∀j,j<i→(decide (j<s)||p j)=true)→lp step (i:Int)=some (bif QaH n (fun i=>decide (i<s)||p i) then d else e):=by
  intro k
  induction k with
  |zero=>
   intro i hi hs hp;have:i=n:=by omega
   subst this;rw[ZN (h2 i (Nat.le_refl _)),QeD hp];rfl
  |succ k ih=>
   intro i hi hsi hp;have hs:=h1 i hsi (by omega)
   by_cases hpi:p i=true
   ·rw[if_pos hpi] at hs;rw[J5 hs];refine ih (i+1) (by omega) (by omega) fun j hj=>?_;rcases Nat.lt_or_ge j i with h|h
    ·exact hp j h
    ·have:j=i:=by omega
     subst this;simp[hpi]
   ·rw[if_neg hpi] at hs;rw[ZN hs,QhK (i:=i) (by omega) (by simp[hpi];omega)];rfl
 rcases Nat.lt_or_ge n s with h|h
 ·rw[ZN (h2 s (by omega)),QeD fun i hi=>by simp;omega];rfl
 ·exact key (n-s) s (by omega) (Nat.le_refl _) fun j hj=>by simp[hj]
theorem Qv4 {ls:List Bs} (h:∀l∈ls,l.length≤1000000) (hn:ls.length≤1000000):QcE (ls.map tS)=some ((ls.map Qde).map tS):=by
 unfold QcE;rw[Qih ls.length (fun i=>tS (Qde (ls.getD i []))) (fun a=>(a.length,a)) (fun i a hi ha=>?_) (fun a ha=>?_),Qa]
 ·have:=QdQ ls (fun l=>tS (Qde l));rw[List.map_map];exact congrArg some this
 ·dsimp only;rw[if_pos (by simp;omega),Qd (by simp;omega),Int.toNat_natCast,ZO hi,QuV (h _ (Qbd hi)),Qa,Qd (by simp;omega),Qm hi (by omega)]
 ·dsimp only;rw[if_neg (by simp)]
def Qk5 (ls:List Bs):Bool:=QaH ls.length fun i=>decide (i<1)||bsl (tS (ls.getD (i-1) [])) (tS (ls.getD i []))
def Qt4 (ks:List Bs):Bool:=!(QaH ks.length fun i=>!((ks.take i).any fun k=>k==ks.getD i []))
def ZI (ls:List Bs):Int:=if ls.length>16 then 1 else bif ls.any (fun l=>!QaW l) then 2 else bif !Qk5 ls then 3 else bif Qt4 (ls.map Qde) then 4 else 0
theorem Qv5 {l:Bs} (h:QaW l=true):Qde l≠ []:=by
 obtain⟨ws,hc,hb,hj,hw⟩:=Qc9 h;have W:=QcW hc;have hk:=QmI (Qt2 hb);unfold Qde;rw[h,cond_true,hw]
 cases ws with
 |nil=>exact absurd rfl (QmJ hb)
 |cons a t=>
  have ha:a≠ []:=W.ne a (by simp);generalize keyN ((a::t).getD 0 [])=k at hk
  cases k with
  |zero=>omega
  |succ k=>
   intro e;have:a++(t.take k).flatMap (fun w=>32::w)=[]:=e;exact ha (List.append_eq_nil_iff.1 this).1
theorem Qt5 (l:Bs):(tS (Qde l)==(⟨#[]⟩:Bt))=!QaW l:=by
 rw[QgR]
 cases h:QaW l
 ·unfold Qde;rw[h];rfl
 ·have:=Qv5 h
  cases hk:Qde l with
  |nil=>exact absurd hk this
  |cons _ _=>rfl
theorem Qx6 {xs:List Bs} {a:Bs}:(xs.map tS).any (· ==tS a)=xs.any fun k=>k==a:=by
 rw[List.any_map]
 congr 1
 funext k
 exact Ju k a
theorem QoX {α:Type} (xs:List α) (d:α) (p:α→Bool):xs.any p=!QaH xs.length fun i=>!p (xs.getD i d):=by
 rw[Bool.eq_iff_iff,List.any_eq_true,Bool.not_eq_true',←Bool.not_eq_true,QcV]
 constructor
 ·rintro⟨x,hx,hp⟩ h;obtain⟨i,hi,e⟩:=List.getElem_of_mem hx;have:=h i hi;rw[List.getD_eq_getElem?_getD,List.getElem?_eq_getElem hi,Option.getD_some,e,hp] at this
  cases this
 ·intro h;refine Decidable.byContradiction fun hc=>h fun i hi=>?_;have hm:xs.getD i d∈xs:=by rw[List.getD_eq_getElem?_getD,List.getElem?_eq_getElem hi];exact List.getElem_mem hi
  cases hp:p (xs.getD i d)
  ·rfl
  ·exact absurd ⟨_,hm,hp⟩ hc
theorem Qv6 {ls:List Bs} (h:∀l∈ls,l.length≤1000000) (hn:ls.length≤1000000):QcF (ls.map tS)=some (ZI ls):=by
 unfold QcF ZI;rw[Qv4 h hn];simp only[List.length_map]
 by_cases h16:ls.length>16
 ·rw[if_pos (by simp;omega),if_pos h16]
 rw[if_neg (by simp;omega),if_neg h16,Qa];rw[Qgm ls.length (fun i=>QaW (ls.getD i [])) (.inl ()) (.inr ()) (fun i hi _=>?_) (fun _=>by rw[if_neg (by simp)]),Qa]
 ·have e1:ls.any (fun l=>!QaW l)=!QaH ls.length fun i=>QaW (ls.getD i []):=by
   rw[QoX ls []];simp only[Bool.not_not]
  rw[e1]
  cases hk:QaH ls.length fun i=>QaW (ls.getD i [])
  ·rfl
  rw[if_pos rfl];dsimp only;rw[Qv3 (s0:=1) ls.length 1 rfl (fun i=>bsl (tS (ls.getD (i-1) [])) (tS (ls.getD i []))) (.inl ()) (.inr ()) (fun i h1 hi=>?_) (fun i hi=>by rw[if_neg (by simp;omega)]),Qa]
  ·rw[show(QaH ls.length fun i=>decide (i<1)||bsl (tS (ls.getD (i-1) [])) (tS (ls.getD i [])))=Qk5 ls from rfl]
   cases hs:Qk5 ls
   ·rfl
   dsimp only[cond_true];rw[Qgm ls.length (fun i=>!(((ls.map Qde).take i).any fun k=>k==(ls.map Qde).getD i [])) (.inl ()) (.inr ()) (fun i hi _=>?_) (fun _=>by rw[if_neg (by simp)]),Qa]
   ·unfold Qt4;rw[List.length_map]
    cases QaH ls.length fun i=>!(((ls.map Qde).take i).any fun k=>k==(ls.map Qde).getD i [])<;>rfl
   ·have hik:i<(ls.map Qde).length:=by rw[List.length_map];exact hi
    rw[if_pos (by simp;omega),Qd (by simp only[List.length_map];omega),Qd (by simp only[List.length_map];omega),Int.toNat_natCast,QmK,ZO hik,QuQ (by rw[List.length_map,List.length_take];omega),Qa,Qx6,Qm hi (by omega)]
    cases ((ls.map Qde).take i).any fun k=>k==(ls.map Qde).getD i []<;>rfl
  ·have e:=QjD hi (by omega) (by omega);rw[if_pos (by simp;omega),e,Qd (by omega),Qd (by omega),Int.toNat_natCast,Int.toNat_natCast,ZO (by omega),ZO hi,Qm hi (by omega)]
   cases bsl (tS (ls.getD (i-1) [])) (tS (ls.getD i []))<;>rfl
 ·have hik:i<(ls.map Qde).length:=by rw[List.length_map];exact hi
  have ek:(ls.map Qde).getD i []=Qde (ls.getD i []):=by
   simp[List.getD_eq_getElem?_getD,hi]
  rw[if_pos (by simp;omega),Qd (by simp only[List.length_map];omega),Int.toNat_natCast,ZO hik,ek,Qt5,Qm hi (by omega)]
  cases QaW (ls.getD i [])<;>rfl
end Go.Proofs.YtmnnglbioibmfaaGreatDoor
